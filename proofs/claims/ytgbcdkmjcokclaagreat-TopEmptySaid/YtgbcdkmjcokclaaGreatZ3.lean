/- Laws of its own that the claim's proof needs; no condition beyond those that each states. -/
import Derived.Test.YtgbcdkmjcokclaaGreatZ2
import Derived.Great.BuildSlice
import Derived.Shelf.Abstract
import Derived.Test.YtgbcdkmjcokclaaGreatZ1
import Derived.Maps.RangeWalk
set_option linter.unusedVariables false
set_option maxRecDepth 1000000
set_option maxHeartbeats 16000000
namespace Go.Proofs.YtgbcdkmjcokclaaGreat.tp
open Go.ChangeShapes Go.WideShapes Go.ChangeAt Go.RowKit Go.Proofs.YtgbcdkmjcokclaaGreat.lib
def byI (b:List UInt8) (i:Nat):Int:=((b.getD i 0).toNat:Int)
def woI (l:List Int) (i:Nat):Int:=l.getD i 0
def be4 (b:List UInt8) (i:Nat):Int :=
 bits .or .u32 (bits .or .u32 (bits .or .u32 (IntKind.u32.wrap (IntKind.u32.wrap (byI b (4 * i)) * 16777216)) (IntKind.u32.wrap (IntKind.u32.wrap (byI b (4 * i+1)) * 65536))) (IntKind.u32.wrap (IntKind.u32.wrap (byI b (4 * i+2)) * 256))) (IntKind.u32.wrap (byI b (4 * i+3)))
def mix (l:List Int) (i:Nat):Int :=
 IntKind.u32.wrap (IntKind.u32.wrap (IntKind.u32.wrap (woI l (i - 16)+bits .xor .u32 (bits .xor .u32 (rr (woI l (i - 15)) 33554432 128) (rr (woI l (i - 15)) 16384 262144)) (woI l (i - 15) / 8))+woI l (i - 7))+bits .xor .u32 (bits .xor .u32 (rr (woI l (i - 2)) 32768 131072) (rr (woI l (i - 2)) 8192 524288)) (woI l (i - 2) / 1024))
def sp (b:List UInt8):Nat→List Int
 | 0=>z64
 | i+1=>(sp b i).set i (if i<16 then be4 b i else mix (sp b i) i)
theorem sp_len (b:List UInt8):∀ i,(sp b i).length=64
 | 0=>z64_len
 | i+1=>by unfold sp;rw [List.length_set];exact sp_len b i
theorem by_cell {w:World} {b off n c:Nat} {l:List UInt8} (h:By w (some ⟨b,off,none⟩) n c l) (i:Nat) (hi:i<n):w.cell? ⟨b,off+i,none⟩=some (.int .u8 (byI l i)):=by
 have hl:i<l.length:=by rw [h.2];exact hi
 refine h.1.at_ ?_
 simp only [cellsB,List.getElem?_map,List.getElem?_eq_getElem hl,Option.map_some,byI,List.getD_eq_getElem?_getD,Option.getD_some]
theorem wo_cell {w:World} {g:Nat} {t:TypeId} {l:List Int} (h:Blk w g t (cellsW l).toArray) (i:Nat) (hi:i<l.length):w.cell? ⟨g,i,none⟩=some (.int .u32 (woI l i)):=by
 rw [h.cell]
 simp only [cellsW,List.getElem?_toArray,List.getElem?_map,List.getElem?_eq_getElem hi,Option.map_some,woI,List.getD_eq_getElem?_getD,Option.getD_some]
theorem Blk.setW {w:World} {g:Nat} {t:TypeId} {l:List Int} (h:Blk w g t (cellsW l).toArray) (i:Nat) (x:Int):Blk (w.setCell ⟨g,i,none⟩ (.int .u32 x)) g t (cellsW (l.set i x)).toArray:=by
 have:=h.set_ i (.int .u32 x)
 have e:(cellsW l).toArray.setIfInBounds i (.int .u32 x)=(cellsW (l.set i x)).toArray:=by simp [cellsW]
 rwa [e] at this
theorem spread_ (w:World) (A:Option Addr) (c:Nat) (b:List UInt8) (hB:By w A 64 c b):Calls Tryz.prog 239 #[.slice A 64 c] w fun e w'=>e=.returned (.agg (cellsW (sp b 64)).toArray)∧Below w.heap.size w w':=by
 obtain ⟨b0,off,rfl,_,_,hb0⟩:=hB.1.some_ (by omega)
 have HB:=Lib.hid hB
 clear hB
 have hz:=zero64
 go_enter Tryz.func239,Tryz.ntmps239
 go_upto_region 2 with fail
 obtain ⟨W,hW_,hbW,B2,B3⟩:=al2 w 367 367 ((cellsW z64).toArray) ((cellsW z64).toArray)
 rw [←hW_]
 clear hW_
 clear hz
 obtain ⟨g3,hg3⟩:∃ g,w.heap.size+1=g:=⟨_,rfl⟩
 have hg3n:w.heap.size≠g3:=by omega
 have hbg3:b0<g3:=by omega
 have hg3w:w.heap.size≤g3:=by omega
 rw [hg3] at B3 ⊢
 clear hg3
 go_wp2_with fail
 go_loopw [8] (fun i wr=>∃ k:Nat,i=.int .i64 k∧k≤16∧Blk wr w.heap.size 367 (cellsW z64).toArray∧Blk wr g3 367 (cellsW (sp b k)).toArray∧Below w.heap.size w wr) (fun i _=>16 - (intOf i).toNat)
 case atStart=>exact ⟨0,rfl,by omega,B2,B3,hbW⟩
 case round =>
  clear B2 B3 hbW
  obtain ⟨k,rfl,hk,B2,B3,hbw⟩:=hrel
  rcases Nat.lt_or_ge k 16 with hlt|hge
  ·have hd:decide ((k:Int)<16)=true:=by simp;omega
   have hk16:(k:Int)<16:=by omega
   have hk64:(k:Int)<64:=by omega
   have hw0:IntKind.i64.wrap (4 * (k:Int))=4 * (k:Int):=IntWalk.i64_in _ ⟨by omega,by omega⟩
   have hw1:IntKind.i64.wrap (4 * (k:Int)+1)=4 * (k:Int)+1:=IntWalk.i64_in _ ⟨by omega,by omega⟩
   have hw2:IntKind.i64.wrap (4 * (k:Int)+2)=4 * (k:Int)+2:=IntWalk.i64_in _ ⟨by omega,by omega⟩
   have hw3:IntKind.i64.wrap (4 * (k:Int)+3)=4 * (k:Int)+3:=IntWalk.i64_in _ ⟨by omega,by omega⟩
   have hn0:(0:Int)≤4 * (k:Int):=by omega
   have hn1:(0:Int)≤4 * (k:Int)+1:=by omega
   have hn2:(0:Int)≤4 * (k:Int)+2:=by omega
   have hn3:(0:Int)≤4 * (k:Int)+3:=by omega
   have hl0:4 * (k:Int)<64:=by omega
   have hl1:4 * (k:Int)+1<64:=by omega
   have hl2:4 * (k:Int)+2<64:=by omega
   have hl3:4 * (k:Int)+3<64:=by omega
   have ht0:(4 * (k:Int)).toNat=4 * k:=by omega
   have ht1:(4 * (k:Int)+1).toNat=4 * k+1:=by omega
   have ht2:(4 * (k:Int)+2).toNat=4 * k+2:=by omega
   have ht3:(4 * (k:Int)+3).toNat=4 * k+3:=by omega
   go_wp2_with fail
   have D:∀ w',Below wr.heap.size wr.drew w'→w'.cell? ⟨b0,off+4 * k,none⟩=some (.int .u8 (byI b (4 * k)))∧w'.cell? ⟨b0,off+(4 * k+1),none⟩=some (.int .u8 (byI b (4 * k+1)))∧w'.cell? ⟨b0,off+(4 * k+2),none⟩=some (.int .u8 (byI b (4 * k+2)))∧w'.cell? ⟨b0,off+(4 * k+3),none⟩=some (.int .u8 (byI b (4 * k+3))):=fun w' h=>by
    have hB:=(HB.out.ext hbw).ext (Below.trans (Below.refl _ _).drew h)
    exact ⟨by_cell hB _ (by omega),by_cell hB _ (by omega),by_cell hB _ (by omega),by_cell hB _ (by omega)⟩
   refine wp_region_tail (S:=fun w'=>Below wr.heap.size wr.drew w') [(0,true),(1,true),(2,true),(3,true),(4,true),(5,true),(6,true),(7,true),(8,true),(9,true),(10,true),(11,true),(12,true),(13,true),(14,true),(15,true),(16,true),(17,true),(18,true),(19,true),(20,true),(21,true),(22,true),(23,true),(24,true),(25,true),(26,true),(27,true),(28,true),(29,true),(30,true),(31,true),(32,true),(33,true),(34,true)] [(35,false)] (by kernel_rfl) (by kernel_rfl) (Below.refl _ _) ?_
   repeat ((with_reducible refine pG ?_);(first|refine pT ?_|refine pF ?_);try go_frame)
   refine wpTail_done ?_
   clear D hw0 hw1 hw2 hw3 hn0 hn1 hn2 hn3 hl0 hl1 hl2 hl3 ht0 ht1 ht2 ht3
   have q:=wo_cell (Blk.drew B3) k (by rw [sp_len];omega)
   have f:=(Blk.drew B3).frozen k
   refine pD fun K hK=>?_;go_simp
   clear q f
   have B3':=Blk.setW (Blk.drew B3) k (be4 b k)
   have e:(sp b k).set k (be4 b k)=sp b (k+1):=by
    conv=>rhs;unfold sp
    rw [if_pos hlt]
   rw [e] at B3'
   have hg4:=set_grown wr.drew g3 k (.int .u32 (be4 b k))
   have B2':=Blk.keep (F:=fun b=>b≠g3) (Blk.drew B2) (Keep.grown hg4 (fun g hg=>by injection hg with hg;simp [hg])) hg3n
   have hbw4:=(hbw.drew).grown hg4 hbw.size (fun k hk=>by injection hk with hk;omega)
   have HX:=Lib.hid (And.intro B2' (And.intro B3' hbw4))
   unfold be4 at HX
   clear B2' B3' hg4 hbw4 e
   refine hK.out _ _ trivial (wpPerm_done ?_)
   clear hK K
   go_wp2
   go_roundw
   case rel=>exact ⟨k+1,by go_num,by omega,HX.out⟩
   case measure=>simp [intOf];omega
  ·obtain rfl:k=16:=by omega
   have hd:decide (((16:Nat):Int)<16)=false:=by decide
   go_wp2_with fail
   have e16:((16:Nat):Int)=16:=rfl
   rw [e16]
   clear e16
   go_loopw [5] (fun i wr=>∃ k:Nat,i=.int .i64 k∧16≤k∧k≤64∧Blk wr w.heap.size 367 (cellsW z64).toArray∧Blk wr g3 367 (cellsW (sp b k)).toArray∧Below w.heap.size w wr) (fun i _=>64 - (intOf i).toNat)
   case atStart=>exact ⟨16,rfl,by omega,by omega,B2,B3,hbw⟩
   case round =>
    clear B2 B3 hbw
    obtain ⟨k,rfl,hk16,hk,B2,B3,hbw⟩:=hrel
    rcases Nat.lt_or_ge k 64 with hlt|hge
    ·have hd:decide ((k:Int)<64)=true:=by simp;omega
     have hk64:(k:Int)<64:=by omega
     have hw15:IntKind.i64.wrap ((k:Int) - 15)=(k:Int) - 15:=IntWalk.i64_in _ ⟨by omega,by omega⟩
     have hw16:IntKind.i64.wrap ((k:Int) - 16)=(k:Int) - 16:=IntWalk.i64_in _ ⟨by omega,by omega⟩
     have hw7:IntKind.i64.wrap ((k:Int) - 7)=(k:Int) - 7:=IntWalk.i64_in _ ⟨by omega,by omega⟩
     have hw2:IntKind.i64.wrap ((k:Int) - 2)=(k:Int) - 2:=IntWalk.i64_in _ ⟨by omega,by omega⟩
     have hn15:(15:Int)≤(k:Int):=by omega
     have hn16:(16:Int)≤(k:Int):=by omega
     have hn7:(7:Int)≤(k:Int):=by omega
     have hn2:(2:Int)≤(k:Int):=by omega
     have hl15:(k:Int) - 15<64:=by omega
     have hl16:(k:Int) - 16<64:=by omega
     have hl7:(k:Int) - 7<64:=by omega
     have hl2:(k:Int) - 2<64:=by omega
     have ht15:((k:Int) - 15).toNat=k - 15:=by omega
     have ht16:((k:Int) - 16).toNat=k - 16:=by omega
     have ht7:((k:Int) - 7).toNat=k - 7:=by omega
     have ht2:((k:Int) - 2).toNat=k - 2:=by omega
     have D:∀ w',Below wr.heap.size wr.drew w'→w'.cell? ⟨g3,k - 15,none⟩=some (.int .u32 (woI (sp b k) (k - 15)))∧w'.cell? ⟨g3,k - 2,none⟩=some (.int .u32 (woI (sp b k) (k - 2))):=fun w' h=>by
      have hB:=B3.ext (Below.trans (Below.refl _ _).drew h)
      exact ⟨wo_cell hB _ (by rw [sp_len];omega),wo_cell hB _ (by rw [sp_len];omega)⟩
     go_wp2_with fail
     refine wp_region_one [(0,true),(1,true),(2,true),(3,true),(4,true),(5,true),(6,true),(7,true),(8,true),(9,true)] (by kernel_rfl) (by kernel_rfl) (by kernel_rfl) (by decide) ?_
     repeat ((with_reducible refine pG ?_);(first|refine pT ?_|refine pF ?_);try go_frame)
     refine wpPerm_done ?_
     clear D
     have B2:=Blk.drew B2
     have B3:=Blk.drew B3
     have hbw:=hbw.drew
     generalize wr.drew=wr at *
     have D:∀ w',Below wr.heap.size wr.drew w'→w'.cell? ⟨g3,k - 16,none⟩=some (.int .u32 (woI (sp b k) (k - 16)))∧w'.cell? ⟨g3,k - 7,none⟩=some (.int .u32 (woI (sp b k) (k - 7))):=fun w' h=>by
      have hB:=B3.ext (Below.trans (Below.refl _ _).drew h)
      exact ⟨wo_cell hB _ (by rw [sp_len];omega),wo_cell hB _ (by rw [sp_len];omega)⟩
     go_wp2_with fail
     refine wp_region_tail (S:=fun w'=>Below wr.heap.size wr.drew w') [(0,true),(1,true),(2,true),(3,true),(4,true),(5,true),(7,true),(10,true),(11,true),(14,true),(15,true),(16,true),(17,true),(19,true),(21,true),(24,true),(25,true),(6,false),(8,false),(9,true),(12,true),(13,true),(18,true),(20,false),(22,false),(23,true),(26,true),(27,true),(28,true)] [(29,false)] (by kernel_rfl) (by kernel_rfl) (Below.refl _ _) ?_
     repeat ((with_reducible refine pG ?_);(first|refine pT ?_|refine pF ?_);try go_frame)
     refine pD fun K hK=>?_;go_simp
     refine (right7 _ _).mono ?_
     rintro e w' ⟨rfl,rfl⟩
     refine hK.out _ _ (Below.refl _ _) ?_
     clear hK K
     refine pD fun K hK=>?_;go_simp
     refine (right18 _ _).mono ?_
     rintro e w' ⟨rfl,rfl⟩
     refine hK.out _ _ (Below.refl _ _) ?_
     clear hK K
     repeat ((with_reducible refine pG ?_);(first|refine pT ?_|refine pF ?_);try go_frame)
     refine pD fun K hK=>?_;go_simp
     refine (right17 _ _).mono ?_
     rintro e w' ⟨rfl,rfl⟩
     refine hK.out _ _ (Below.refl _ _) ?_
     clear hK K
     refine pD fun K hK=>?_;go_simp
     refine (right19 _ _).mono ?_
     rintro e w' ⟨rfl,rfl⟩
     refine hK.out _ _ (Below.refl _ _) ?_
     clear hK K
     repeat ((with_reducible refine pG ?_);(first|refine pT ?_|refine pF ?_);try go_frame)
     refine wpTail_done ?_
     clear D
     have q:=wo_cell (Blk.drew B3) k (by rw [sp_len];omega)
     have f:=(Blk.drew B3).frozen k
     refine pD fun K hK=>?_;go_simp
     clear q f
     have B3':=Blk.setW (Blk.drew B3) k (mix (sp b k) k)
     have e:(sp b k).set k (mix (sp b k) k)=sp b (k+1):=by
      conv=>rhs;unfold sp
      rw [if_neg (by omega)]
     rw [e] at B3'
     have hg4:=set_grown wr.drew g3 k (.int .u32 (mix (sp b k) k))
     have B2':=Blk.keep (F:=fun b=>b≠g3) (Blk.drew B2) (Keep.grown hg4 (fun g hg=>by injection hg with hg;simp [hg])) hg3n
     have hbw4:=(hbw.drew).grown hg4 hbw.size (fun k hk=>by injection hk with hk;omega)
     have HX:=Lib.hid (And.intro B2' (And.intro B3' hbw4))
     unfold mix at HX
     clear B2' B3' hg4 hbw4 e
     refine hK.out _ _ trivial (wpPerm_done ?_)
     clear hK K
     go_wp2
     go_roundw
     case rel=>exact ⟨k+1,by go_num,by omega,by omega,HX.out⟩
     case measure=>simp [intOf];omega
    ·obtain rfl:k=64:=by omega
     have hd:decide (((64:Nat):Int)<64)=false:=by decide
     obtain ⟨S,hS⟩:∃ S,sp b 64=S:=⟨_,rfl⟩
     have hSl:S.length=64:=by rw [←hS];exact sp_len b 64
     have HS:=Lib.hid hS
     rw [hS] at B3
     clear hS
     have hsz:=size64 S hSl
     have hth:=Blk.there (o:=0) (n:=64) B2 (by rw [lenW,z64_len];omega)
     go_wp2_with (first|((with_reducible show wpList _ _ _ (Oper.mk (some 88) _ _ _ _ _::_) _ _);(refine wpList_load_mid rfl 367 _ rfl g3 0 rfl (cellsW S) _ (Blk.whole B3) Tryz.underlying367 rfl hsz ?_)) |
      ((with_reducible show wpList _ _ _ (Oper.mk none _ _ _ _ _::_) _ _);(refine wpList_store_mid rfl 367 _ _ rfl w.heap.size 0 (cellsW S).toArray rfl rfl ?s1 ?s2 (all_oneCell_toArray (oneW _)) ?_)))
     case s1=>exact (show (cellsW S).toArray.size=64 by simp [lenW,hSl]) ▸ hth
     case s2=>exact (show (cellsW S).toArray.size=(cellsW S).length by simp) ▸ hsz
     obtain ⟨B4,hg4⟩:=Blk.lay (cellsW S) 0 B2 (by rw [lenW,lenW,z64_len,hSl];omega)
     rw [laid_all _ _ (by rw [lenW,lenW,z64_len,hSl])] at B4
     have hbw4:=hbw.grown hg4 hbw.size (fun k hk=>by injection hk with hk;omega)
     generalize wr.setCells w.heap.size 0 (cellsW S)=W4 at *
     clear hth B2 B3 hg4
     go_wp2
     exact bodyPost_ret (v:=.agg (cellsW S).toArray) (results_cell_row rfl _ _ w.heap.size _ _ (0,0) _ rfl B4 Tryz.underlying367 rfl (by rw [List.size_toArray];exact hsz)) rfl ⟨by rw [HS.out],hbw4⟩
attribute [irreducible] sp
def rndX (T:List Int) (k w:Int):Int :=
 IntKind.u32.wrap (IntKind.u32.wrap (IntKind.u32.wrap (IntKind.u32.wrap (woI T 7+bits .xor .u32 (bits .xor .u32 (rr (woI T 4) 67108864 64) (rr (woI T 4) 2097152 2048)) (rr (woI T 4) 128 33554432)) +
  bits .xor .u32 (bits .and .u32 (woI T 4) (woI T 5)) (bits .and .u32 (bits .xor .u32 (if IntKind.u32.signed=true then -1 else IntKind.u32.max) (woI T 4)) (woI T 6)))+k)+w)
def rndY (T:List Int):Int :=
 IntKind.u32.wrap (bits .xor .u32 (bits .xor .u32 (rr (woI T 0) 1073741824 4) (rr (woI T 0) 524288 8192)) (rr (woI T 0) 1024 4194304)+bits .xor .u32 (bits .xor .u32 (bits .and .u32 (woI T 0) (woI T 1)) (bits .and .u32 (woI T 0) (woI T 2))) (bits .and .u32 (woI T 1) (woI T 2)))
def rnd (T:List Int) (k w:Int):List Int :=
 [IntKind.u32.wrap (rndX T k w+rndY T),woI T 0,woI T 1,woI T 2,IntKind.u32.wrap (woI T 3+rndX T k w),woI T 4,woI T 5,woI T 6]
def rnds (s W:List Int):Nat→List Int
 | 0=>s
 | i+1=>rnd (rnds s W i) (woI keysL i) (woI W i)
theorem rnds_succ (s W:List Int) (i:Nat):rnds s W (i+1)=rnd (rnds s W i) (woI keysL i) (woI W i):=rfl
theorem rnds_len (s W:List Int) (h:s.length=8):∀ i,(rnds s W i).length=8
 | 0=>h
 | i+1=>rfl
def fin (T s:List Int):Nat→List Int
 | 0=>T
 | i+1=>(fin T s i).set i (IntKind.u32.wrap (woI (fin T s i) i+woI s i))
theorem fin_succ (T s:List Int) (i:Nat):fin T s (i+1)=(fin T s i).set i (IntKind.u32.wrap (woI (fin T s i) i+woI s i)):=rfl
theorem fin_len (T s:List Int) (h:T.length=8):∀ i,(fin T s i).length=8
 | 0=>h
 | i+1=>by unfold fin;rw [List.length_set];exact fin_len T s h i
def addL (s:List Int) (b:List UInt8):List Int:=fin (rnds s (sp b 64) 64) s 8
theorem addL_len (s:List Int) (b:List UInt8) (h:s.length=8):(addL s b).length=8:=fin_len _ _ (rnds_len _ _ h _) _
attribute [irreducible] rnds fin addL
def z8:List Int:=List.replicate 8 0
theorem zero8 (w:World):(zeroValue 348).run Tryz.prog w=.ok (.agg (cellsW z8).toArray) w:=by kernel_rfl
theorem wpList_buildP {P:Program} {ops:Array Oper} {rest:List Oper} {o:Oper} {a:Act} {w:World} {Q:Exit→Act→World→Prop} (hg:o.guard=none) (t:TypeId) (parts:Array (Nat × Operand)) (ho:o.op=.build t parts) {cs:Array Value} {ps:List (Nat × Value)}
  (hps:parts.toList.map (fun x=>(x.1,a.eval x.2))=ps) (hf:P.built t ps=some cs) (d:Option Tmp) (hd:o.dst=d) (h:wpList P ops Q rest (a.put d (.agg cs)) w):wpList P ops Q (o::rest) a w:=by
 have hq:(parts.map fun (x:Nat × Operand)=>(x.1,a.eval x.2)).toList=ps:=by rw [Array.toList_map];exact hps
 exact wpList_buildTo hg t parts ho d hd cs (by rw [show (parts.map fun (i,x)=>(i,a.eval x)).toList=ps from hq];exact hf) h
theorem built_state (a0 a1 a2 a3 a4 a5 a6 a7:Int):Tryz.prog.built 348 [(0,.int .u32 a0),(1,.int .u32 a1),(2,.int .u32 a2),(3,.int .u32 a3),(4,.int .u32 a4),(5,.int .u32 a5),(6,.int .u32 a6),(7,.int .u32 a7)]=some (cellsW [a0,a1,a2,a3,a4,a5,a6,a7]).toArray:=by kernel_rfl
theorem built_rnd (T:List Int) (k w X Y:Int) (hX:X=rndX T k w) (hY:Y=rndY T):Tryz.prog.built 348 [(0,.int .u32 (IntKind.u32.wrap (X+Y))),(1,.int .u32 (woI T 0)),(2,.int .u32 (woI T 1)),(3,.int .u32 (woI T 2)),(4,.int .u32 (IntKind.u32.wrap (woI T 3+X))),(5,.int .u32 (woI T 4)),(6,.int .u32 (woI T 5)),(7,.int .u32 (woI T 6))]=some (cellsW (rnd T k w)).toArray:=by
 subst hX hY
 exact built_state _ _ _ _ _ _ _ _
theorem add_ (w:World) (A:Option Addr) (c:Nat) (b:List UInt8) (s:List Int) (hs:s.length=8) (hB:By w A 64 c b):Calls Tryz.prog 222 #[.agg (cellsW s).toArray,.slice A 64 c] w fun e w'=>e=.returned (.agg (cellsW (addL s b)).toArray)∧Below w.heap.size w w':=by
 have HB:=Lib.hid hB
 clear hB
 have hz:=zero64
 have hz8:=zero8
 go_enter Tryz.func222,Tryz.ntmps222
 go_upto_region 1 with fail
 obtain ⟨W,hW_,hbW,BS,BR⟩:=al2 w 348 348 ((cellsW s).toArray) ((cellsW z8).toArray)
 rw [←hW_]
 clear hW_
 obtain ⟨gr,hgr⟩:∃ g,w.heap.size+1=g:=⟨_,rfl⟩
 have hgrn:w.heap.size<gr:=by omega
 rw [hgr] at BR ⊢
 clear hgr
 have HS:=Lib.hid (spread_ W A c b (HB.out.ext hbW))
 obtain ⟨SW,hSW⟩:∃ S,sp b 64=S:=⟨_,rfl⟩
 have hSWl:SW.length=64:=by rw [←hSW];exact sp_len b 64
 have HSW:=Lib.hid hSW
 rw [hSW] at HS
 clear hSW
 go_wp2_with fail
 refine HS.out.mono ?_
 rintro e w3 ⟨rfl,hb3⟩
 have hbw3:=Below.trans hbW (Below.mono hb3 hbW.size)
 have BS3:=BS.ext hb3
 have BR3:=BR.ext hb3
 clear HS hb3 BS BR hbW
 have HKy:=Lib.hid (keys_ w3)
 go_wp2_with fail
 refine HKy.out.mono ?_
 rintro e w4 ⟨rfl,hb4⟩
 have hbw4:=Below.trans hbw3 (Below.mono hb4 hbw3.size)
 have BS4:=BS3.ext hb4
 have BR4:=BR3.ext hb4
 clear HKy hb4 BS3 BR3 hbw3
 obtain ⟨KL,hKL⟩:∃ S,keysL=S:=⟨_,rfl⟩
 have hKLl:KL.length=64:=by rw [←hKL];rfl
 have HKL:=Lib.hid hKL
 rw [hKL]
 clear hKL
 have hsS:=size64 SW hSWl
 have hsK:=size64 KL hKLl
 have C5:Blk ((w4.alloc (.cells (cellsW z64).toArray 367)).alloc (.cells (cellsW z64).toArray 367)) w4.heap.size 367 (cellsW z64).toArray:=(Blk.new w4 _ _).alloc _
 have C6:Blk ((w4.alloc (.cells (cellsW z64).toArray 367)).alloc (.cells (cellsW z64).toArray 367)) (w4.heap.size+1) 367 (cellsW z64).toArray:=blk_new_at _ _ _ _ (by simp)
 have hb5:Below w4.heap.size w4 ((w4.alloc (.cells (cellsW z64).toArray 367)).alloc (.cells (cellsW z64).toArray 367)):=((Below.refl _ _).alloc (Nat.le_refl _) _).alloc (by simp) _
 obtain ⟨X,hX⟩:∃ X,X=((w4.alloc (.cells (cellsW z64).toArray 367)).alloc (.cells (cellsW z64).toArray 367)):=⟨_,rfl⟩
 rw [←hX] at C5 C6 hb5
 have hth5:=Blk.there (o:=0) (n:=64) C5 (by rw [lenW,z64_len];omega)
 obtain ⟨D5,hg5⟩:=Blk.lay (cellsW SW) 0 C5 (by rw [lenW,lenW,z64_len,hSWl];omega)
 rw [laid_all _ _ (by rw [lenW,lenW,z64_len,hSWl])] at D5
 have C6':=Blk.keep (F:=fun b=>b≠w4.heap.size) C6 (Keep.grown hg5 (fun g hg=>by injection hg with hg;simp [hg])) (by omega)
 have hth6:=Blk.there (o:=0) (n:=64) C6' (by rw [lenW,z64_len];omega)
 obtain ⟨D6,hg6⟩:=Blk.lay (cellsW KL) 0 C6' (by rw [lenW,lenW,z64_len,hKLl];omega)
 rw [laid_all _ _ (by rw [lenW,lenW,z64_len,hKLl])] at D6
 have D5':=Blk.keep (F:=fun b=>b≠w4.heap.size+1) D5 (Keep.grown hg6 (fun g hg=>by injection hg with hg;simp [hg])) (by omega)
 have hb6:Below w4.heap.size w4 ((X.setCells w4.heap.size 0 (cellsW SW)).setCells (w4.heap.size+1) 0 (cellsW KL)):=(hb5.grown hg5 hb5.size (fun k hk=>by injection hk with hk;omega)).grown hg6 (by have:=hb5.size;have:=hg5.size;omega) (fun k hk=>by injection hk with hk;omega)
 subst hX
 go_upto_region 2 with (first|((with_reducible show wpList _ _ _ (Oper.mk none (Op.store _ (Operand.tmp 5) _) _ _ _ _::_) _ _);(refine wpList_store_mid rfl 367 _ _ rfl w4.heap.size 0 (cellsW SW).toArray rfl rfl ?s1 ?s2 (all_oneCell_toArray (oneW _)) ?_)) |
  ((with_reducible show wpList _ _ _ (Oper.mk none (Op.store _ (Operand.tmp 6) _) _ _ _ _::_) _ _);(refine wpList_store_mid rfl 367 _ _ rfl (w4.heap.size+1) 0 (cellsW KL).toArray rfl rfl ?s3 ?s4 (all_oneCell_toArray (oneW _)) ?_)))
 case s1=>exact (show (cellsW SW).toArray.size=64 by simp [lenW,hSWl]) ▸ hth5
 case s2=>exact (show (cellsW SW).toArray.size=(cellsW SW).length by simp) ▸ hsS
 case s3=>rw [lenW,hKLl];exact hth6
 case s4=>exact (show (cellsW KL).toArray.size=(cellsW KL).length by simp) ▸ hsK
 have BS6:=BS4.ext hb6
 have BR6:=BR4.ext hb6
 have hbw6:=Below.trans hbw4 (Below.mono hb6 hbw4.size)
 have hw4r:gr<w4.heap.size:=BR4.lt
 obtain ⟨g5,hg5e⟩:∃ g,w4.heap.size=g:=⟨_,rfl⟩
 rw [hg5e] at D5' D6 BS6 BR6 hbw6 hw4r ⊢
 generalize (((w4.alloc (.cells (cellsW z64).toArray 367)).alloc (.cells (cellsW z64).toArray 367)).setCells g5 0 (cellsW SW)).setCells (g5+1) 0 (cellsW KL)=W6 at *
 clear D5 C5 C6 C6' hth5 hth6 hg5 hg6 hb5 hb6 BS4 BR4 hbw4 hg5e
 have hs8:=size8 s hs
 have hcs:(cellsW s).length=8:=by rw [lenW,hs]
 have C7:=Blk.new W6 348 (cellsW z8).toArray
 have hth7:=Blk.there (o:=0) (n:=8) C7 (by simp [lenW,z8])
 obtain ⟨BT,hg7⟩:=Blk.lay (cellsW s) 0 C7 (by rw [hcs];simp [lenW,z8])
 rw [laid_all _ _ (by rw [hcs];simp [lenW,z8])] at BT
 have hb7:Below W6.heap.size W6 ((W6.alloc (.cells (cellsW z8).toArray 348)).setCells W6.heap.size 0 (cellsW s)):=((Below.refl _ _).alloc (Nat.le_refl _) _).grown hg7 (by simp) (fun k hk=>by injection hk with hk;omega)
 clear hg7 C7
 go_upto_region 3 with (first|((with_reducible show wpList _ _ _ (Oper.mk (some 17) _ _ _ _ _::_) _ _);(refine wpList_load_mid rfl 348 _ rfl w.heap.size 0 rfl (cellsW s) _ (Blk.whole BS6) Tryz.underlying348 rfl hs8 ?_)) |
  ((with_reducible show wpList _ _ _ (Oper.mk none (Op.store _ (Operand.tmp 7) _) _ _ _ _::_) _ _);(refine wpList_store_mid rfl 348 _ _ rfl W6.heap.size 0 (cellsW s).toArray rfl rfl ?s5 ?s6 (all_oneCell_toArray (oneW _)) ?_)))
 case s5=>exact (show (cellsW s).toArray.size=8 by simp [hcs]) ▸ hth7
 case s6=>rw [List.size_toArray];exact hs8
 generalize (W6.alloc (.cells (cellsW z8).toArray 348)).setCells W6.heap.size 0 (cellsW s)=W7 at *
 clear hth7
 have BS7:=BS6.ext hb7
 have BR7:=BR6.ext hb7
 have DW7:=D5'.ext hb7
 have DK7:=D6.ext hb7
 have hbw7:=Below.trans hbw6 (Below.mono hb7 hbw6.size)
 have hg5w:g5+1<W6.heap.size:=D6.lt
 obtain ⟨gt,hgt⟩:∃ g,W6.heap.size=g:=⟨_,rfl⟩
 rw [hgt] at BT hg5w ⊢
 clear hb7 BS6 BR6 D5' D6 hbw6 hgt hcs hz hz8
 have hT0:rnds s SW 0=s:=by unfold rnds;rfl
 go_wp2_with fail
 go_loopw [18] (fun i wr=>∃ k:Nat,i=.int .i64 k∧k≤64∧Blk wr gt 348 (cellsW (rnds s SW k)).toArray∧Blk wr w.heap.size 348 (cellsW s).toArray∧Blk wr gr 348 (cellsW z8).toArray∧Blk wr g5 367 (cellsW SW).toArray∧Blk wr (g5+1) 367 (cellsW KL).toArray∧Below w.heap.size w wr) (fun i _=>64 - (intOf i).toNat)
 case atStart=>exact ⟨0,rfl,by omega,by rw [hT0];exact BT,BS7,BR7,DW7,DK7,hbw7⟩
 case round =>
  clear BT BS7 BR7 DW7 DK7 hbw7
  obtain ⟨k,rfl,hk,BT,BS,BR,DW,DK,hbw⟩:=hrel
  rcases Nat.lt_or_ge k 64 with hlt|hge
  ·have hd:decide ((k:Int)<64)=true:=by simp;omega
   have hk64:(k:Int)<64:=by omega
   obtain ⟨T,hT⟩:∃ T,rnds s SW k=T:=⟨_,rfl⟩
   have hTl:T.length=8:=by rw [←hT];exact rnds_len s SW hs k
   have HT:=Lib.hid hT
   rw [hT] at BT
   clear hT
   have D:∀ w',Below wr.heap.size wr.drew w'→(w'.cell? ⟨gt,0,none⟩=some (.int .u32 (woI T 0))∧w'.cell? ⟨gt,1,none⟩=some (.int .u32 (woI T 1))∧w'.cell? ⟨gt,2,none⟩=some (.int .u32 (woI T 2))∧w'.cell? ⟨gt,3,none⟩=some (.int .u32 (woI T 3))∧w'.cell? ⟨gt,4,none⟩=some (.int .u32 (woI T 4))∧w'.cell? ⟨gt,5,none⟩=some (.int .u32 (woI T 5))∧w'.cell? ⟨gt,6,none⟩=some (.int .u32 (woI T 6))∧w'.cell? ⟨gt,7,none⟩=some (.int .u32 (woI T 7)))∧w'.cell? ⟨g5,k,none⟩=some (.int .u32 (woI SW k))∧w'.cell? ⟨g5+1,k,none⟩=some (.int .u32 (woI KL k)):=fun w' h=>by
    have hB:=BT.ext (Below.trans (Below.refl _ _).drew h)
    exact ⟨⟨wo_cell hB 0 (by omega),wo_cell hB 1 (by omega),wo_cell hB 2 (by omega),wo_cell hB 3 (by omega),wo_cell hB 4 (by omega),wo_cell hB 5 (by omega),wo_cell hB 6 (by omega),wo_cell hB 7 (by omega)⟩,wo_cell (DW.ext (Below.trans (Below.refl _ _).drew h)) k (by omega),wo_cell (DK.ext (Below.trans (Below.refl _ _).drew h)) k (by omega)⟩
   go_wp2_with fail
   refine wp_region_one [(0,true),(1,true),(2,true),(3,true),(4,true),(5,true)] (by kernel_rfl) (by kernel_rfl) (by kernel_rfl) (by decide) ?_
   repeat ((with_reducible refine pG ?_);(first|refine pT ?_|refine pF ?_);try go_frame)
   refine wpPerm_done ?_
   clear D
   have BT:=Blk.drew BT
   have BS:=Blk.drew BS
   have BR:=Blk.drew BR
   have DW:=Blk.drew DW
   have DK:=Blk.drew DK
   have hbw:=hbw.drew
   generalize wr.drew=wr at *
   have D:∀ w',Below wr.heap.size wr.drew w'→(w'.cell? ⟨gt,0,none⟩=some (.int .u32 (woI T 0))∧w'.cell? ⟨gt,1,none⟩=some (.int .u32 (woI T 1))∧w'.cell? ⟨gt,2,none⟩=some (.int .u32 (woI T 2))∧w'.cell? ⟨gt,3,none⟩=some (.int .u32 (woI T 3))∧w'.cell? ⟨gt,4,none⟩=some (.int .u32 (woI T 4))∧w'.cell? ⟨gt,5,none⟩=some (.int .u32 (woI T 5))∧w'.cell? ⟨gt,6,none⟩=some (.int .u32 (woI T 6))∧w'.cell? ⟨gt,7,none⟩=some (.int .u32 (woI T 7)))∧w'.cell? ⟨g5,k,none⟩=some (.int .u32 (woI SW k))∧w'.cell? ⟨g5+1,k,none⟩=some (.int .u32 (woI KL k)):=fun w' h=>by
    have hB:=BT.ext (Below.trans (Below.refl _ _).drew h)
    exact ⟨⟨wo_cell hB 0 (by omega),wo_cell hB 1 (by omega),wo_cell hB 2 (by omega),wo_cell hB 3 (by omega),wo_cell hB 4 (by omega),wo_cell hB 5 (by omega),wo_cell hB 6 (by omega),wo_cell hB 7 (by omega)⟩,wo_cell (DW.ext (Below.trans (Below.refl _ _).drew h)) k (by omega),wo_cell (DK.ext (Below.trans (Below.refl _ _).drew h)) k (by omega)⟩
   go_upto_region 7 with fail
   go_cut [11] from 25 to 54 (fun v wx=>∃ X,X=rndX T (woI KL k) (woI SW k)∧v=.int .u32 X∧wx=wr.drew)
   case first =>
    refine wp_region_one [(0,true),(1,true),(2,true),(4,true),(7,true),(11,true),(12,true),(13,true),(14,true),(15,true),(16,true),(17,true),(18,true),(19,true),(20,true),(22,true),(23,true),(24,true),(26,true),(27,true),(28,true),(3,false),(5,false),(6,true),(8,false),(9,true),(10,true),(21,true),(25,true),(29,true),(30,true)] (by kernel_rfl) (by kernel_rfl) (by kernel_rfl) (by decide) ?_
    repeat ((with_reducible refine pG ?_);(first|refine pT ?_|refine pF ?_);try go_frame)
    refine pD fun K hK=>?_;go_simp
    refine (right6 _ _).mono ?_
    rintro e w' ⟨rfl,rfl⟩
    refine hK.out _ _ (Below.refl _ _) ?_
    clear hK K
    refine pD fun K hK=>?_;go_simp
    refine (right11 _ _).mono ?_
    rintro e w' ⟨rfl,rfl⟩
    refine hK.out _ _ (Below.refl _ _) ?_
    clear hK K
    repeat ((with_reducible refine pG ?_);(first|refine pT ?_|refine pF ?_);try go_frame)
    refine pD fun K hK=>?_;go_simp
    refine (right25 _ _).mono ?_
    rintro e w' ⟨rfl,rfl⟩
    refine hK.out _ _ (Below.refl _ _) ?_
    clear hK K
    repeat ((with_reducible refine pG ?_);(first|refine pT ?_|refine pF ?_);try go_frame)
    refine wpPerm_done ?_
    go_wp2_with fail
    go_meet
    refine ⟨_,?_,rfl,rfl⟩
    unfold rndX
    rfl
   case rest =>
   obtain ⟨X,HX,rfl,rfl⟩:=hcut
   replace HX:=Lib.hid HX
   clear D
   have BT:=Blk.drew BT
   have BS:=Blk.drew BS
   have BR:=Blk.drew BR
   have DW:=Blk.drew DW
   have DK:=Blk.drew DK
   have hbw:=hbw.drew
   generalize wr.drew=wr at *
   have D:∀ w',Below wr.heap.size wr.drew w'→(w'.cell? ⟨gt,0,none⟩=some (.int .u32 (woI T 0))∧w'.cell? ⟨gt,1,none⟩=some (.int .u32 (woI T 1))∧w'.cell? ⟨gt,2,none⟩=some (.int .u32 (woI T 2))∧w'.cell? ⟨gt,3,none⟩=some (.int .u32 (woI T 3))∧w'.cell? ⟨gt,4,none⟩=some (.int .u32 (woI T 4))∧w'.cell? ⟨gt,5,none⟩=some (.int .u32 (woI T 5))∧w'.cell? ⟨gt,6,none⟩=some (.int .u32 (woI T 6))∧w'.cell? ⟨gt,7,none⟩=some (.int .u32 (woI T 7)))∧w'.cell? ⟨g5,k,none⟩=some (.int .u32 (woI SW k))∧w'.cell? ⟨g5+1,k,none⟩=some (.int .u32 (woI KL k)):=fun w' h=>by
    have hB:=BT.ext (Below.trans (Below.refl _ _).drew h)
    exact ⟨⟨wo_cell hB 0 (by omega),wo_cell hB 1 (by omega),wo_cell hB 2 (by omega),wo_cell hB 3 (by omega),wo_cell hB 4 (by omega),wo_cell hB 5 (by omega),wo_cell hB 6 (by omega),wo_cell hB 7 (by omega)⟩,wo_cell (DW.ext (Below.trans (Below.refl _ _).drew h)) k (by omega),wo_cell (DK.ext (Below.trans (Below.refl _ _).drew h)) k (by omega)⟩
   go_upto_region 8 with fail
   go_cut [12] from 55 to 78 (fun v wx=>∃ Y,Y=rndY T∧v=.int .u32 Y∧wx=wr.drew)
   case first =>
    refine wp_region_one [(0,true),(2,true),(5,true),(8,true),(9,true),(10,true),(11,true),(12,true),(13,true),(14,true),(15,true),(16,true),(17,true),(18,true),(19,true),(20,true),(21,true),(22,true),(1,false),(3,false),(4,true),(6,false),(7,true),(23,true),(24,true)] (by kernel_rfl) (by kernel_rfl) (by kernel_rfl) (by decide) ?_
    repeat ((with_reducible refine pG ?_);(first|refine pT ?_|refine pF ?_);try go_frame)
    refine pD fun K hK=>?_;go_simp
    refine (right2 _ _).mono ?_
    rintro e w' ⟨rfl,rfl⟩
    refine hK.out _ _ (Below.refl _ _) ?_
    clear hK K
    refine pD fun K hK=>?_;go_simp
    refine (right13 _ _).mono ?_
    rintro e w' ⟨rfl,rfl⟩
    refine hK.out _ _ (Below.refl _ _) ?_
    clear hK K
    repeat ((with_reducible refine pG ?_);(first|refine pT ?_|refine pF ?_);try go_frame)
    refine pD fun K hK=>?_;go_simp
    refine (right22 _ _).mono ?_
    rintro e w' ⟨rfl,rfl⟩
    refine hK.out _ _ (Below.refl _ _) ?_
    clear hK K
    repeat ((with_reducible refine pG ?_);(first|refine pT ?_|refine pF ?_);try go_frame)
    refine wpPerm_done ?_
    go_wp2_with fail
    go_meet
    refine ⟨_,?_,rfl,rfl⟩
    unfold rndY
    rfl
   case rest =>
   obtain ⟨Y,HY,rfl,rfl⟩:=hcut
   replace HY:=Lib.hid HY
   clear D
   have BT:=Blk.drew BT
   have BS:=Blk.drew BS
   have BR:=Blk.drew BR
   have DW:=Blk.drew DW
   have DK:=Blk.drew DK
   have hbw:=hbw.drew
   generalize wr.drew=wr at *
   have q:=And.intro (wo_cell BT 0 (by omega)) (And.intro (wo_cell BT 1 (by omega)) (And.intro (wo_cell BT 2 (by omega)) (And.intro (wo_cell BT 3 (by omega)) (And.intro (wo_cell BT 4 (by omega)) (And.intro (wo_cell BT 5 (by omega)) (wo_cell BT 6 (by omega)))))))
   have hth:=Blk.there (o:=0) (n:=8) BT (by rw [lenW,hTl];omega)
   have hs8':(Tryz.prog.info? 348).map (·.size)=some (cellsW (rnd T (woI KL k) (woI SW k))).length:=size8 _ rfl
   obtain ⟨BT2,hgT⟩:=Blk.lay (cellsW (rnd T (woI KL k) (woI SW k))) 0 BT (by rw [lenW,lenW,hTl];show 0+8≤8;omega)
   rw [laid_all _ _ (by rw [lenW,lenW,hTl];rfl)] at BT2
   go_upto_region 10 with (first|((with_reducible show wpList _ _ _ (Oper.mk none (Op.store _ (Operand.tmp 7) _) _ _ _ _::_) _ _);(refine wpList_store_mid rfl 348 _ _ rfl gt 0 (cellsW (rnd T (woI KL k) (woI SW k))).toArray rfl rfl ?s5 ?s6 (all_oneCell_toArray (oneW _)) ?_)) |
    ((with_reducible show wpList _ _ _ (Oper.mk (some 98) (Op.build _ _) _ _ _ _::_) _ _);(refine wpList_buildP rfl 348 _ rfl (cs:=(cellsW (rnd T (woI KL k) (woI SW k))).toArray) rfl (built_rnd T (woI KL k) (woI SW k) X Y HX.out HY.out) (some 98) rfl ?_)))
   case s5=>exact (show (cellsW (rnd T (woI KL k) (woI SW k))).toArray.size=8 from rfl) ▸ hth
   case s6=>rw [List.size_toArray];exact hs8'
   have e8:(cellsW (rnd T (woI KL k) (woI SW k))).toArray.size=8:=rfl
   have BS:=Blk.keep (F:=fun b=>b≠gt) BS (Keep.grown hgT (fun g hg=>by injection hg with hg;simp [hg])) (by omega)
   have BR:=Blk.keep (F:=fun b=>b≠gt) BR (Keep.grown hgT (fun g hg=>by injection hg with hg;simp [hg])) (by omega)
   have DW:=Blk.keep (F:=fun b=>b≠gt) DW (Keep.grown hgT (fun g hg=>by injection hg with hg;simp [hg])) (by omega)
   have DK:=Blk.keep (F:=fun b=>b≠gt) DK (Keep.grown hgT (fun g hg=>by injection hg with hg;simp [hg])) (by omega)
   have hbw:=hbw.grown hgT hbw.size (fun k hk=>by injection hk with hk;omega)
   generalize wr.setCells gt 0 (cellsW (rnd T (woI KL k) (woI SW k)))=wr at *
   rw [show rnd T (woI KL k) (woI SW k)=rnds s SW (k+1) by rw [←HT.out,←HKL.out,rnds_succ]] at BT2
   clear hgT BT q hth hs8'
   have HZ:=Lib.hid (And.intro BT2 (And.intro BS (And.intro BR (And.intro DW (And.intro DK hbw)))))
   clear BT2 BS BR DW DK hbw
   go_wp2_with fail
   go_roundw
   case rel=>exact ⟨k+1,by go_num,by omega,HZ.out⟩
   case measure=>simp [intOf];omega
  ·obtain rfl:k=64:=by omega
   have hd:decide (((64:Nat):Int)<64)=false:=by decide
   obtain ⟨T2,hT2⟩:∃ S,rnds s SW 64=S:=⟨_,rfl⟩
   have hT2l:T2.length=8:=by rw [←hT2];exact rnds_len s SW hs 64
   have HT2:=Lib.hid hT2
   rw [hT2] at BT
   clear hT2 DW DK
   have hF0:fin T2 s 0=T2:=by unfold fin;rfl
   go_wp2_with fail
   have e64:((64:Nat):Int)=64:=rfl
   rw [e64]
   clear e64
   go_loopw [100] (fun i wr=>∃ j:Nat,i=.int .i64 j∧j≤8∧Blk wr gt 348 (cellsW (fin T2 s j)).toArray∧Blk wr w.heap.size 348 (cellsW s).toArray∧Blk wr gr 348 (cellsW z8).toArray∧Below w.heap.size w wr) (fun i _=>8 - (intOf i).toNat)
   case atStart=>exact ⟨0,rfl,by omega,by rw [hF0];exact BT,BS,BR,hbw⟩
   case round =>
    clear BT BS BR hbw
    obtain ⟨j,rfl,hj,BT,BS,BR,hbw⟩:=hrel
    rcases Nat.lt_or_ge j 8 with hlt|hge
    ·have hd:decide ((j:Int)<8)=true:=by simp;omega
     have hj8:(j:Int)<8:=by omega
     obtain ⟨F,hF⟩:∃ T,fin T2 s j=T:=⟨_,rfl⟩
     have hFl:F.length=8:=by rw [←hF];exact fin_len T2 s hT2l j
     have HF:=Lib.hid hF
     rw [hF] at BT
     clear hF
     go_wp2_with fail
     have D:∀ w',Below wr.heap.size wr.drew w'→w'.cell? ⟨gt,j,none⟩=some (.int .u32 (woI F j))∧w'.cell? ⟨w.heap.size,j,none⟩=some (.int .u32 (woI s j)):=fun w' h =>
      ⟨wo_cell (BT.ext (Below.trans (Below.refl _ _).drew h)) j (by omega),wo_cell (BS.ext (Below.trans (Below.refl _ _).drew h)) j (by omega)⟩
     refine wp_region_tail (S:=fun w'=>Below wr.heap.size wr.drew w') [(0,true),(1,true),(2,true),(3,true),(4,true),(5,true),(6,true),(7,true)] [(8,false)] (by kernel_rfl) (by kernel_rfl) (Below.refl _ _) ?_
     repeat ((with_reducible refine pG ?_);(first|refine pT ?_|refine pF ?_);try go_frame)
     refine wpTail_done ?_
     clear D
     have q:=wo_cell (Blk.drew BT) j (by omega)
     have f:=(Blk.drew BT).frozen j
     refine pD fun K hK=>?_;go_simp
     clear q f
     have BT':=Blk.setW (Blk.drew BT) j (IntKind.u32.wrap (woI F j+woI s j))
     rw [show F.set j (IntKind.u32.wrap (woI F j+woI s j))=fin T2 s (j+1) by rw [fin_succ,HF.out]] at BT'
     have hg4:=set_grown wr.drew gt j (.int .u32 (IntKind.u32.wrap (woI F j+woI s j)))
     have BS':=Blk.keep (F:=fun b=>b≠gt) (Blk.drew BS) (Keep.grown hg4 (fun g hg=>by injection hg with hg;simp [hg])) (by omega)
     have BR':=Blk.keep (F:=fun b=>b≠gt) (Blk.drew BR) (Keep.grown hg4 (fun g hg=>by injection hg with hg;simp [hg])) (by omega)
     have hbw4:=(hbw.drew).grown hg4 hbw.size (fun k hk=>by injection hk with hk;omega)
     have HX:=Lib.hid (And.intro BT' (And.intro BS' (And.intro BR' hbw4)))
     clear BT' BS' BR' hg4 hbw4
     refine hK.out _ _ trivial (wpPerm_done ?_)
     clear hK K
     go_wp2
     go_roundw
     case rel=>exact ⟨j+1,by go_num,by omega,HX.out⟩
     case measure=>simp [intOf];omega
    ·obtain rfl:j=8:=by omega
     have hd:decide (((8:Nat):Int)<8)=false:=by decide
     obtain ⟨S,hS⟩:∃ S,fin T2 s 8=S:=⟨_,rfl⟩
     have hSl:S.length=8:=by rw [←hS];exact fin_len T2 s hT2l 8
     have HS:=Lib.hid hS
     rw [hS] at BT
     clear hS
     have hsz:=size8 S hSl
     have hth:=Blk.there (o:=0) (n:=8) BR (by simp [lenW,z8])
     go_wp2_with (first|((with_reducible show wpList _ _ _ (Oper.mk (some 112) _ _ _ _ _::_) _ _);(refine wpList_load_mid rfl 348 _ rfl gt 0 rfl (cellsW S) _ (Blk.whole BT) Tryz.underlying348 rfl hsz ?_)) |
      ((with_reducible show wpList _ _ _ (Oper.mk none _ _ _ _ _::_) _ _);(refine wpList_store_mid rfl 348 _ _ rfl gr 0 (cellsW S).toArray rfl rfl ?s1 ?s2 (all_oneCell_toArray (oneW _)) ?_)))
     case s1=>exact (show (cellsW S).toArray.size=8 by simp [lenW,hSl]) ▸ hth
     case s2=>exact (show (cellsW S).toArray.size=(cellsW S).length by simp) ▸ hsz
     obtain ⟨B4,hg4⟩:=Blk.lay (cellsW S) 0 BR (by rw [lenW,lenW,hSl];simp [z8])
     rw [laid_all _ _ (by rw [lenW,lenW,hSl];simp [z8])] at B4
     have hbw4:=hbw.grown hg4 hbw.size (fun k hk=>by injection hk with hk;omega)
     generalize wr.setCells gr 0 (cellsW S)=W4 at *
     clear hth BT BR hg4
     go_wp2
     exact bodyPost_ret (v:=.agg (cellsW S).toArray) (results_cell_row rfl _ _ gr _ _ (0,0) _ rfl B4 Tryz.underlying348 rfl (by rw [List.size_toArray];exact hsz)) rfl ⟨by unfold addL;rw [HSW.out,HT2.out,HS.out],hbw4⟩
def KeepT (T:TypeId) (w w':World):Prop:=∀ g t cs,t≠T→Blk w g t cs→Blk w' g t cs
theorem KeepT.refl (T:TypeId) (w:World):KeepT T w w:=fun _ _ _ _ h=>h
theorem KeepT.trans {T:TypeId} {a b c:World} (h:KeepT T a b) (k:KeepT T b c):KeepT T a c:=fun g t cs ht hB=>k g t cs ht (h g t cs ht hB)
theorem KeepT.alloc {T:TypeId} {a b:World} (h:KeepT T a b) (o:Obj):KeepT T a (b.alloc o):=fun g t cs ht hB=>Blk.alloc (h g t cs ht hB) o
theorem KeepT.grown {T:TypeId} {a b:World} {B s n N c:Nat} {A:Option Addr} {xs:List Value} (ho:a.ownsRow B T s (.slice A n c) N xs) (hg:a.grownBy b (Value.slice A n c).ownBlock):KeepT T a b:=fun g t cs ht hB=>by
 refine (hg.block g hB.lt fun he=>?_).trans hB
 rcases ho.2 with ⟨h1,_⟩|⟨g',cap,cur,h1,_,h3,_⟩
 ·injection h1 with h1 _ _
  rw [h1] at he
  cases he
 ·injection h1 with h1 _ _
  rw [h1] at he
  injection he with he
  rw [he] at hB
  have:=hB.symm.trans h3
  injection this with this
  injection this with _ h5 _
  exact ht h5
def zn (n:Nat):Nat:=(119 - n % 64) % 64
def be8 (k N:Nat):List UInt8:=(List.range k).map fun j=>UInt8.ofNat (N / 256 ^ (7 - j))
theorem be8_len (k N:Nat):(be8 k N).length=k:=by simp [be8]
theorem be8_succ (k N:Nat):be8 (k+1) N=be8 k N++[UInt8.ofNat (N / 256 ^ (7 - k))]:=by simp [be8,List.range_succ]
theorem be8_at (N k:Nat) (hk:k<8):([.int .u8 ((N:Int) / 2 ^ (56 - 8 * k) % 256)]:List Value)=cellsB [UInt8.ofNat (N / 256 ^ (7 - k))]:=by
 have h2:(2:Int) ^ (56 - 8 * k)=((256 ^ (7 - k):Nat):Int):=by
  rw [show 56 - 8 * k=8 * (7 - k) by omega,Int.pow_mul,show (2:Int) ^ 8=256 from rfl,Int.natCast_pow];rfl
 have h3:(N:Int) / ((256 ^ (7 - k):Nat):Int) % 256=((UInt8.ofNat (N / 256 ^ (7 - k))).toNat:Int):=by
  rw [UInt8.toNat_ofNat']
  generalize 256 ^ (7 - k)=M
  omega
 rw [h2,h3]
 rfl
def padL (l:List UInt8):List UInt8:=l++[128]++List.replicate (zn l.length) 0++be8 8 (l.length * 8)
theorem padL_len (l:List UInt8):(padL l).length=64 * ((padL l).length / 64):=by
 have:(padL l).length=l.length+1+zn l.length+8:=by simp [padL,be8_len];omega
 rw [this]
 unfold zn
 omega
theorem u64_in {x:Int} (h0:0≤x) (h1:x<9223372036854775808):IntKind.u64.wrap x=x:=by
 have:IntKind.u64.wrap x=x % 18446744073709551616:=rfl
 rw [this]
 omega
def lenV:Value→Nat | .slice _ m _=>m|_=>0
def OwnP (B:Nat) (l:List UInt8) (w:World) (e:Ending) (w':World):Prop:=∃ A c,e=.returned (.slice A l.length c)∧w'.ownsRow B 5 1 (.slice A l.length c) l.length (cellsB l)∧Below B w w'∧KeepT 5 w w'
theorem padded_ (B:Nat) (l:List UInt8) (A:Option Addr) (n c:Nat) (w:World) (hB:w.ownsRow B 5 1 (.slice A n c) n (cellsB l)) (hl:l.length=n) (hn:n≤500000) (hBw:B≤w.heap.size) :
  Calls Tryz.prog 221 #[.slice A n c] w (OwnP B (padL l) w):=by
 obtain ⟨i0,hi,hy0,hy1,hy2⟩:=info_parts (P:=Tryz.prog) (e:=5) (z:=.int .u8 0) (size:=1) (bytes:=1) (by kernel_rfl)
 have HO:=Lib.hid hB
 have HL:=Lib.hid hl
 clear hB hl
 have hw8:IntKind.u64.wrap ((n:Int) * 8)=(n:Int) * 8:=u64_in (by omega) (by omega)
 go_enter Tryz.func221,Tryz.ntmps221
 go_wp2_with (at_builtin;(refine wpList_append_own _ rfl (.tmp 9) (.tmp 10) 91 rfl B 5 i0 _ 1 1 Tryz.underlying91 hi hy0 hy1 hy2 rfl (by decide) _ n _ rfl (HO.out.alloc _) ⟨w.heap.size,0,none⟩ 1 1 [.int .u8 128] rfl ?a1 ?a2 ?a3 ?a4 ?a5 ?a6 ?_))
 all_goals try (case a1=>rfl)
 all_goals try (case a2=>exact (Row.of_blk (Blk.new w _ _) (Nat.zero_le _) 1 1 (Nat.le_refl _)).src)
 all_goals try (case a3=>intro u hu;rw [List.mem_singleton] at hu;rw [hu];rfl)
 all_goals try (case a4=>unfold maxLen;omega)
 all_goals try (case a5=>omega)
 all_goals try (case a6=>simp;omega)
 intro v1 w1 hown hgrow _
 obtain ⟨A1,c1,rfl⟩:=own_slice hown
 have hlw:=HO.out.lt
 have hbx:=((Below.refl B w).alloc hBw (.cells #[.int .u8 128] 5)).grown hgrow (by simp;omega) (fun b hb=>by have:=(hlw b hb).1;omega)
 have hkt:KeepT 5 w w1:=((KeepT.refl _ w).alloc (.cells #[.int .u8 128] 5)).trans (KeepT.grown (HO.out.alloc _) hgrow)
 have HO1:=Lib.hid (show w1.ownsRow _ _ _ _ _ (cellsB (l++[128]++List.replicate 0 0)) from by rw [List.replicate_zero,List.append_nil,cellsB_append];exact hown)
 clear hown hgrow hlw HO
 go_wp2_with fail
 go_loopw [0] (fun o wr=>∃ (k:Nat) (A2:Option Addr) (c2:Nat),o=.slice A2 (n+1+k) c2∧k≤zn n∧wr.ownsRow B 5 1 (.slice A2 (n+1+k) c2) (n+1+k) (cellsB (l++[128]++List.replicate k 0))∧Below B w wr∧KeepT 5 w wr) (fun o _=>n+1+zn n - lenV o)
 case atStart=>exact ⟨0,A1,c1,rfl,Nat.zero_le _,HO1.out,hbx,hkt⟩
 case round =>
  clear HO1 hbx hkt
  obtain ⟨k,A2,c2,rfl,hk,hown,hbx,hkt⟩:=hrel
  have HO:=Lib.hid hown
  clear hown
  have hz:(n+1+zn n) % 64=56∧zn n<64:=by unfold zn;omega
  by_cases h8:k<zn n
  case pos =>
   have hd:((((n:Int)+1+(k:Int)) % 64) != 56)=true:=by simp;omega
   go_wp2_with (at_builtin;(refine wpList_append_own _ rfl (.tmp 16) (.tmp 17) 91 rfl B 5 i0 _ 1 1 Tryz.underlying91 hi hy0 hy1 hy2 rfl (by decide) _ (n+1+k) _ rfl (HO.out.alloc _) ⟨wr.heap.size,0,none⟩ 1 1 [.int .u8 0] rfl ?b1 ?b2 ?b3 ?b4 ?b5 ?b6 ?_))
   all_goals try (case b1=>rfl)
   all_goals try (case b2=>exact (Row.of_blk (Blk.new wr _ _) (Nat.zero_le _) 1 1 (Nat.le_refl _)).src)
   all_goals try (case b3=>intro u hu;rw [List.mem_singleton] at hu;rw [hu];rfl)
   all_goals try (case b4=>unfold maxLen;omega)
   all_goals try (case b5=>omega)
   all_goals try (case b6=>have:=hbx.size;simp;omega)
   intro v1 w2 hown hgrow _
   obtain ⟨A3,c3,rfl⟩:=own_slice hown
   have hlw:=HO.out.lt
   have hbx2:=(hbx.alloc (Nat.le_trans hBw hbx.size) (.cells #[.int .u8 0] 5)).grown hgrow (by have:=hbx.size;simp;omega) (fun b hb=>by have:=(hlw b hb).1;omega)
   have hkt2:KeepT 5 w w2:=(hkt.alloc (.cells #[.int .u8 0] 5)).trans (KeepT.grown (HO.out.alloc _) hgrow)
   have HO2:=Lib.hid (show w2.ownsRow _ _ _ _ _ (cellsB (l++[128]++List.replicate (k+1) 0)) from by rw [List.replicate_succ',←List.append_assoc,cellsB_append,List.append_assoc];exact hown)
   clear hown hgrow hlw HO hbx hkt hd
   go_wp2_with fail
   go_roundw
   case rel=>exact ⟨k+1,A3,c3,rfl,by omega,HO2.out,hbx2,hkt2⟩
   case measure=>simp [lenV];omega
  obtain rfl:k=zn n:=by omega
  have hd:((((n:Int)+1+(zn n:Int)) % 64) != 56)=false:=by simp;omega
  obtain ⟨L,hL⟩:∃ L,L=l++[128]++List.replicate (zn n) 0:=⟨_,rfl⟩
  rw [←hL] at HO
  have HLL:=Lib.hid hL
  have hLl:L.length=n+1+zn n:=by rw [hL];simp [HL.out];omega
  clear hL
  have HLl:=Lib.hid hLl
  clear hLl
  go_wp2_with fail
  have hHO:=HO.out
  go_loopw [0,19] (fun o j wr=>∃ (k:Nat) (A2:Option Addr) (c2:Nat),o=.slice A2 (n+1+zn n+k) c2∧j=.int .i64 (k:Int)∧k≤8∧wr.ownsRow B 5 1 (.slice A2 (n+1+zn n+k) c2) (n+1+zn n+k) (cellsB (L++be8 k (n * 8)))∧Below B w wr∧KeepT 5 w wr) (fun _ j _=>8 - (intOf j).toNat)
  case atStart=>exact ⟨0,A2,c2,rfl,rfl,by omega,by simpa [be8] using hHO,hbx,hkt⟩
  case round =>
   clear HO hbx hkt hHO hd
   obtain ⟨k,A2,c2,rfl,rfl,hk,hown,hbx,hkt⟩:=hrel
   have HO:=Lib.hid hown
   clear hown
   by_cases h8:k<8
   case pos =>
    have hd:decide ((k:Int)<8)=true:=by simp;omega
    have hk8:(k:Int)<8:=by omega
    have HU:=Lib.hid (show ([.int .u8 ((n:Int) * 8 / 2 ^ (56 - 8 * k) % 256)]:List Value)=cellsB [UInt8.ofNat (n * 8 / 256 ^ (7 - k))] by have:=be8_at (n * 8) k h8;rw [Int.natCast_mul] at this;exact this)
    have hw1:IntKind.i64.wrap (8 * (k:Int))=8 * (k:Int):=IntWalk.i64_in _ ⟨by omega,by omega⟩
    have hw2:IntKind.i64.wrap (56 - 8 * (k:Int))=56 - 8 * (k:Int):=IntWalk.i64_in _ ⟨by omega,by omega⟩
    have hw3:(0:Int)≤56 - 8 * (k:Int):=by omega
    have hw4:(56 - 8 * (k:Int)).toNat=56 - 8 * k:=by omega
    go_wp2_with (at_builtin;(refine wpList_append_own _ rfl (.tmp 22) (.tmp 29) 91 rfl B 5 i0 _ 1 1 Tryz.underlying91 hi hy0 hy1 hy2 rfl (by decide) _ (n+1+zn n+k) _ rfl (HO.out.alloc _) ⟨wr.heap.size,0,none⟩ 1 1 [.int .u8 ((n:Int) * 8 / 2 ^ (56 - 8 * k) % 256)] rfl ?d1 ?d2 ?d3 ?d4 ?d5 ?d6 ?_))
    all_goals try (case d1=>rfl)
    all_goals try (case d2=>exact (Row.of_blk (Blk.new wr _ _) (Nat.zero_le _) 1 1 (Nat.le_refl _)).src)
    all_goals try (case d3=>intro u hu;rw [List.mem_singleton] at hu;rw [hu];rfl)
    all_goals try (case d4=>unfold maxLen;omega)
    all_goals try (case d5=>omega)
    all_goals try (case d6=>have:=hbx.size;simp;omega)
    intro v1 w2 hown hgrow _
    obtain ⟨A3,c3,rfl⟩:=own_slice hown
    have hlw:=HO.out.lt
    have hbx2:=(hbx.alloc (Nat.le_trans hBw hbx.size) (.cells #[.int .u8 ((n:Int) * 8 / 2 ^ (56 - 8 * k) % 256)] 5)).grown hgrow (by have:=hbx.size;simp;omega) (fun b hb=>by have:=(hlw b hb).1;omega)
    have hkt2:KeepT 5 w w2:=(hkt.alloc (.cells #[.int .u8 ((n:Int) * 8 / 2 ^ (56 - 8 * k) % 256)] 5)).trans (KeepT.grown (HO.out.alloc _) hgrow)
    have HO2:=Lib.hid hown
    rw [HU.out] at HO2
    have HO3:=Lib.hid (show w2.ownsRow _ _ _ _ _ (cellsB (L++be8 (k+1) (n * 8))) from by rw [be8_succ,←List.append_assoc,cellsB_append];exact HO2.out)
    clear hown hgrow hlw HO HO2 hbx hkt hd hw1 hw2 hw3 hw4
    go_wp2_with fail
    go_roundw
    case rel=>exact ⟨k+1,A3,c3,rfl,by go_num,by omega,HO3.out,hbx2,hkt2⟩
    case measure=>simp [intOf];omega
   obtain rfl:k=8:=by omega
   have hd:decide (((8:Nat):Int)<8)=false:=by decide
   go_wp2_with fail
   go_ret
   have hl:padL l=L++be8 8 (n * 8):=by unfold padL;rw [HL.out,HLL.out]
   have hl2:(padL l).length=n+1+zn n+8:=by rw [hl,List.length_append,be8_len,HLl.out]
   exact ⟨A2,c2,by rw [hl2];rfl,by rw [hl2,hl];exact HO.out,hbx,hkt⟩
theorem own_keepT {T:TypeId} {w w':World} {B k n:Nat} {t:TypeId} {v:Value} {xs:List Value} (h:w.ownsRow B t k v n xs) (hk:KeepT T w w') (ht:t≠T):w'.ownsRow B t k v n xs:=by
 refine ⟨h.1,?_⟩
 rcases h.2 with hn|⟨g,cap,cur,h1,h2,h3,h4⟩
 ·exact .inl hn
 ·exact .inr ⟨g,cap,cur,h1,h2,hk g t cur ht h3,h4⟩
theorem KeepT.below {T:TypeId} {w w':World} (h:Below w.heap.size w w'):KeepT T w w':=fun g t cs _ hB=>hB.ext h
theorem KeepT.blk {T:TypeId} {w w':World} {g:Nat} {cs:Array Value} (h:w.grownBy w' (some g)) (hg:Blk w g T cs):KeepT T w w':=fun g' t cs' ht hB=>by
 refine (h.block g' hB.lt fun he=>?_).trans hB
 injection he with he
 subst he
 have:=hB.symm.trans hg
 injection this with this
 injection this with _ h5 _
 exact ht h5
theorem KeepT.drew {T:TypeId} {w w':World} (h:KeepT T w w'):KeepT T w w'.drew:=fun g t cs ht hB=>Blk.drew (h g t cs ht hB)
def adds (P:List UInt8):Nat→List Int
 | 0=>begunL
 | k+1=>addL (adds P k) ((P.drop (64 * k)).take 64)
theorem adds_succ (P:List UInt8) (k:Nat):adds P (k+1)=addL (adds P k) ((P.drop (64 * k)).take 64):=rfl
theorem adds_len (P:List UInt8):∀ k,(adds P k).length=8
 | 0=>by unfold adds;rfl
 | k+1=>addL_len _ _ (adds_len P k)
theorem adds_zero (P:List UInt8):adds P 0=begunL:=rfl
attribute [irreducible] adds
def hb (s:List Int) (i:Nat):UInt8:=UInt8.ofNat (woI s (i / 4) / 2 ^ (24 - 8 * (i % 4)) % 256).toNat
theorem hb_at (s:List Int) (i:Nat):IntKind.u8.wrap (woI s (i / 4) / 2 ^ (24 - 8 * (i % 4)))=((hb s i).toNat:Int):=by
 unfold hb
 rw [UInt8.toNat_ofNat',show ∀ z,IntKind.u8.wrap z=z % 256 from fun _=>rfl]
 omega
def hbs (s:List Int) (h:List UInt8):Nat→List UInt8
 | 0=>h
 | i+1=>(hbs s h i).set i (hb s i)
theorem hbs_len (s:List Int) (h:List UInt8):∀ i,(hbs s h i).length=h.length
 | 0=>rfl
 | i+1=>by unfold hbs;rw [List.length_set];exact hbs_len s h i
theorem hbs_succ (s:List Int) (h:List UInt8) (i:Nat):hbs s h (i+1)=(hbs s h i).set i (hb s i):=rfl
theorem hbs_zero (s:List Int) (h:List UInt8):hbs s h 0=h:=rfl
theorem hbs_step (T:List Int) (l4:List Value) (h4:l4.length=4) (h:List UInt8) (k:Nat):(l4++cellsB (hbs T h k)).toArray.setIfInBounds (4+k) (.int .u8 ((hb T k).toNat:Int))=(l4++cellsB (hbs T h (k+1))).toArray:=by
 rw [List.setIfInBounds_toArray,List.set_append_right _ _ (by omega),hbs_succ,show 4+k - l4.length=k by omega]
 simp [cellsB]
attribute [irreducible] hbs
def h0:List UInt8:=List.replicate 32 0
theorem h0_len:h0.length=32:=rfl
def shaL (l:List UInt8):List UInt8:=hbs (adds (padL l) ((padL l).length / 64)) h0 32
theorem shaL_len (l:List UInt8):(shaL l).length=32:=hbs_len _ _ _
attribute [irreducible] h0 shaL
theorem sum_ (B x:Nat) (l:List UInt8) (A:Option Addr) (n c:Nat) (w:World) (hX:Blk w x 314 (([.slice A n c,.int .u32 0,.int .i32 1,.int .u32 0]:List Value)++cellsB h0).toArray) (hB:w.ownsRow B 5 1 (.slice A n c) n (cellsB l)) (hl:l.length=n) (hn:n≤400000) (hBw:B≤w.heap.size) (hBx:B≤x) :
  Calls Tryz.prog 189 #[.pointer (some ⟨x,0,none⟩)] w fun e w'=>e=.returned (.tuple #[])∧∃ A' c',Blk w' x 314 (([.slice A' n c',.int .u32 0,.int .i32 1,.int .u32 0]:List Value)++cellsB (shaL l)).toArray∧Below B w w':=by
 have HO:=Lib.hid hB
 have HL:=Lib.hid hl
 have HX:=Lib.hid hX
 clear hB hl hX
 have HG:=Lib.hid (begun_ w)
 have hz8:=zero8
 go_enter Tryz.func189,Tryz.ntmps189
 go_wp2_with fail
 refine HG.out.mono ?_
 rintro e w1 ⟨rfl,hb1⟩
 clear HG
 obtain ⟨S,hS⟩:∃ S,begunL=S:=⟨_,rfl⟩
 have hSl:S.length=8:=by rw [←hS];rfl
 have HS:=Lib.hid hS
 rw [hS]
 clear hS
 have hs8:=size8 S hSl
 have C7:=Blk.new w1 348 (cellsW z8).toArray
 have hth7:=Blk.there (o:=0) (n:=8) C7 (by simp [lenW,z8])
 obtain ⟨BT,hg7⟩:=Blk.lay (cellsW S) 0 C7 (by rw [lenW,hSl];simp [lenW,z8])
 rw [laid_all _ _ (by rw [lenW,hSl];simp [lenW,z8])] at BT
 have hb7:Below w1.heap.size w1 ((w1.alloc (.cells (cellsW z8).toArray 348)).setCells w1.heap.size 0 (cellsW S)):=((Below.refl _ _).alloc (Nat.le_refl _) _).grown hg7 (by simp) (fun k hk=>by injection hk with hk;omega)
 clear hg7 C7
 go_upto_region 1 with ((with_reducible show wpList _ _ _ (Oper.mk none (Op.store _ (Operand.tmp 2) _) _ _ _ _::_) _ _);(refine wpList_store_mid rfl 348 _ _ rfl w1.heap.size 0 (cellsW S).toArray rfl rfl ?s5 ?s6 (all_oneCell_toArray (oneW _)) ?_))
 case s5=>exact (show (cellsW S).toArray.size=8 by simp [lenW,hSl]) ▸ hth7
 case s6=>rw [List.size_toArray];exact hs8
 generalize (w1.alloc (.cells (cellsW z8).toArray 348)).setCells w1.heap.size 0 (cellsW S)=W7 at *
 have hxl:=HX.out.lt
 obtain ⟨gs,hgs⟩:∃ g,w1.heap.size=g:=⟨_,rfl⟩
 have hgsB:B≤gs:=by have:=hb1.size;omega
 have hxg:x≠gs:=by have:=hb1.size;omega
 have BX:=(HX.out.ext hb1).ext hb7
 have HO7:=Lib.hid (own_ext (own_ext HO.out hb1) hb7)
 have hbw7:=(Below.mono hb1 hBw).trans (Below.mono hb7 (Nat.le_trans hBw hb1.size))
 rw [hgs] at BT ⊢
 clear hgs hb1 hb7 hth7 HO HX hz8
 have HP:=Lib.hid (padded_ B l A n c W7 HO7.out HL.out (by omega) (Nat.le_trans hBw hbw7.size))
 obtain ⟨P,hP⟩:∃ P,padL l=P:=⟨_,rfl⟩
 have HPP:=Lib.hid hP
 obtain ⟨q,hq⟩:∃ q,P.length=64 * q:=⟨_,by rw [←hP];exact padL_len l⟩
 have hq0:0<q:=by
  have:0<P.length:=by rw [←hP];simp [padL];omega
  omega
 have hq1:64 * q≤400100:=by rw [←hq,←hP];have:=HL.out;simp [padL,be8_len,zn];omega
 rw [hP] at HP
 have q0:=BX.cell 0
 have HQ:=Lib.hid hq
 clear hP hq
 go_wp2_with fail
 refine HP.out.mono ?_
 rintro e w2 ⟨A2,c2,rfl,hown,hb2,hkt2⟩
 rw [HQ.out] at hown ⊢
 have BX2:=hkt2 _ _ _ (by decide) BX
 have BT2:=hkt2 _ _ _ (by decide) BT
 have hbw2:=hbw7.trans hb2
 obtain ⟨bp,rfl⟩:∃ bp,A2=some ⟨bp,0,none⟩:=by
  rcases hown.2 with ⟨_,h⟩|⟨g,_,_,h,_⟩
  ·omega
  ·injection h with h _ _;exact ⟨g,h⟩
 have HO:=Lib.hid hown
 clear hown BX BT hkt2 hb2 hbw7 q0 HP HO7
 have ha0:adds P 0=S:=by rw [adds_zero,HS.out]
 rw [←ha0] at BT2
 go_wp2_with fail
 go_loopw [3] (fun b wr=>∃ (k r off c':Nat),Hid (q=k+r)∧b=.slice (some ⟨bp,off,none⟩) (64 * r) c'∧64 * r≤c'∧64 * r≤400100∧Hid (0<r→off=64 * k)∧Blk wr gs 348 (cellsW (adds P k)).toArray∧Blk wr x 314 (([.slice A n c,.int .u32 0,.int .i32 1,.int .u32 0]:List Value)++cellsB h0).toArray∧Hid (wr.ownsRow B 5 1 (.slice (some ⟨bp,0,none⟩) (64 * q) c2) (64 * q) (cellsB P))∧Below B w wr) (fun b _=>lenV b)
 case atStart=>exact ⟨0,q,0,c2,Lib.hid (by omega),rfl,(By.of_own HO.out).1.le_,hq1,Lib.hid (fun _=>rfl),BT2,BX2,HO,hbw2⟩
 case round =>
  clear HO BT2 BX2 hbw2 ha0
  obtain ⟨k,r,off,c',HK,rfl,hrc,hr4,HOF,BT,BX,HO,hbw⟩:=hrel
  rcases Nat.eq_zero_or_pos r with rfl|hr
  ·have hd:decide (((64 * 0:Nat):Int) > 0)=false:=by decide
   obtain rfl:q=k:=by have:=HK.out;omega
   obtain ⟨T,hT⟩:∃ T,adds P q=T:=⟨_,rfl⟩
   have hTl:T.length=8:=by rw [←hT];exact adds_len P q
   have HT:=Lib.hid hT
   rw [hT] at BT
   clear hT HO
   go_wp2_with fail
   rw [Nat.mul_zero]
   have hBX0:Blk wr x 314 (([.slice A n c,.int .u32 0,.int .i32 1,.int .u32 0]:List Value)++cellsB (hbs T h0 0)).toArray:=by rw [hbs_zero];exact BX
   go_loopw [20] (fun i wr=>∃ k:Nat,i=.int .i64 k∧k≤32∧Blk wr gs 348 (cellsW T).toArray∧Blk wr x 314 (([.slice A n c,.int .u32 0,.int .i32 1,.int .u32 0]:List Value)++cellsB (hbs T h0 k)).toArray∧Below B w wr) (fun i _=>32 - (intOf i).toNat)
   case atStart=>exact ⟨0,rfl,by omega,BT,hBX0,hbw⟩
   case round =>
    clear BT BX hBX0 hbw
    obtain ⟨k,rfl,hk,BT,BX,hbw⟩:=hrel
    rcases Nat.lt_or_ge k 32 with hlt|hge
    ·have hd:decide ((k:Int)<32)=true:=by simp;omega
     have hk32:(k:Int)<32:=by omega
     have hw0:((k:Int)).tmod 4=(k:Int) % 4:=Int.tmod_eq_emod_of_nonneg (by omega)
     have hw1:IntKind.i64.wrap ((k:Int) / 4)=(k:Int) / 4:=IntWalk.i64_in _ ⟨by omega,by omega⟩
     have hw2:IntKind.i64.wrap (8 * ((k:Int) % 4))=8 * ((k:Int) % 4):=IntWalk.i64_in _ ⟨by omega,by omega⟩
     have hw3:IntKind.i64.wrap (24 - 8 * ((k:Int) % 4))=24 - 8 * ((k:Int) % 4):=IntWalk.i64_in _ ⟨by omega,by omega⟩
     have hn1:(0:Int)≤(k:Int) / 4:=by omega
     have hn2:(k:Int) / 4<8:=by omega
     have hn3:(0:Int)≤24 - 8 * ((k:Int) % 4):=by omega
     have ht1:((k:Int) / 4).toNat=k / 4:=by omega
     have ht2:(24 - 8 * ((k:Int) % 4)).toNat=24 - 8 * (k % 4):=by omega
     go_wp2_with fail
     have D:∀ w',Below wr.heap.size wr.drew w'→w'.cell? ⟨gs,k / 4,none⟩=some (.int .u32 (woI T (k / 4))):=fun w' h =>
      wo_cell (BT.ext (Below.trans (Below.refl _ _).drew h)) (k / 4) (by omega)
     refine wp_region_tail (S:=fun w'=>Below wr.heap.size wr.drew w') [(0,true),(1,true),(2,true),(3,true),(4,true),(5,true),(6,true),(7,true),(8,true),(9,true),(10,true),(11,true),(12,true),(13,true),(14,true)] [(15,false)] (by kernel_rfl) (by kernel_rfl) (Below.refl _ _) ?_
     repeat ((with_reducible refine pG ?_);(first|refine pT ?_|refine pF ?_);try go_frame)
     refine wpTail_done ?_
     clear D hw0 hw1 hw2 hw3 hn1 hn2 hn3 ht1 ht2
     rw [hb_at]
     have hlk:(hbs T h0 k).length=32:=by rw [hbs_len];exact h0_len
     have q:∃ u,wr.drew.cell? ⟨x,4+k,none⟩=some u:=by
      rw [(Blk.drew BX).cell (4+k)]
      exact ⟨_,Array.getElem?_eq_getElem (by simp [lenB,hlk];omega)⟩
     obtain ⟨u,q⟩:=q
     have f:=(Blk.drew BX).frozen (4+k)
     refine pD fun K hK=>?_;go_simp
     clear q f
     have hg4:=set_grown wr.drew x (4+k) (.int .u8 ((hb T k).toNat:Int))
     have BX4:=Blk.set_ (Blk.drew BX) (4+k) (.int .u8 ((hb T k).toNat:Int))
     rw [hbs_step T _ rfl] at BX4
     have BT4:=Blk.keep (F:=fun b=>b≠x) (Blk.drew BT) (Keep.grown hg4 (fun g hg=>by injection hg with hg;simp [hg])) (Ne.symm hxg)
     have hbw4:=(hbw.drew).grown hg4 (Nat.le_trans hBw hbw.size) (fun k hk=>by injection hk with hk;omega)
     have HZ:=Lib.hid (And.intro BT4 (And.intro BX4 hbw4))
     clear BT4 BX4 hg4 hbw4 BT BX hbw
     refine hK.out _ _ trivial (wpPerm_done ?_)
     clear hK K
     go_wp2
     go_roundw
     case rel=>exact ⟨k+1,by go_num,by omega,HZ.out⟩
     case measure=>simp [intOf];omega
    ·obtain rfl:k=32:=by omega
     have hd:decide (((32:Nat):Int)<32)=false:=by decide
     go_wp2_with fail
     first|go_end0|refine bodyPost_ret (results_none rfl _ _ _) rfl ?_
     exact ⟨rfl,A,c,by unfold shaL;rw [HPP.out,show P.length / 64=q by have:=HQ.out;omega,HT.out];exact BX,hbw⟩
  ·obtain rfl:off=64 * k:=HOF.out hr
   clear HOF
   obtain ⟨r1,rfl⟩:∃ r1,r=r1+1:=⟨r - 1,by omega⟩
   have hPd:P.length=64 * k+(64+(64 * r1)):=by have:=HQ.out;have:=HK.out;omega
   have hBy:=By.of_own HO.out
   rw [show P=P.take (64 * k)++((P.drop (64 * k)).take 64++(P.drop (64 * k)).drop 64) by rw [List.take_append_drop,List.take_append_drop]] at hBy
   have hl1:(P.take (64 * k)).length=64 * k:=by rw [List.length_take];omega
   have hl2:((P.drop (64 * k)).take 64).length=64:=by rw [List.length_take,List.length_drop];omega
   have hmid:=By.mid hBy c' (by omega)
   rw [hl1,hl2,Nat.zero_add] at hmid
   have HM:=Lib.hid hmid
   clear hBy hmid hl1 hl2 hPd
   obtain ⟨T,hT⟩:∃ T,adds P k=T:=⟨_,rfl⟩
   have hTl:T.length=8:=by rw [←hT];exact adds_len P k
   have HT:=Lib.hid hT
   rw [hT] at BT
   clear hT
   have hts:=size8 T hTl
   have h64:(64:Int)≤c':=by omega
   have hd:decide ((0:Int)<64 * ((r1:Int)+1))=true:=by simp;omega
   go_wp2_with fail
   refine wp_region_tail (S:=fun w'=>Below wr.heap.size wr.drew w') [(0,true),(1,true),(2,true),(3,false)] [(4,false)] (by kernel_rfl) (by kernel_rfl) (Below.refl _ _) ?_
   refine wpPerm_on rfl rfl (wanted_free rfl) (fun w' hS=>exec_load_mid 348 (.tmp 2) rfl gs 0 rfl (cellsW T) _ (Blk.whole ((Blk.drew BT).ext hS)) Tryz.underlying348 rfl hts) ?_
   go_frame
   repeat ((with_reducible refine pG ?_);(first|refine pT ?_|refine pF ?_);try go_frame)
   have HA:=Lib.hid (add_ wr.drew (some ⟨bp,64 * k,none⟩) c' ((P.drop (64 * k)).take 64) T hTl (HM.out.ext (Below.refl _ _).drew))
   refine pD fun K hK=>?_;go_simp
   refine HA.out.mono ?_
   rintro e w4 ⟨rfl,hb4⟩
   refine hK.out _ _ hb4 ?_
   clear hK K HA
   obtain ⟨U,hU⟩:∃ U,addL T ((P.drop (64 * k)).take 64)=U:=⟨_,rfl⟩
   have hUk:adds P (k+1)=U:=by rw [adds_succ,HT.out,hU]
   have hUl:U.length=8:=by rw [←hUk];exact adds_len _ _
   rw [hU]
   have HU:=Lib.hid hUk
   clear hU hUk
   have hus:=size8 U hUl
   have BT4:=(Blk.drew BT).ext hb4
   have BX4:=(Blk.drew BX).ext hb4
   have HO4:=Lib.hid (own_ext (own_ext HO.out (Below.refl _ _).drew) hb4)
   have hbw4:=hbw.drew.trans (Below.mono hb4 (show B≤wr.drew.heap.size from Nat.le_trans hgsB (Nat.le_of_lt BT.lt)))
   refine wpTail_done ?_
   have hth:=Blk.there (o:=0) (n:=8) BT4 (by rw [lenW,hTl];omega)
   refine wpPerm_do rfl (wanted_free rfl) (fun K hK=>?_)
   refine wp_store_wide 348 (.tmp 2) (.tmp 19) rfl rfl gs 0 (cellsW U) rfl rfl (by rw [lenW,hUl];exact hth) hus (oneW _) ?_
   refine hK.out _ _ trivial (wpPerm_done ?_)
   clear hK K hth
   obtain ⟨BU,hgU⟩:=Blk.lay (cellsW U) 0 BT4 (by rw [lenW,lenW,hTl,hUl];omega)
   rw [laid_all _ _ (by rw [lenW,lenW,hTl,hUl])] at BU
   have hkU:=KeepT.blk hgU BT4
   have BX5:=hkU _ _ _ (by decide) BX4
   have HO5:=Lib.hid (own_keepT HO4.out hkU (by decide))
   have hbw5:=hbw4.grown hgU (Nat.le_trans hBw hbw4.size) (fun k hk=>by injection hk with hk;omega)
   generalize w4.setCells gs 0 (cellsW U)=W5 at *
   clear hkU hgU BT4 BX4 HO4 hbw4 hb4 BT BX HO hbw HM hd
   by_cases hc:c'=64
   ·subst hc
    go_wp2_with fail
    obtain rfl:r1=0:=by omega
    exact ⟨⟨k+1,0,_,_,Lib.hid (by have:=HK.out;omega),rfl,by omega,by omega,Lib.hid (fun h=>by omega),by rw [HU.out];exact BU,BX5,HO5,hbw5⟩,by simp [lenV]⟩
   ·go_wp2_with fail
    exact ⟨⟨k+1,r1,_,_,Lib.hid (by have:=HK.out;omega),by rw [show 64 * (r1+1) - 64=64 * r1 by omega],by omega,by omega,Lib.hid (fun _=>by omega),by rw [HU.out];exact BU,BX5,HO5,hbw5⟩,by simp [lenV];omega⟩
theorem built_hasher (A:Option Addr) (n c:Nat):Tryz.prog.built 314 [(0,.slice A n c)]=some (([.slice A n c,.int .u32 0,.int .i32 0,.int .u32 0]:List Value)++cellsB h0).toArray:=by kernel_rfl
theorem zero32 (w:World):(zeroValue 32).run Tryz.prog w=.ok (.agg (cellsB h0).toArray) w:=by kernel_rfl
theorem size32 (l:List UInt8) (h:l.length=32):(Tryz.prog.info? 32).map (·.size)=some (cellsB l).length:=by rw [lenB,h];kernel_rfl
theorem sumOf_ (w:World) (ps:List Part) (l:List UInt8) (g m:Nat) (hm:ps.length=m) (hg:g<w.heap.size) (hc:∀ (i:Nat) p,ps[i]? = some p→w.cell? ⟨g,i,none⟩=some (.slice p.A p.n p.c)∧PartOk w p) (hN:sumN ps=l.length) (hcs:allC ps=cellsB l) (hl:l.length≤400000) (hm2:m≤1000) :
  Calls Tryz.prog 128 #[.slice (some ⟨g,0,none⟩) m m] w fun e w'=>e=.returned (.agg (cellsB (shaL l)).toArray)∧Below w.heap.size w w':=by
 have HC:=Lib.hid (concat_ ps g m (w.alloc (.cells (cellsB h0).toArray 32)) hm (by simp;omega) (fun i p hp=>⟨(Below.cell ((Below.refl _ _).alloc (Nat.le_refl _) _) hg).trans (hc i p hp).1,(hc i p hp).2.ext ((Below.refl _ _).alloc (Nat.le_refl _) _)⟩) (by omega) hm2)
 rw [hN,hcs] at HC
 have HL:=Lib.hid hl
 clear hc hN hcs hm hl
 have hz:=zero32
 go_enter Tryz.func128,Tryz.ntmps128
 go_upto_region 1 with fail
 have hb1:Below w.heap.size w (w.alloc (.cells (cellsB h0).toArray 32)):=(Below.refl _ _).alloc (Nat.le_refl _) _
 have BR:=Blk.new w 32 (cellsB h0).toArray
 generalize w.alloc (.cells (cellsB h0).toArray 32)=w1 at *
 obtain ⟨gr,hgr⟩:∃ g,w.heap.size=g:=⟨_,rfl⟩
 rw [hgr] at BR hb1 hg ⊢
 have hwg:w.heap.size≤gr:=by omega
 clear hgr
 go_wp2_with fail
 refine HC.out.mono ?_
 rintro e w2 ⟨A,c,rfl,hown,hb2⟩
 have HO:=Lib.hid hown
 have BR2:=BR.ext hb2
 have hbw2:=hb1.trans (Below.mono hb2 (Nat.le_of_lt BR.lt))
 clear hown HC
 go_upto_region 2 with ((with_reducible show wpList _ _ _ (Oper.mk (some 6) (Op.build _ _) _ _ _ _::_) _ _);(refine wpList_buildP rfl 314 _ rfl (cs:=(([.slice A l.length c,.int .u32 0,.int .i32 0,.int .u32 0]:List Value)++cellsB h0).toArray) rfl (built_hasher _ _ _) (some 6) rfl ?_))
 have hb3:Below w2.heap.size w2 (w2.alloc (.cells (([.slice A l.length c,.int .u32 0,.int .i32 0,.int .u32 0]:List Value)++cellsB h0).toArray 314)):=(Below.refl _ _).alloc (Nat.le_refl _) _
 have BX:=Blk.new w2 314 (([.slice A l.length c,.int .u32 0,.int .i32 0,.int .u32 0]:List Value)++cellsB h0).toArray
 change Code.wp _ _ _ _ (w2.alloc (.cells (([.slice A l.length c,.int .u32 0,.int .i32 0,.int .u32 0]:List Value)++cellsB h0).toArray 314))
 generalize w2.alloc (.cells (([.slice A l.length c,.int .u32 0,.int .i32 0,.int .u32 0]:List Value)++cellsB h0).toArray 314)=w3 at *
 have BR3:=BR2.ext hb3
 have HO3:=Lib.hid (own_ext HO.out hb3)
 have hbw3:=hbw2.trans (Below.mono hb3 (Nat.le_of_lt BR2.lt))
 have hB3:w1.heap.size≤w2.heap.size:=hb2.size
 have hgx:w1.heap.size≤w2.heap.size∧gr<w1.heap.size:=⟨hb2.size,BR.lt⟩
 obtain ⟨gx,hgxe⟩:∃ g,w2.heap.size=g:=⟨_,rfl⟩
 rw [hgxe] at BX hgx ⊢
 clear hb3 BR2 HO hbw2 hgxe hB3 BR hb2
 have q1:=BX.cell 1
 have q2:=BX.cell 2
 have f2:=BX.frozen 2
 have BX4:=Blk.set_ BX 2 (.int .i32 1)
 have BX4':Blk (w3.setCell ⟨gx,2,none⟩ (.int .i32 1)) gx 314 (([.slice A l.length c,.int .u32 0,.int .i32 1,.int .u32 0]:List Value)++cellsB h0).toArray:=BX4
 have hg4:=set_grown w3 gx 2 (.int .i32 1)
 have hkT:KeepT 314 w3 (w3.setCell ⟨gx,2,none⟩ (.int .i32 1)):=KeepT.blk hg4 BX
 have HO4:=Lib.hid (own_keepT HO3.out hkT (by decide))
 have BR4:=hkT _ _ _ (by decide) BR3
 have hbw4:=hbw3.grown hg4 (Nat.le_trans (Nat.le_of_lt hgx.2) (Nat.le_trans hgx.1 (Nat.le_of_lt BX.lt))) (fun k hk=>by injection hk with hk;omega)
 have HU:=Lib.hid (sum_ w1.heap.size gx l A l.length c _ BX4' HO4.out rfl HL.out (Nat.le_trans hgx.1 (Nat.le_of_lt BX4'.lt)) hgx.1)
 have HD:=Lib.hid (onceG (q:=gx) (o:=1) (f:=189) (a1:=#[.pointer (some ⟨gx,0,none⟩)]) (a2:=#[]) (R:=fun w'=>∃ A' c',Blk w' gx 314 (([.slice A' l.length c',.int .u32 0,.int .i32 1,.int .u32 0]:List Value)++cellsB (shaL l)).toArray∧Below w1.heap.size (w3.setCell ⟨gx,2,none⟩ (.int .i32 1)) w') q1 q2 f2 (enters_of Tryz.func189 (by kernel_rfl) rfl) (by rintro w' ⟨A',c',hB,_⟩;exact ⟨hB.cell 1,hB.cell 2,hB.frozen 1,hB.frozen 2⟩) HU.out)
 clear q1 q2 f2 BX4 BX4' HU HO4 HO3 BX hg4 hkT
 obtain ⟨w4,hw4⟩:∃ W,W=w3.setCell ⟨gx,2,none⟩ (.int .i32 1):=⟨_,rfl⟩
 rw [←hw4] at HD BR4 hbw4
 clear hw4
 go_wp2_with fail
 refine HD.out.mono ?_
 rintro e w' ⟨w5,rfl,⟨A',c',BX5,hb5⟩,rfl⟩
 have BX6:=(Blk.drew BX5).set_ 1 (.int .u32 1)
 have BX7:Blk ((w5.drew.setCell ⟨gx,1,none⟩ (.int .u32 1)).setCell ⟨gx,2,none⟩ (.int .i32 0)) gx 314 (([.slice A' l.length c',.int .u32 1,.int .i32 0,.int .u32 0]:List Value)++cellsB (shaL l)).toArray:=BX6.set_ 2 (.int .i32 0)
 have hg6:=grown_trans (set_grown w5.drew gx 1 (.int .u32 1)) (set_grown _ gx 2 (.int .i32 0))
 have hk6:=KeepT.blk hg6 (Blk.drew BX5)
 have BR5:Blk w5 gr _ _:=(hb5.block gr hgx.2).trans BR4
 have BR7:=hk6 _ _ _ (by decide) (Blk.drew BR5)
 have hbw5:=hbw4.trans (Below.mono hb5 (Nat.le_of_lt hgx.2))
 have hbw7:=hbw5.drew.grown hg6 (Nat.le_of_lt (Blk.drew BR5).lt) (fun k hk=>by injection hk with hk;omega)
 generalize (w5.drew.setCell ⟨gx,1,none⟩ (.int .u32 1)).setCell ⟨gx,2,none⟩ (.int .i32 0)=w7 at *
 clear hg6 hk6 BR5 BR4 hbw5 hb5 BX6 BX5 hbw4 HD BR3 hbw3
 obtain ⟨H,hH⟩:∃ H,shaL l=H:=⟨_,rfl⟩
 have hHl:H.length=32:=by rw [←hH];exact shaL_len l
 have HH:=Lib.hid hH
 rw [hH] at BX7
 clear hH
 have hsz:=size32 H hHl
 have hrg:=Blk.range (o:=4) (vs:=cellsB H) BX7 (by simp)
 have hth:=Blk.there (o:=0) (n:=32) BR7 (by rw [lenB,h0_len];omega)
 go_wp2_with (first|((with_reducible show wpList _ _ _ (Oper.mk (some 17) _ _ _ _ _::_) _ _);(refine wpList_load_mid rfl 32 _ rfl gx 4 rfl (cellsB H) _ hrg Tryz.underlying32 rfl hsz ?_)) |
  ((with_reducible show wpList _ _ _ (Oper.mk none _ _ _ _ _::_) _ _);(refine wpList_store_mid rfl 32 _ _ rfl gr 0 (cellsB H).toArray rfl rfl ?s1 ?s2 (all_oneCell_toArray (oneB _)) ?_)))
 case s1=>exact (show (cellsB H).toArray.size=32 by simp [lenB,hHl]) ▸ hth
 case s2=>exact (show (cellsB H).toArray.size=(cellsB H).length by simp) ▸ hsz
 obtain ⟨B8,hg8⟩:=Blk.lay (cellsB H) 0 BR7 (by rw [lenB,lenB,h0_len,hHl];omega)
 rw [laid_all _ _ (by rw [lenB,lenB,h0_len,hHl])] at B8
 have hbw8:=hbw7.grown hg8 (Nat.le_of_lt BR7.lt) (fun k hk=>by injection hk with hk;omega)
 generalize w7.setCells gr 0 (cellsB H)=w8 at *
 clear hth BR7 BX7 hg8 hrg
 go_wp2
 exact bodyPost_ret (v:=.agg (cellsB H).toArray) (results_cell_row rfl _ _ gr _ _ (0,0) _ rfl B8 Tryz.underlying32 rfl (by rw [List.size_toArray];exact hsz)) rfl ⟨by rw [HH.out],Below.mono hbw8 hwg⟩
abbrev Val:=Int × Int × ByteArray
abbrev ColD:=ByteArray × Int × Bool
abbrev RowD:=List Val
abbrev Sch:=ByteArray × List ColD × Int × Bool
abbrev Tab:=Sch × List RowD
abbrev Chg:=ByteArray × Int × RowD
abbrev Mrk:=ByteArray × Int
abbrev Wrk:=Int × List Chg × List Mrk
abbrev Hld:=Int × ByteArray × Bool
abbrev DBd:=List Tab × List Wrk × List Hld × List Hld
def eVal:Enc Val:=eInt.pair (eInt.pair eStr)
def eCol:Enc ColD:=eStr.pair (eInt.pair eBool)
def eRow:Enc RowD:=eSl eVal
def eSch:Enc Sch:=eStr.pair ((eSl eCol).pair (eInt.pair eBool))
def Fine (A:Option Addr):Prop:=A=none∨∃ b off,A=some ⟨b,off,none⟩
def eSlF {α:Type} (E:Enc α):Enc (List α) :=
 ⟨1,fun w F cs xs=>∃ A n c,cs=[.slice A n c]∧Fine A∧Sl E w F A n c xs,fun ⟨A,n,c,e,_⟩=>by rw [e];rfl,fun ⟨A,n,c,e,_⟩ u hu=>by rw [e] at hu;simp at hu;subst hu;rfl,
  fun ⟨A,n,c,e,hf,h⟩ k=>⟨A,n,c,e,hf,h.keep k⟩,fun ⟨A,n,c,e,hf,h⟩ k=>⟨A,n,c,e,hf,h.mono k⟩⟩
theorem OwnE.fine {α:Type} {E:Enc α} {t:TypeId} {w:World} {B:Nat} {F:Blocks} {A:Option Addr} {n c:Nat} {xs:List α} (h:OwnE E t w B F A n c xs):Fine A:=by
 obtain ⟨css,h1,_,_⟩:=h
 rcases h1.2 with ⟨z,_⟩|⟨g',cap,cur,z,_⟩
 ·injection z with z;exact .inl z
 ·injection z with z;exact .inr ⟨g',0,z⟩
def eTab:Enc Tab:=eSch.pair (eSlF eRow)
def eChg:Enc Chg:=eStr.pair (eInt.pair eRow)
def eMrk:Enc Mrk:=eStr.pair eInt
def eWrk:Enc Wrk:=eInt.pair ((eSl eChg).pair (eSl eMrk))
def eHld:Enc Hld:=eInt.pair (eStr.pair eBool)
def eDB:Enc DBd:=(eSl eTab).pair ((eSl eWrk).pair ((eSl eHld).pair (eSl eHld)))
section
variable {w:World} {F:Blocks} {cs:List Value}
theorem eRow_inv {x:RowD} (h:eRow.rel w F cs x):∃ A n c,cs=[.slice A n c]∧Sl eVal w F A n c x:=h
theorem eRow_mk {x:RowD} {A:Option Addr} {n c:Nat} (h:Sl eVal w F A n c x):eRow.rel w F [.slice A n c] x:=⟨A,n,c,rfl,h⟩
theorem eSch_inv {x:Sch} (h:eSch.rel w F cs x):∃ A n c,cs=[.string x.1,.slice A n c,.int .i64 x.2.2.1,.bool x.2.2.2]∧Sl eCol w F A n c x.2.1:=by
 obtain ⟨_,_,rfl,rfl,_,_,rfl,⟨A,n,c,rfl,h⟩,_,_,rfl,rfl,rfl⟩:=h
 exact ⟨A,n,c,rfl,h⟩
theorem eSch_mk {x:Sch} {A:Option Addr} {n c:Nat} (h:Sl eCol w F A n c x.2.1):eSch.rel w F [.string x.1,.slice A n c,.int .i64 x.2.2.1,.bool x.2.2.2] x :=
 ⟨[_],_,rfl,rfl,[_],_,rfl,⟨A,n,c,rfl,h⟩,[_],[_],rfl,rfl,rfl⟩
theorem eTab_invF {x:Tab} (h:eTab.rel w F cs x):∃ A n c A2 n2 c2,cs=[.string x.1.1,.slice A n c,.int .i64 x.1.2.2.1,.bool x.1.2.2.2,.slice A2 n2 c2]∧Sl eCol w F A n c x.1.2.1∧Sl eRow w F A2 n2 c2 x.2∧Fine A2:=by
 obtain ⟨_,_,rfl,h1,⟨A2,n2,c2,rfl,hf,h2⟩⟩:=h
 obtain ⟨A,n,c,rfl,h3⟩:=eSch_inv h1
 exact ⟨A,n,c,A2,n2,c2,rfl,h3,h2,hf⟩
theorem eTab_inv {x:Tab} (h:eTab.rel w F cs x):∃ A n c A2 n2 c2,cs=[.string x.1.1,.slice A n c,.int .i64 x.1.2.2.1,.bool x.1.2.2.2,.slice A2 n2 c2]∧Sl eCol w F A n c x.1.2.1∧Sl eRow w F A2 n2 c2 x.2:=by
 obtain ⟨A,n,c,A2,n2,c2,e,h1,h2,_⟩:=eTab_invF h
 exact ⟨A,n,c,A2,n2,c2,e,h1,h2⟩
theorem eTab_mk {x:Tab} {A A2:Option Addr} {n c n2 c2:Nat} (h:Sl eCol w F A n c x.1.2.1) (h2:Sl eRow w F A2 n2 c2 x.2) (hf:Fine A2):eTab.rel w F [.string x.1.1,.slice A n c,.int .i64 x.1.2.2.1,.bool x.1.2.2.2,.slice A2 n2 c2] x :=
 ⟨_,[_],rfl,eSch_mk h,⟨A2,n2,c2,rfl,hf,h2⟩⟩
theorem eChg_inv {x:Chg} (h:eChg.rel w F cs x):∃ A n c,cs=[.string x.1,.int .i64 x.2.1,.slice A n c]∧Sl eVal w F A n c x.2.2:=by
 obtain ⟨_,_,rfl,rfl,_,_,rfl,rfl,A,n,c,rfl,h⟩:=h
 exact ⟨A,n,c,rfl,h⟩
theorem eChg_mk {x:Chg} {A:Option Addr} {n c:Nat} (h:Sl eVal w F A n c x.2.2):eChg.rel w F [.string x.1,.int .i64 x.2.1,.slice A n c] x :=
 ⟨[_],_,rfl,rfl,[_],_,rfl,rfl,A,n,c,rfl,h⟩
theorem eWrk_inv {x:Wrk} (h:eWrk.rel w F cs x):∃ A n c A2 n2 c2,cs=[.int .i64 x.1,.slice A n c,.slice A2 n2 c2]∧Sl eChg w F A n c x.2.1∧Sl eMrk w F A2 n2 c2 x.2.2:=by
 obtain ⟨_,_,rfl,rfl,_,_,rfl,⟨A,n,c,rfl,h⟩,A2,n2,c2,rfl,h2⟩:=h
 exact ⟨A,n,c,A2,n2,c2,rfl,h,h2⟩
theorem eWrk_mk {x:Wrk} {A A2:Option Addr} {n c n2 c2:Nat} (h:Sl eChg w F A n c x.2.1) (h2:Sl eMrk w F A2 n2 c2 x.2.2):eWrk.rel w F [.int .i64 x.1,.slice A n c,.slice A2 n2 c2] x :=
 ⟨[_],_,rfl,rfl,[_],_,rfl,⟨A,n,c,rfl,h⟩,A2,n2,c2,rfl,h2⟩
theorem eDB_inv {x:DBd} (h:eDB.rel w F cs x):∃ A n c A2 n2 c2 A3 n3 c3 A4 n4 c4,cs=[.slice A n c,.slice A2 n2 c2,.slice A3 n3 c3,.slice A4 n4 c4]∧Sl eTab w F A n c x.1∧Sl eWrk w F A2 n2 c2 x.2.1∧Sl eHld w F A3 n3 c3 x.2.2.1∧Sl eHld w F A4 n4 c4 x.2.2.2:=by
 obtain ⟨_,_,rfl,⟨A,n,c,rfl,h⟩,_,_,rfl,⟨A2,n2,c2,rfl,h2⟩,_,_,rfl,⟨A3,n3,c3,rfl,h3⟩,A4,n4,c4,rfl,h4⟩:=h
 exact ⟨A,n,c,A2,n2,c2,A3,n3,c3,A4,n4,c4,rfl,h,h2,h3,h4⟩
theorem eDB_mk {x:DBd} {A A2 A3 A4:Option Addr} {n c n2 c2 n3 c3 n4 c4:Nat} (h:Sl eTab w F A n c x.1) (h2:Sl eWrk w F A2 n2 c2 x.2.1) (h3:Sl eHld w F A3 n3 c3 x.2.2.1) (h4:Sl eHld w F A4 n4 c4 x.2.2.2):eDB.rel w F [.slice A n c,.slice A2 n2 c2,.slice A3 n3 c3,.slice A4 n4 c4] x :=
 ⟨[_],_,rfl,⟨A,n,c,rfl,h⟩,[_],_,rfl,⟨A2,n2,c2,rfl,h2⟩,[_],_,rfl,⟨A3,n3,c3,rfl,h3⟩,A4,n4,c4,rfl,h4⟩
end
structure Flat {α:Type} (E:Enc α):Prop where
 any:∀ {w F cs x},E.rel w F cs x→∀ w' G,E.rel w' G cs x
theorem flat_val:Flat eVal:=⟨by
 rintro w F cs x ⟨_,_,rfl,rfl,_,_,rfl,rfl,rfl⟩ w' G
 exact ⟨[_],_,rfl,rfl,[_],[_],rfl,rfl,rfl⟩⟩
theorem flat_col:Flat eCol:=⟨by
 rintro w F cs x ⟨_,_,rfl,rfl,_,_,rfl,rfl,rfl⟩ w' G
 exact ⟨[_],_,rfl,rfl,[_],[_],rfl,rfl,rfl⟩⟩
theorem flat_hld:Flat eHld:=⟨by
 rintro w F cs x ⟨_,_,rfl,rfl,_,_,rfl,rfl,rfl⟩ w' G
 exact ⟨[_],_,rfl,rfl,[_],[_],rfl,rfl,rfl⟩⟩
theorem flat_mrk:Flat eMrk:=⟨by
 rintro w F cs x ⟨_,_,rfl,rfl,rfl⟩ w' G
 exact ⟨[_],_,rfl,rfl,rfl⟩⟩
def Copied {α:Type} (E:Enc α) (t:TypeId) (x:List α) (w:World) (e:Ending) (w':World):Prop:=∃ A c,e=.returned (.slice A x.length c)∧OwnE E t w' w.heap.size (fun b=>w.heap.size≤b∧A≠some ⟨b,0,none⟩) A x.length c x∧Below w.heap.size w w'
def CopiedT {α:Type} (E:Enc α) (t:TypeId) (x:List α) (w:World) (e:Ending) (w':World):Prop:=∃ A,e=.returned (.slice A x.length x.length)∧OwnE E t w' w.heap.size (fun b=>w.heap.size≤b∧A≠some ⟨b,0,none⟩) A x.length x.length x∧Below w.heap.size w w'
theorem CopiedT.copied {α:Type} {E:Enc α} {t:TypeId} {x:List α} {w w':World} {e:Ending} (h:CopiedT E t x w e w'):Copied E t x w e w':=by
 obtain ⟨A,h1,h2,h3⟩:=h
 exact ⟨A,_,h1,h2,h3⟩
def eSlT {α:Type} (E:Enc α):Enc (List α) :=
 ⟨1,fun w F cs xs=>∃ A n,cs=[.slice A n n]∧Sl E w F A n n xs,fun ⟨A,n,e,_⟩=>by rw [e];rfl,fun ⟨A,n,e,_⟩ u hu=>by rw [e] at hu;simp at hu;subst hu;rfl,
  fun ⟨A,n,e,h⟩ k=>⟨A,n,e,h.keep k⟩,fun ⟨A,n,e,h⟩ k=>⟨A,n,e,h.mono k⟩⟩
def eWrkT:Enc Wrk:=eInt.pair ((eSlT eChg).pair (eSl eMrk))
theorem eWrkT_inv {w:World} {F:Blocks} {cs:List Value} {x:Wrk} (h:eWrkT.rel w F cs x):∃ A n A2 n2 c2,cs=[.int .i64 x.1,.slice A n n,.slice A2 n2 c2]∧Sl eChg w F A n n x.2.1∧Sl eMrk w F A2 n2 c2 x.2.2:=by
 obtain ⟨_,_,rfl,rfl,_,_,rfl,⟨A,n,rfl,h1⟩,⟨A2,n2,c2,rfl,h2⟩⟩:=h
 exact ⟨A,n,A2,n2,c2,rfl,h1,h2⟩
theorem eWrkT_mk {w:World} {F:Blocks} {x:Wrk} {A A2:Option Addr} {n n2 c2:Nat} (h:Sl eChg w F A n n x.2.1) (h2:Sl eMrk w F A2 n2 c2 x.2.2):eWrkT.rel w F [.int .i64 x.1,.slice A n n,.slice A2 n2 c2] x :=
 ⟨[_],[_,_],rfl,rfl,[_],[_],rfl,⟨A,n,rfl,h⟩,⟨A2,n2,c2,rfl,h2⟩⟩
theorem eWrkT.loose {w:World} {F:Blocks} {cs:List Value} {x:Wrk} (h:eWrkT.rel w F cs x):eWrk.rel w F cs x:=by
 obtain ⟨A,n,A2,n2,c2,rfl,h1,h2⟩:=eWrkT_inv h
 exact eWrk_mk h1 h2
theorem Els.imp {α:Type} {E D:Enc α} (hi:∀ {w F cs x},E.rel w F cs x→D.rel w F cs x) {w:World} {F:Blocks} {css:List (List Value)} {xs:List α} (h:Els E w F css xs):Els D w F css xs:=⟨h.1,fun i cs x h1 h2=>hi (h.2 i cs x h1 h2)⟩
theorem OwnE.imp {α:Type} {E D:Enc α} (hk:E.k=D.k) (hi:∀ {w F cs x},E.rel w F cs x→D.rel w F cs x) {t:TypeId} {w:World} {B:Nat} {F:Blocks} {A:Option Addr} {n c:Nat} {xs:List α} (h:OwnE E t w B F A n c xs):OwnE D t w B F A n c xs:=by
 obtain ⟨css,h1,h2,h3⟩:=h
 exact ⟨css,hk ▸ h1,h2.imp hi,h3⟩
theorem OwnE.loose {t:TypeId} {w:World} {B:Nat} {F:Blocks} {A:Option Addr} {n c:Nat} {xs:List Wrk} (h:OwnE eWrkT t w B F A n c xs):OwnE eWrk t w B F A n c xs:=OwnE.imp (E:=eWrkT) (D:=eWrk) rfl eWrkT.loose h
theorem Copied.of_c {α:Type} {E:Enc α} (hf:Flat E) {t:TypeId} {n k:Nat} {w w':World} {F:Blocks} {css:List (List Value)} {x:List α} {e:Ending} (hx:x.length=n) (hk:E.k=k) (he:Els E w F css x) (h:OwnC t k n css.flatten w e w'):Copied E t x w e w':=by
 subst hx hk
 obtain ⟨A,c,h1,h2,h3⟩:=h
 exact ⟨A,c,h1,⟨css,h2,⟨he.1,fun i cs y a b=>hf.any (he.2 i cs y a b) _ _⟩,rfl⟩,h3⟩
theorem Sl.clone {α:Type} {E:Enc α} {w:World} {F:Blocks} {A:Option Addr} {n c:Nat} {x:List α} (h:Sl E w F A n c x):∃ css,Row w 0 A n c css.flatten∧css.flatten.length=n * E.k∧(∀ u∈css.flatten,u.oneCell'=true)∧Els E w F css x∧x.length=n:=by
 obtain ⟨css,h1,h2,h3⟩:=h
 exact ⟨css,h1.row,by rw [h2.flen,h3],h2.ones,h2,h3⟩
theorem copyV {w:World} {F:Blocks} {A:Option Addr} {n c:Nat} {x:List _} (h:Sl eVal w F A n c x) (hn:n≤1000000):Calls Tryz.prog 109 #[.slice A n c] w (Copied eVal 58 x w):=by
 obtain ⟨css,h1,h2,h3,h4,h5⟩:=h.clone
 exact (cloneV css.flatten A n c w hn h1 h2 h3).mono fun e w' h=>Copied.of_c flat_val h5 rfl h4 h
theorem copyC {w:World} {F:Blocks} {A:Option Addr} {n c:Nat} {x:List _} (h:Sl eCol w F A n c x) (hn:n≤1000000):Calls Tryz.prog 138 #[.slice A n c] w (Copied eCol 50 x w):=by
 obtain ⟨css,h1,h2,h3,h4,h5⟩:=h.clone
 exact (cloneC css.flatten A n c w hn h1 h2 h3).mono fun e w' h=>Copied.of_c flat_col h5 rfl h4 h
theorem copyH {w:World} {F:Blocks} {A:Option Addr} {n c:Nat} {x:List _} (h:Sl eHld w F A n c x) (hn:n≤1000000):Calls Tryz.prog 69 #[.slice A n c] w (Copied eHld 196 x w):=by
 obtain ⟨css,h1,h2,h3,h4,h5⟩:=h.clone
 exact (cloneH css.flatten A n c w hn h1 h2 h3).mono fun e w' h=>Copied.of_c flat_hld h5 rfl h4 h
theorem copyM {w:World} {F:Blocks} {A:Option Addr} {n c:Nat} {x:List _} (h:Sl eMrk w F A n c x) (hn:n≤1000000):Calls Tryz.prog 143 #[.slice A n c] w (Copied eMrk 269 x w):=by
 obtain ⟨css,h1,h2,h3,h4,h5⟩:=h.clone
 exact (cloneM css.flatten A n c w hn h1 h2 h3).mono fun e w' h=>Copied.of_c flat_mrk h5 rfl h4 h
def okRow (r:RowD):Prop:=r.length≤1000
def okChg (c:Chg):Prop:=okRow c.2.2
def okTab (t:Tab):Prop:=t.1.2.1.length≤1000∧t.2.length≤1000∧∀ r∈t.2,okRow r
def okWrk (k:Wrk):Prop:=k.2.1.length≤1000∧(∀ c∈k.2.1,okChg c)∧k.2.2.length≤1000
def Owned {α:Type} (E:Enc α) (x:α) (w:World) (e:Ending) (w':World):Prop:=∃ cs,e=.returned (.agg cs.toArray)∧E.rel w' (fun b=>w.heap.size≤b) cs x∧Below w.heap.size w w'
theorem Els.snoc {α:Type} {E:Enc α} {w:World} {F:Blocks} {css:List (List Value)} {xs:List α} {k:Nat} {cs:List Value} {y:α} (h:Els E w F css (xs.take k)) (hy:xs[k]? = some y) (hr:E.rel w F cs y):Els E w F (css++[cs]) (xs.take (k+1)):=by
 rw [take_snoc hy]
 exact Els.append h (Els.one_ hr)
theorem lay_at (D Z cs:List Value) (k K:Nat) (hD:D.length=k * K) (hc:cs.length=K) (hz:(k+1) * K≤Z.length):laid (D++Z.drop (k * K)) (k * K) cs=(D++cs)++Z.drop ((k+1) * K):=by
 have e1:Z.drop (k * K)=(Z.drop (k * K)).take K++Z.drop ((k+1) * K):=by
  conv=>lhs;rw [←List.take_append_drop K (Z.drop (k * K))]
  rw [List.drop_drop,Nat.succ_mul]
 rw [e1,←hD,←List.append_assoc]
 refine laid_mid _ _ _ _ ?_
 rw [hc,List.length_take,List.length_drop,hD]
 rw [Nat.succ_mul] at hz
 omega
theorem made_blk {w:World} {B K n g:Nat} {t:TypeId} {xs:List Value} (h:w.ownsRow B t K (.slice (some ⟨g,0,none⟩) n n) n xs):∃ Z:List Value,Blk w g t Z.toArray∧Z.length=n * K:=by
 rcases h.2 with ⟨h1,_⟩|⟨g',cap,cur,h1,_,h3,_,_,h5,_⟩
 ·cases h1
 ·injection h1 with h1 _ h2
  injection h1 with h1
  injection h1 with h1 _ _
  subst h1 h2
  exact ⟨cur.toList,by rw [Array.toArray_toList];exact h3,by simpa using h5⟩
theorem own_of_blk {w:World} {B K n g:Nat} {t:TypeId} {cs:List Value} (h:Blk w g t cs.toArray) (hl:cs.length=n * K) (hB:B≤g) (hn:n≤1000):w.ownsRow B t K (.slice (some ⟨g,0,none⟩) n n) n cs :=
 ⟨hl,.inr ⟨g,n,cs.toArray,rfl,hB,h,Nat.le_refl _,by unfold maxLen;omega,by simpa using hl,by simp [←hl]⟩⟩
theorem townRow_ {w:World} {F:Blocks} {A:Option Addr} {n c:Nat} {x:RowD} (h:Sl eVal w F A n c x) (hok:okRow x):Calls Tryz.prog 45 #[.slice A n c] w (Copied eVal 58 x w):=by
 have HC:=Lib.hid (copyV h (by have:=h.len;unfold okRow at hok;omega))
 clear h hok
 go_enter Tryz.func45,Tryz.ntmps45
 go_wp2_with fail
 refine HC.out.mono ?_
 rintro e w1 ⟨A1,c1,rfl,h1,h2⟩
 have H1:=Lib.hid h1
 clear h1 HC
 go_wp2
 go_ret
 exact ⟨A1,c1,rfl,H1.out,h2⟩
theorem sownRow_ {w:World} {F:Blocks} {A:Option Addr} {n c:Nat} {x:RowD} (h:Sl eVal w F A n c x) (hok:okRow x):Calls Tryz.prog 140 #[.slice A n c] w (Copied eVal 58 x w):=by
 have HC:=Lib.hid (copyV h (by have:=h.len;unfold okRow at hok;omega))
 clear h hok
 go_enter Tryz.func140,Tryz.ntmps140
 go_wp2_with fail
 refine HC.out.mono ?_
 rintro e w1 ⟨A1,c1,rfl,h1,h2⟩
 have H1:=Lib.hid h1
 clear h1 HC
 go_wp2
 go_ret
 exact ⟨A1,c1,rfl,H1.out,h2⟩
theorem teachRowT {w:World} {F:Blocks} {A:Option Addr} {n c:Nat} {x:List RowD} (h:Sl eRow w F A n c x) (hn:x.length≤1000) (hok:∀ y∈x,okRow y):Calls Tryz.prog 171 #[.slice A n c,.func (.func 45) #[] #[]] w (CopiedT eRow 59 x w):=by
 obtain ⟨i0,hi,hz0,hz1,hz2⟩:=info_parts (P:=Tryz.prog) (e:=59) (z:=.slice none 0 0) (size:=1) (bytes:=24) (by kernel_rfl)
 have HS:=Lib.hid h
 have HL:=Lib.hid h.len
 have hn:n≤1000:=by have:=h.len;omega
 clear h
 have HK:=Lib.hid hok
 clear hok
 go_enter Tryz.func171,Tryz.ntmps171
 go_wp2_with (at_make;refine wpList_make_full _ rfl _ _ 151 rfl w.heap.size 59 i0 (.slice none 0 0) 1 Tryz.underlying151 hi hz0 hz1 _ _ _ _ n rfl rfl rfl rfl ?b2 ?b3 (Nat.le_refl _) ?_)
 case b2=>rw [hz2];omega
 case b3=>unfold maxLen;omega
 intro w1 hown hgrow
 obtain ⟨Z,BO,hZl⟩:=made_blk hown
 have hb1:=(Below.refl w.heap.size w).grown hgrow (Nat.le_refl _) (fun k hk=>by cases hk)
 obtain ⟨go,hgo⟩:∃ g,w.heap.size=g:=⟨_,rfl⟩
 have BO0:Blk w1 w.heap.size 59 ((([]:List (List Value)).flatten++Z.drop (0 * 1)).toArray):=by simpa using BO
 have HB0:=Lib.hid (And.intro BO0 hb1)
 clear hown hgrow BO BO0 hb1
 rw [hgo] at HB0
 have hgw:go=w.heap.size:=hgo.symm
 rw [hgo]
 clear hgo
 have HGW:=Lib.hid hgw
 clear hgw
 go_wp2_with fail
 go_loopw [13] (fun i wr=>∃ (k:Nat) (css:List (List Value)),i=.int .i64 k∧k≤n∧Hid (Els eRow wr (fun b=>go<b) css (x.take k))∧Hid (Blk wr go 59 (css.flatten++Z.drop (k * 1)).toArray∧Below go w wr)) (fun i _=>n - (intOf i).toNat)
 case atStart=>exact ⟨0,[],rfl,Nat.zero_le _,Lib.hid (by simpa using Els.nil _ _),HB0⟩
 case round =>
  clear HB0
  obtain ⟨k,css,rfl,hk,HE,HB⟩:=hrel
  rcases Nat.lt_or_ge k n with hlt|hge
  ·have hd:decide ((k:Int)<(n:Int))=true:=by simp;omega
   have hkn:(k:Int)<(n:Int):=by omega
   obtain ⟨y,hy⟩:∃ y,x[k]? = some y:=⟨_,List.getElem?_eq_getElem (by have:=HL.out;omega)⟩
   have HY:=Lib.hid hy
   obtain ⟨b0,off,rfl,hnc,hFb,hbl⟩:=HS.out.some_ (by omega)
   have hbw:=HB.out.2
   have hsz:=HB.out.1.lt
   have hS:=HS.out.ext (show Below w.heap.size w wr by rw [←HGW.out];exact hbw)
   obtain ⟨cs,hcs,hcell⟩:=hS.at_ hy
   obtain ⟨Ar,nr,cr,rfl,hSr⟩:=eRow_inv hcs
   have q:=hcell 0 _ rfl
   simp only [show eRow.k=1 from rfl,Nat.mul_one,Nat.add_zero] at q
   have HF:=Lib.hid (townRow_ hSr (HK.out y (List.mem_of_getElem? hy)))
   clear hy hcs hcell hSr hS
   go_wp2_with fail
   refine HF.out.mono ?_
   rintro e w4 ⟨A4,c4,rfl,hown4,hb4⟩
   clear q HF
   have hr4:=eRow_mk (hown4.sl (G:=fun b=>go<b) (fun b h _=>by omega) (fun b h=>by have:=h.1;omega))
   have hE4:=Els.snoc (HE.out.ext hb4) HY.out hr4
   have hcl:css.length=k:=by have:=HE.out.1;rw [List.length_take] at this;have:=HL.out;omega
   have hfl:css.flatten.length=k * 1:=by have h9:=HE.out.flen;rw [List.length_take,Nat.min_eq_left (by have:=HL.out;omega)] at h9;exact h9
   have B4:=HB.out.1.ext hb4
   have hbw4:=hbw.trans (Below.mono hb4 (Nat.le_of_lt hsz))
   have q:∃ u,w4.cell? ⟨go,k,none⟩=some u:=by
    rw [B4.cell k]
    exact ⟨_,Array.getElem?_eq_getElem (by simp [hfl,hZl];omega)⟩
   obtain ⟨u,q⟩:=q
   have f:=B4.frozen k
   have B5:=Blk.set_ B4 k (.slice A4 y.length c4)
   rw [show (css.flatten++Z.drop (k * 1)).toArray.setIfInBounds k (Value.slice A4 y.length c4)=((css++[[Value.slice A4 y.length c4]]).flatten++Z.drop ((k+1) * 1)).toArray from by
    have:=lay_at css.flatten Z [Value.slice A4 y.length c4] k 1 hfl rfl (by rw [hZl,Nat.mul_one,Nat.mul_one];omega)
    rw [Nat.mul_one] at this
    rw [Nat.mul_one,List.setIfInBounds_toArray,List.flatten_append,List.flatten_singleton,←this]
    unfold laid
    rw [List.set_eq_take_append_cons_drop,if_pos (by rw [List.length_append,List.length_drop,hfl,hZl];omega)]
    simp] at B5
   have hg5:=set_grown w4 go k (.slice A4 y.length c4)
   have hE5:=Els.keep hE4 (Keep.grown hg5 (fun g hg hlt=>by injection hg with hg;omega))
   have hbw5:=hbw4.grown hg5 (Nat.le_of_lt B4.lt) (fun k hk=>by injection hk with hk;omega)
   have HE5:=Lib.hid hE5
   have HB5:=Lib.hid (And.intro B5 hbw5)
   clear hE5 hg5 B5 hbw5 hE4 hr4 hown4 hcl hfl B4 hbw4 hbw
   go_wp2
   go_roundw
   case rel=>exact ⟨k+1,_,by go_num,by omega,HE5,HB5⟩
   case measure=>simp [intOf];omega
  ·obtain rfl:k=n:=by omega
   have hd:decide ((k:Int)<(k:Int))=false:=by simp
   have hxk:x.length=k:=HL.out
   subst hxk
   have hE:=HE.out
   rw [List.take_length] at hE
   have hB:=HB.out
   rw [List.drop_eq_nil_of_le (by omega),List.append_nil] at hB
   have HR:=Lib.hid (show OwnE eRow 59 wr w.heap.size (fun b=>w.heap.size≤b∧(some ⟨go,0,none⟩:Option Addr)≠some ⟨b,0,none⟩) (some ⟨go,0,none⟩) x.length x.length x from ⟨css,own_of_blk hB.1 hE.flen (by rw [HGW.out];exact Nat.le_refl _) hn,hE.mono (fun b h=>⟨by have:=HGW.out;omega,fun e=>by injection e with e;injection e with e;omega⟩),rfl⟩)
   have hbw:Below w.heap.size w wr:=by rw [←HGW.out];exact hB.2
   clear hE hB HE HB
   go_wp2
   go_ret
   exact ⟨_,rfl,HR.out,hbw⟩
theorem teachRow {w:World} {F:Blocks} {A:Option Addr} {n c:Nat} {x:List RowD} (h:Sl eRow w F A n c x) (hn:x.length≤1000) (hok:∀ y∈x,okRow y):Calls Tryz.prog 171 #[.slice A n c,.func (.func 45) #[] #[]] w (Copied eRow 59 x w):=(teachRowT h hn hok).mono fun _ _ h=>h.copied
theorem townChange_ {w:World} {F:Blocks} {cs:List Value} {x:Chg} (h:eChg.rel w F cs x) (hok:okChg x):Calls Tryz.prog 112 #[.agg cs.toArray] w (Owned eChg x w):=by
 obtain ⟨A,n,c,rfl,h2⟩:=eChg_inv h
 have HS:=Lib.hid h2
 clear h h2
 go_enter Tryz.func112,Tryz.ntmps112
 go_wp2_with fail
 obtain ⟨W,hW_,hb1,B1,B2⟩:=al2 w 155 155 #[.string x.1,.int .i64 x.2.1,.slice A n c] #[.string ⟨#[]⟩,.int .i64 0,.slice none 0 0]
 rw [←hW_]
 clear hW_
 have HF:=Lib.hid (townRow_ (HS.out.ext hb1) hok)
 obtain ⟨g2,hg2⟩:∃ g,w.heap.size+1=g:=⟨_,rfl⟩
 have hg2n:w.heap.size<g2:=by omega
 rw [hg2] at B2 ⊢
 clear hg2
 go_wp2_with fail
 refine HF.out.mono ?_
 rintro e w4 ⟨A4,c4,rfl,hown4,hb4⟩
 clear HF
 have HR:=Lib.hid (eChg_mk (hown4.sl (G:=fun b=>W.heap.size≤b) (fun b h _=>h) (fun b h=>h.1)))
 have B14:=B1.ext hb4
 have B24:=B2.ext hb4
 have hbw4:=hb1.trans (Below.mono hb4 hb1.size)
 have hw1:g2<W.heap.size:=B2.lt
 clear hown4 B1 B2 hb4 hb1
 have q:=B14.cell 2
 have f:=B14.frozen 2
 go_upto_region 2 with fail
 have hk5:=Keep.set (F:=fun b=>W.heap.size≤b) w4 ⟨w.heap.size,2,none⟩ (.slice A4 (List.length x.2.2) c4) (show ¬W.heap.size≤w.heap.size by omega)
 have HR5:=Lib.hid (eChg.keep HR.out hk5)
 have B15:=B14.set_ 2 (.slice A4 (List.length x.2.2) c4)
 have B25:=Blk.keep (F:=fun b=>b≠w.heap.size) B24 (Keep.grown (set_grown w4 w.heap.size 2 (.slice A4 (List.length x.2.2) c4)) (fun g hg h=>by injection hg with hg;omega)) (by omega)
 have hbw5:=hbw4.grown (set_grown w4 w.heap.size 2 (.slice A4 (List.length x.2.2) c4)) (Nat.le_of_lt B14.lt) (fun k hk=>by injection hk with hk;omega)
 obtain ⟨W5,hW5⟩:∃ W,W=w4.setCell ⟨w.heap.size,2,none⟩ (.slice A4 (List.length x.2.2) c4):=⟨_,rfl⟩
 rw [←hW5] at HR5 B15 B25 hbw5 ⊢
 clear hW5 hk5 B14 B24 HR hbw4 q f
 have B14:=B15
 have B24:=B25
 have HR:=HR5
 have hbw4:=hbw5
 clear B15 B25 HR5 hbw5
 obtain ⟨cz,hcz⟩:∃ z,z=([.string x.1,.int .i64 x.2.1,.slice A4 (List.length x.2.2) c4]:List Value):=⟨_,rfl⟩
 have hczl:cz.length=3:=by rw [hcz];rfl
 have hone:∀ u∈cz,u.oneCell'=true:=HR.out |> fun h=>by rw [hcz];exact eChg.one h
 have hsz:(Tryz.prog.info? 155).map (·.size)=some cz.length:=by rw [hczl];kernel_rfl
 have hth:=Blk.there (o:=0) (n:=3) B24 (by simp)
 have hrg:W5.rangeAt w.heap.size 0 cz:=by rw [hcz];exact Blk.whole B14
 go_wp2_with (first|((with_reducible show wpList _ _ _ (Oper.mk (some 7) _ _ _ _ _::_) _ _);(refine wpList_load_mid rfl 155 _ rfl w.heap.size 0 rfl cz _ hrg Tryz.underlying155 rfl hsz ?_)) |
  ((with_reducible show wpList _ _ _ (Oper.mk none _ _ _ _ _::_) _ _);(refine wpList_store_mid rfl 155 _ _ rfl g2 0 cz.toArray rfl rfl ?s1 ?s2 (all_oneCell_toArray hone) ?_)))
 case s1=>exact (show cz.toArray.size=3 by simp [hczl]) ▸ hth
 case s2=>exact (show cz.toArray.size=cz.length by simp) ▸ hsz
 obtain ⟨B8,hg8⟩:=Blk.lay cz 0 B24 (by rw [hczl];simp)
 rw [laid_all _ _ (by rw [hczl];rfl)] at B8
 have hbw8:=hbw4.grown hg8 (Nat.le_of_lt (Nat.lt_of_lt_of_le hg2n (Nat.le_of_lt B24.lt))) (fun k hk=>by injection hk with hk;omega)
 have HR8:=Lib.hid (eChg.keep HR.out (Keep.grown hg8 (fun g hg h=>by injection hg with hg;omega)))
 generalize W5.setCells g2 0 cz=w8 at *
 clear hth B14 B24 hg8 hrg HR hbw4
 go_wp2
 refine bodyPost_ret (v:=.agg cz.toArray) (results_cell_row rfl _ _ g2 _ _ (0,0) _ rfl B8 Tryz.underlying155 rfl (by rw [List.size_toArray];exact hsz)) rfl ⟨cz,rfl,by rw [hcz];exact eChg.mono HR8.out (fun b h=>by omega),hbw8⟩
theorem teachChgT {w:World} {F:Blocks} {A:Option Addr} {n c:Nat} {x:List Chg} (h:Sl eChg w F A n c x) (hn:x.length≤1000) (hok:∀ y∈x,okChg y):Calls Tryz.prog 111 #[.slice A n c,.func (.func 112) #[] #[]] w (CopiedT eChg 155 x w):=by
 obtain ⟨i0,hi,hz0,hz1,hz2⟩:=info_parts (P:=Tryz.prog) (e:=155) (z:=.agg #[.string ⟨#[]⟩,.int .i64 0,.slice none 0 0]) (size:=3) (bytes:=48) (by kernel_rfl)
 have HS:=Lib.hid h
 have HL:=Lib.hid h.len
 have hn:n≤1000:=by have:=h.len;omega
 clear h
 have HK:=Lib.hid hok
 clear hok
 go_enter Tryz.func111,Tryz.ntmps111
 go_wp2_with (at_make;refine wpList_make_full _ rfl _ _ 123 rfl w.heap.size 155 i0 (.agg #[.string ⟨#[]⟩,.int .i64 0,.slice none 0 0]) 3 Tryz.underlying123 hi hz0 hz1 _ _ _ _ n rfl rfl rfl rfl ?b2 ?b3 (Nat.le_refl _) ?_)
 case b2=>rw [hz2];omega
 case b3=>unfold maxLen;omega
 intro w1 hown hgrow
 obtain ⟨Z,BO,hZl⟩:=made_blk hown
 have hb1:=(Below.refl w.heap.size w).grown hgrow (Nat.le_refl _) (fun k hk=>by cases hk)
 obtain ⟨go,hgo⟩:∃ g,w.heap.size=g:=⟨_,rfl⟩
 have BO0:Blk w1 w.heap.size 155 ((([]:List (List Value)).flatten++Z.drop (0 * 3)).toArray):=by simpa using BO
 have HB0:=Lib.hid (And.intro BO0 hb1)
 clear hown hgrow BO BO0 hb1
 rw [hgo] at HB0
 have hgw:go=w.heap.size:=hgo.symm
 rw [hgo]
 clear hgo
 have HGW:=Lib.hid hgw
 clear hgw
 go_wp2_with fail
 go_loopw [13] (fun i wr=>∃ (k:Nat) (css:List (List Value)),i=.int .i64 k∧k≤n∧Hid (Els eChg wr (fun b=>go<b) css (x.take k))∧Hid (Blk wr go 155 (css.flatten++Z.drop (k * 3)).toArray∧Below go w wr)) (fun i _=>n - (intOf i).toNat)
 case atStart=>exact ⟨0,[],rfl,Nat.zero_le _,Lib.hid (by simpa using Els.nil _ _),HB0⟩
 case round =>
  clear HB0
  obtain ⟨k,css,rfl,hk,HE,HB⟩:=hrel
  rcases Nat.lt_or_ge k n with hlt|hge
  ·have hd:decide ((k:Int)<(n:Int))=true:=by simp;omega
   have hkn:(k:Int)<(n:Int):=by omega
   obtain ⟨y,hy⟩:∃ y,x[k]? = some y:=⟨_,List.getElem?_eq_getElem (by have:=HL.out;omega)⟩
   have HY:=Lib.hid hy
   obtain ⟨b0,off,rfl,hnc,hFb,hbl⟩:=HS.out.some_ (by omega)
   have hbw:=HB.out.2
   have hsz:=HB.out.1.lt
   have hS:=HS.out.ext (show Below w.heap.size w wr by rw [←HGW.out];exact hbw)
   obtain ⟨cs,hcs,hcell⟩:=hS.at_ hy
   have hcl1:cs.length=3:=eChg.len hcs
   have hone:=eChg.one hcs
   have hcz:(Tryz.prog.info? 155).map (·.size)=some cs.length:=by rw [hcl1];kernel_rfl
   have C7:=Blk.new wr 155 (([.string ⟨#[]⟩,.int .i64 0,.slice none 0 0]:List Value)).toArray
   have hth7:=Blk.there (o:=0) (n:=3) C7 (by simp)
   obtain ⟨B7,hg7⟩:=Blk.lay cs 0 C7 (by rw [hcl1];simp)
   rw [laid_all _ _ (by rw [hcl1];rfl)] at B7
   have hb7:Below wr.heap.size wr ((wr.alloc (.cells #[.string ⟨#[]⟩,.int .i64 0,.slice none 0 0] 155)).setCells wr.heap.size 0 cs):=((Below.refl _ _).alloc (Nat.le_refl _) _).grown hg7 (by simp) (fun k hk=>by injection hk with hk;omega)
   clear hg7 C7
   have hrg:wr.rangeAt b0 (off+k * 3) cs:=fun j u hu=>hcell j u hu
   have HR:=Lib.hid hrg
   clear hrg hcell hS hy
   go_upto_region 5 with (first|((with_reducible show wpList _ _ _ (Oper.mk (some 17) _ _ _ _ _::_) _ _);(refine wpList_load_mid rfl 155 _ rfl b0 (off+k * 3) rfl cs _ HR.out Tryz.underlying155 rfl hcz ?_)) |
    ((with_reducible show wpList _ _ _ (Oper.mk none (Op.store _ (Operand.tmp 7) _) _ _ _ _::_) _ _);(refine wpList_store_mid rfl 155 _ _ rfl wr.heap.size 0 cs.toArray rfl rfl ?s5 ?s6 (all_oneCell_toArray hone) ?_)))
   case s5=>exact (show cs.toArray.size=3 by simp [hcl1]) ▸ hth7
   case s6=>rw [List.size_toArray];exact hcz
   have HC:=Lib.hid (eChg.ext hcs hb7)
   clear hcs
   generalize (wr.alloc (.cells #[.string ⟨#[]⟩,.int .i64 0,.slice none 0 0] 155)).setCells wr.heap.size 0 cs=W7 at *
   have HF:=Lib.hid (townChange_ HC.out (HK.out y (List.mem_of_getElem? HY.out)))
   go_wp2_with ((with_reducible show wpList _ _ _ (Oper.mk (some 21) _ _ _ _ _::_) _ _);(refine wpList_load_mid rfl 155 _ rfl wr.heap.size 0 rfl cs _ (Blk.whole B7) Tryz.underlying155 rfl hcz ?_))
   refine HF.out.mono ?_
   rintro e w4 ⟨cs4,rfl,hr4,hb4⟩
   clear HF HC B7
   have hcl4:cs4.length=3:=eChg.len hr4
   have hone4:=eChg.one hr4
   have hcz4:(Tryz.prog.info? 155).map (·.size)=some cs4.length:=by rw [hcl4];kernel_rfl
   have hr4:=eChg.mono hr4 (G:=fun b=>go<b) (fun b h=>by have:=hb7.size;omega)
   have hE4:=Els.snoc ((HE.out.ext hb7).ext hb4) HY.out hr4
   have hfl:css.flatten.length=k * 3:=by have h9:=HE.out.flen;rw [List.length_take,Nat.min_eq_left (by have:=HL.out;omega)] at h9;exact h9
   have B4:=(HB.out.1.ext hb7).ext hb4
   have hbw4:=(hbw.trans (Below.mono hb7 (Nat.le_of_lt hsz))).trans (Below.mono hb4 (Nat.le_trans (Nat.le_of_lt hsz) hb7.size))
   have hkk:(k+1) * 3≤n * 3:=Nat.mul_le_mul_right _ hlt
   have hth:=Blk.there (o:=k * 3) (n:=3) B4 (by rw [List.length_append,List.length_drop,hfl,hZl];omega)
   obtain ⟨B5,hg5⟩:=Blk.lay cs4 (k * 3) B4 (by rw [List.length_append,List.length_drop,hfl,hZl];omega)
   rw [lay_at css.flatten Z cs4 k 3 hfl hcl4 (by rw [hZl];exact hkk)] at B5
   have hE5:=Els.keep hE4 (Keep.grown hg5 (fun g hg hlt=>by injection hg with hg;omega))
   have hbw5:=hbw4.grown hg5 (Nat.le_of_lt B4.lt) (fun k hk=>by injection hk with hk;omega)
   have HE5:=Lib.hid hE5
   have HB5:=Lib.hid (show Blk _ go 155 ((css++[cs4]).flatten++Z.drop ((k+1) * 3)).toArray∧Below go w _ from ⟨by rw [List.flatten_append,List.flatten_singleton];exact B5,hbw5⟩)
   clear hE5 hg5 B5 hbw5 hE4 hr4 hfl B4 hbw4 hbw
   go_upto_region 6 with ((with_reducible show wpList _ _ _ (Oper.mk none (Op.store _ (Operand.tmp 23) _) _ _ _ _::_) _ _);(refine wpList_store_mid rfl 155 _ _ rfl go (k * 3) cs4.toArray rfl rfl ?s7 ?s8 (all_oneCell_toArray hone4) ?_))
   case s7=>exact (show cs4.toArray.size=3 by simp [hcl4]) ▸ hth
   case s8=>rw [List.size_toArray];exact hcz4
   generalize w4.setCells go (k * 3) cs4=W5 at *
   clear hth hone hone4
   go_wp2_with fail
   go_roundw
   case rel=>exact ⟨k+1,_,by go_num,by omega,HE5,HB5⟩
   case measure=>simp [intOf];omega
  ·obtain rfl:k=n:=by omega
   have hd:decide ((k:Int)<(k:Int))=false:=by simp
   have hxk:x.length=k:=HL.out
   subst hxk
   have hE:=HE.out
   rw [List.take_length] at hE
   have hB:=HB.out
   rw [List.drop_eq_nil_of_le (by omega),List.append_nil] at hB
   have HR:=Lib.hid (show OwnE eChg 155 wr w.heap.size (fun b=>w.heap.size≤b∧(some ⟨go,0,none⟩:Option Addr)≠some ⟨b,0,none⟩) (some ⟨go,0,none⟩) x.length x.length x from ⟨css,own_of_blk hB.1 hE.flen (by rw [HGW.out];exact Nat.le_refl _) hn,hE.mono (fun b h=>⟨by have:=HGW.out;omega,fun e=>by injection e with e;injection e with e;omega⟩),rfl⟩)
   have hbw:Below w.heap.size w wr:=by rw [←HGW.out];exact hB.2
   clear hE hB HE HB
   go_wp2
   go_ret
   exact ⟨_,rfl,HR.out,hbw⟩
theorem teachChg {w:World} {F:Blocks} {A:Option Addr} {n c:Nat} {x:List Chg} (h:Sl eChg w F A n c x) (hn:x.length≤1000) (hok:∀ y∈x,okChg y):Calls Tryz.prog 111 #[.slice A n c,.func (.func 112) #[] #[]] w (Copied eChg 155 x w):=(teachChgT h hn hok).mono fun _ _ h=>h.copied
theorem seachRowT {w:World} {F:Blocks} {A:Option Addr} {n c:Nat} {x:List RowD} (h:Sl eRow w F A n c x) (hn:x.length≤1000) (hok:∀ y∈x,okRow y):Calls Tryz.prog 139 #[.slice A n c,.func (.func 140) #[] #[]] w (CopiedT eRow 59 x w):=by
 obtain ⟨i0,hi,hz0,hz1,hz2⟩:=info_parts (P:=Tryz.prog) (e:=59) (z:=.slice none 0 0) (size:=1) (bytes:=24) (by kernel_rfl)
 have HS:=Lib.hid h
 have HL:=Lib.hid h.len
 have hn:n≤1000:=by have:=h.len;omega
 clear h
 have HK:=Lib.hid hok
 clear hok
 go_enter Tryz.func139,Tryz.ntmps139
 go_wp2_with (at_make;refine wpList_make_full _ rfl _ _ 151 rfl w.heap.size 59 i0 (.slice none 0 0) 1 Tryz.underlying151 hi hz0 hz1 _ _ _ _ n rfl rfl rfl rfl ?b2 ?b3 (Nat.le_refl _) ?_)
 case b2=>rw [hz2];omega
 case b3=>unfold maxLen;omega
 intro w1 hown hgrow
 obtain ⟨Z,BO,hZl⟩:=made_blk hown
 have hb1:=(Below.refl w.heap.size w).grown hgrow (Nat.le_refl _) (fun k hk=>by cases hk)
 obtain ⟨go,hgo⟩:∃ g,w.heap.size=g:=⟨_,rfl⟩
 have BO0:Blk w1 w.heap.size 59 ((([]:List (List Value)).flatten++Z.drop (0 * 1)).toArray):=by simpa using BO
 have HB0:=Lib.hid (And.intro BO0 hb1)
 clear hown hgrow BO BO0 hb1
 rw [hgo] at HB0
 have hgw:go=w.heap.size:=hgo.symm
 rw [hgo]
 clear hgo
 have HGW:=Lib.hid hgw
 clear hgw
 go_wp2_with fail
 go_loopw [13] (fun i wr=>∃ (k:Nat) (css:List (List Value)),i=.int .i64 k∧k≤n∧Hid (Els eRow wr (fun b=>go<b) css (x.take k))∧Hid (Blk wr go 59 (css.flatten++Z.drop (k * 1)).toArray∧Below go w wr)) (fun i _=>n - (intOf i).toNat)
 case atStart=>exact ⟨0,[],rfl,Nat.zero_le _,Lib.hid (by simpa using Els.nil _ _),HB0⟩
 case round =>
  clear HB0
  obtain ⟨k,css,rfl,hk,HE,HB⟩:=hrel
  rcases Nat.lt_or_ge k n with hlt|hge
  ·have hd:decide ((k:Int)<(n:Int))=true:=by simp;omega
   have hkn:(k:Int)<(n:Int):=by omega
   obtain ⟨y,hy⟩:∃ y,x[k]? = some y:=⟨_,List.getElem?_eq_getElem (by have:=HL.out;omega)⟩
   have HY:=Lib.hid hy
   obtain ⟨b0,off,rfl,hnc,hFb,hbl⟩:=HS.out.some_ (by omega)
   have hbw:=HB.out.2
   have hsz:=HB.out.1.lt
   have hS:=HS.out.ext (show Below w.heap.size w wr by rw [←HGW.out];exact hbw)
   obtain ⟨cs,hcs,hcell⟩:=hS.at_ hy
   obtain ⟨Ar,nr,cr,rfl,hSr⟩:=eRow_inv hcs
   have q:=hcell 0 _ rfl
   simp only [show eRow.k=1 from rfl,Nat.mul_one,Nat.add_zero] at q
   have HF:=Lib.hid (sownRow_ hSr (HK.out y (List.mem_of_getElem? hy)))
   clear hy hcs hcell hSr hS
   go_wp2_with fail
   refine HF.out.mono ?_
   rintro e w4 ⟨A4,c4,rfl,hown4,hb4⟩
   clear q HF
   have hr4:=eRow_mk (hown4.sl (G:=fun b=>go<b) (fun b h _=>by omega) (fun b h=>by have:=h.1;omega))
   have hE4:=Els.snoc (HE.out.ext hb4) HY.out hr4
   have hcl:css.length=k:=by have:=HE.out.1;rw [List.length_take] at this;have:=HL.out;omega
   have hfl:css.flatten.length=k * 1:=by have h9:=HE.out.flen;rw [List.length_take,Nat.min_eq_left (by have:=HL.out;omega)] at h9;exact h9
   have B4:=HB.out.1.ext hb4
   have hbw4:=hbw.trans (Below.mono hb4 (Nat.le_of_lt hsz))
   have q:∃ u,w4.cell? ⟨go,k,none⟩=some u:=by
    rw [B4.cell k]
    exact ⟨_,Array.getElem?_eq_getElem (by simp [hfl,hZl];omega)⟩
   obtain ⟨u,q⟩:=q
   have f:=B4.frozen k
   have B5:=Blk.set_ B4 k (.slice A4 y.length c4)
   rw [show (css.flatten++Z.drop (k * 1)).toArray.setIfInBounds k (Value.slice A4 y.length c4)=((css++[[Value.slice A4 y.length c4]]).flatten++Z.drop ((k+1) * 1)).toArray from by
    have:=lay_at css.flatten Z [Value.slice A4 y.length c4] k 1 hfl rfl (by rw [hZl,Nat.mul_one,Nat.mul_one];omega)
    rw [Nat.mul_one] at this
    rw [Nat.mul_one,List.setIfInBounds_toArray,List.flatten_append,List.flatten_singleton,←this]
    unfold laid
    rw [List.set_eq_take_append_cons_drop,if_pos (by rw [List.length_append,List.length_drop,hfl,hZl];omega)]
    simp] at B5
   have hg5:=set_grown w4 go k (.slice A4 y.length c4)
   have hE5:=Els.keep hE4 (Keep.grown hg5 (fun g hg hlt=>by injection hg with hg;omega))
   have hbw5:=hbw4.grown hg5 (Nat.le_of_lt B4.lt) (fun k hk=>by injection hk with hk;omega)
   have HE5:=Lib.hid hE5
   have HB5:=Lib.hid (And.intro B5 hbw5)
   clear hE5 hg5 B5 hbw5 hE4 hr4 hown4 hcl hfl B4 hbw4 hbw
   go_wp2
   go_roundw
   case rel=>exact ⟨k+1,_,by go_num,by omega,HE5,HB5⟩
   case measure=>simp [intOf];omega
  ·obtain rfl:k=n:=by omega
   have hd:decide ((k:Int)<(k:Int))=false:=by simp
   have hxk:x.length=k:=HL.out
   subst hxk
   have hE:=HE.out
   rw [List.take_length] at hE
   have hB:=HB.out
   rw [List.drop_eq_nil_of_le (by omega),List.append_nil] at hB
   have HR:=Lib.hid (show OwnE eRow 59 wr w.heap.size (fun b=>w.heap.size≤b∧(some ⟨go,0,none⟩:Option Addr)≠some ⟨b,0,none⟩) (some ⟨go,0,none⟩) x.length x.length x from ⟨css,own_of_blk hB.1 hE.flen (by rw [HGW.out];exact Nat.le_refl _) hn,hE.mono (fun b h=>⟨by have:=HGW.out;omega,fun e=>by injection e with e;injection e with e;omega⟩),rfl⟩)
   have hbw:Below w.heap.size w wr:=by rw [←HGW.out];exact hB.2
   clear hE hB HE HB
   go_wp2
   go_ret
   exact ⟨_,rfl,HR.out,hbw⟩
theorem seachRow {w:World} {F:Blocks} {A:Option Addr} {n c:Nat} {x:List RowD} (h:Sl eRow w F A n c x) (hn:x.length≤1000) (hok:∀ y∈x,okRow y):Calls Tryz.prog 139 #[.slice A n c,.func (.func 140) #[] #[]] w (Copied eRow 59 x w):=(seachRowT h hn hok).mono fun _ _ h=>h.copied
theorem sownChange_ {w:World} {F:Blocks} {cs:List Value} {x:Chg} (h:eChg.rel w F cs x) (hok:okChg x):Calls Tryz.prog 142 #[.agg cs.toArray] w (Owned eChg x w):=by
 obtain ⟨A,n,c,rfl,h2⟩:=eChg_inv h
 have HS:=Lib.hid h2
 clear h h2
 go_enter Tryz.func142,Tryz.ntmps142
 go_wp2_with fail
 obtain ⟨W,hW_,hb1,B1,B2⟩:=al2 w 155 155 #[.string x.1,.int .i64 x.2.1,.slice A n c] #[.string ⟨#[]⟩,.int .i64 0,.slice none 0 0]
 rw [←hW_]
 clear hW_
 have HF:=Lib.hid (sownRow_ (HS.out.ext hb1) hok)
 obtain ⟨g2,hg2⟩:∃ g,w.heap.size+1=g:=⟨_,rfl⟩
 have hg2n:w.heap.size<g2:=by omega
 rw [hg2] at B2 ⊢
 clear hg2
 go_wp2_with fail
 refine HF.out.mono ?_
 rintro e w4 ⟨A4,c4,rfl,hown4,hb4⟩
 clear HF
 have HR:=Lib.hid (eChg_mk (hown4.sl (G:=fun b=>W.heap.size≤b) (fun b h _=>h) (fun b h=>h.1)))
 have B14:=B1.ext hb4
 have B24:=B2.ext hb4
 have hbw4:=hb1.trans (Below.mono hb4 hb1.size)
 have hw1:g2<W.heap.size:=B2.lt
 clear hown4 B1 B2 hb4 hb1
 have q:=B14.cell 2
 have f:=B14.frozen 2
 go_upto_region 2 with fail
 have hk5:=Keep.set (F:=fun b=>W.heap.size≤b) w4 ⟨w.heap.size,2,none⟩ (.slice A4 (List.length x.2.2) c4) (show ¬W.heap.size≤w.heap.size by omega)
 have HR5:=Lib.hid (eChg.keep HR.out hk5)
 have B15:=B14.set_ 2 (.slice A4 (List.length x.2.2) c4)
 have B25:=Blk.keep (F:=fun b=>b≠w.heap.size) B24 (Keep.grown (set_grown w4 w.heap.size 2 (.slice A4 (List.length x.2.2) c4)) (fun g hg h=>by injection hg with hg;omega)) (by omega)
 have hbw5:=hbw4.grown (set_grown w4 w.heap.size 2 (.slice A4 (List.length x.2.2) c4)) (Nat.le_of_lt B14.lt) (fun k hk=>by injection hk with hk;omega)
 obtain ⟨W5,hW5⟩:∃ W,W=w4.setCell ⟨w.heap.size,2,none⟩ (.slice A4 (List.length x.2.2) c4):=⟨_,rfl⟩
 rw [←hW5] at HR5 B15 B25 hbw5 ⊢
 clear hW5 hk5 B14 B24 HR hbw4 q f
 have B14:=B15
 have B24:=B25
 have HR:=HR5
 have hbw4:=hbw5
 clear B15 B25 HR5 hbw5
 obtain ⟨cz,hcz⟩:∃ z,z=([.string x.1,.int .i64 x.2.1,.slice A4 (List.length x.2.2) c4]:List Value):=⟨_,rfl⟩
 have hczl:cz.length=3:=by rw [hcz];rfl
 have hone:∀ u∈cz,u.oneCell'=true:=HR.out |> fun h=>by rw [hcz];exact eChg.one h
 have hsz:(Tryz.prog.info? 155).map (·.size)=some cz.length:=by rw [hczl];kernel_rfl
 have hth:=Blk.there (o:=0) (n:=3) B24 (by simp)
 have hrg:W5.rangeAt w.heap.size 0 cz:=by rw [hcz];exact Blk.whole B14
 go_wp2_with (first|((with_reducible show wpList _ _ _ (Oper.mk (some 7) _ _ _ _ _::_) _ _);(refine wpList_load_mid rfl 155 _ rfl w.heap.size 0 rfl cz _ hrg Tryz.underlying155 rfl hsz ?_)) |
  ((with_reducible show wpList _ _ _ (Oper.mk none _ _ _ _ _::_) _ _);(refine wpList_store_mid rfl 155 _ _ rfl g2 0 cz.toArray rfl rfl ?s1 ?s2 (all_oneCell_toArray hone) ?_)))
 case s1=>exact (show cz.toArray.size=3 by simp [hczl]) ▸ hth
 case s2=>exact (show cz.toArray.size=cz.length by simp) ▸ hsz
 obtain ⟨B8,hg8⟩:=Blk.lay cz 0 B24 (by rw [hczl];simp)
 rw [laid_all _ _ (by rw [hczl];rfl)] at B8
 have hbw8:=hbw4.grown hg8 (Nat.le_of_lt (Nat.lt_of_lt_of_le hg2n (Nat.le_of_lt B24.lt))) (fun k hk=>by injection hk with hk;omega)
 have HR8:=Lib.hid (eChg.keep HR.out (Keep.grown hg8 (fun g hg h=>by injection hg with hg;omega)))
 generalize W5.setCells g2 0 cz=w8 at *
 clear hth B14 B24 hg8 hrg HR hbw4
 go_wp2
 refine bodyPost_ret (v:=.agg cz.toArray) (results_cell_row rfl _ _ g2 _ _ (0,0) _ rfl B8 Tryz.underlying155 rfl (by rw [List.size_toArray];exact hsz)) rfl ⟨cz,rfl,by rw [hcz];exact eChg.mono HR8.out (fun b h=>by omega),hbw8⟩
theorem seachChgT {w:World} {F:Blocks} {A:Option Addr} {n c:Nat} {x:List Chg} (h:Sl eChg w F A n c x) (hn:x.length≤1000) (hok:∀ y∈x,okChg y):Calls Tryz.prog 141 #[.slice A n c,.func (.func 142) #[] #[]] w (CopiedT eChg 155 x w):=by
 obtain ⟨i0,hi,hz0,hz1,hz2⟩:=info_parts (P:=Tryz.prog) (e:=155) (z:=.agg #[.string ⟨#[]⟩,.int .i64 0,.slice none 0 0]) (size:=3) (bytes:=48) (by kernel_rfl)
 have HS:=Lib.hid h
 have HL:=Lib.hid h.len
 have hn:n≤1000:=by have:=h.len;omega
 clear h
 have HK:=Lib.hid hok
 clear hok
 go_enter Tryz.func141,Tryz.ntmps141
 go_wp2_with (at_make;refine wpList_make_full _ rfl _ _ 123 rfl w.heap.size 155 i0 (.agg #[.string ⟨#[]⟩,.int .i64 0,.slice none 0 0]) 3 Tryz.underlying123 hi hz0 hz1 _ _ _ _ n rfl rfl rfl rfl ?b2 ?b3 (Nat.le_refl _) ?_)
 case b2=>rw [hz2];omega
 case b3=>unfold maxLen;omega
 intro w1 hown hgrow
 obtain ⟨Z,BO,hZl⟩:=made_blk hown
 have hb1:=(Below.refl w.heap.size w).grown hgrow (Nat.le_refl _) (fun k hk=>by cases hk)
 obtain ⟨go,hgo⟩:∃ g,w.heap.size=g:=⟨_,rfl⟩
 have BO0:Blk w1 w.heap.size 155 ((([]:List (List Value)).flatten++Z.drop (0 * 3)).toArray):=by simpa using BO
 have HB0:=Lib.hid (And.intro BO0 hb1)
 clear hown hgrow BO BO0 hb1
 rw [hgo] at HB0
 have hgw:go=w.heap.size:=hgo.symm
 rw [hgo]
 clear hgo
 have HGW:=Lib.hid hgw
 clear hgw
 go_wp2_with fail
 go_loopw [13] (fun i wr=>∃ (k:Nat) (css:List (List Value)),i=.int .i64 k∧k≤n∧Hid (Els eChg wr (fun b=>go<b) css (x.take k))∧Hid (Blk wr go 155 (css.flatten++Z.drop (k * 3)).toArray∧Below go w wr)) (fun i _=>n - (intOf i).toNat)
 case atStart=>exact ⟨0,[],rfl,Nat.zero_le _,Lib.hid (by simpa using Els.nil _ _),HB0⟩
 case round =>
  clear HB0
  obtain ⟨k,css,rfl,hk,HE,HB⟩:=hrel
  rcases Nat.lt_or_ge k n with hlt|hge
  ·have hd:decide ((k:Int)<(n:Int))=true:=by simp;omega
   have hkn:(k:Int)<(n:Int):=by omega
   obtain ⟨y,hy⟩:∃ y,x[k]? = some y:=⟨_,List.getElem?_eq_getElem (by have:=HL.out;omega)⟩
   have HY:=Lib.hid hy
   obtain ⟨b0,off,rfl,hnc,hFb,hbl⟩:=HS.out.some_ (by omega)
   have hbw:=HB.out.2
   have hsz:=HB.out.1.lt
   have hS:=HS.out.ext (show Below w.heap.size w wr by rw [←HGW.out];exact hbw)
   obtain ⟨cs,hcs,hcell⟩:=hS.at_ hy
   have hcl1:cs.length=3:=eChg.len hcs
   have hone:=eChg.one hcs
   have hcz:(Tryz.prog.info? 155).map (·.size)=some cs.length:=by rw [hcl1];kernel_rfl
   have C7:=Blk.new wr 155 (([.string ⟨#[]⟩,.int .i64 0,.slice none 0 0]:List Value)).toArray
   have hth7:=Blk.there (o:=0) (n:=3) C7 (by simp)
   obtain ⟨B7,hg7⟩:=Blk.lay cs 0 C7 (by rw [hcl1];simp)
   rw [laid_all _ _ (by rw [hcl1];rfl)] at B7
   have hb7:Below wr.heap.size wr ((wr.alloc (.cells #[.string ⟨#[]⟩,.int .i64 0,.slice none 0 0] 155)).setCells wr.heap.size 0 cs):=((Below.refl _ _).alloc (Nat.le_refl _) _).grown hg7 (by simp) (fun k hk=>by injection hk with hk;omega)
   clear hg7 C7
   have hrg:wr.rangeAt b0 (off+k * 3) cs:=fun j u hu=>hcell j u hu
   have HR:=Lib.hid hrg
   clear hrg hcell hS hy
   go_upto_region 5 with (first|((with_reducible show wpList _ _ _ (Oper.mk (some 17) _ _ _ _ _::_) _ _);(refine wpList_load_mid rfl 155 _ rfl b0 (off+k * 3) rfl cs _ HR.out Tryz.underlying155 rfl hcz ?_)) |
    ((with_reducible show wpList _ _ _ (Oper.mk none (Op.store _ (Operand.tmp 7) _) _ _ _ _::_) _ _);(refine wpList_store_mid rfl 155 _ _ rfl wr.heap.size 0 cs.toArray rfl rfl ?s5 ?s6 (all_oneCell_toArray hone) ?_)))
   case s5=>exact (show cs.toArray.size=3 by simp [hcl1]) ▸ hth7
   case s6=>rw [List.size_toArray];exact hcz
   have HC:=Lib.hid (eChg.ext hcs hb7)
   clear hcs
   generalize (wr.alloc (.cells #[.string ⟨#[]⟩,.int .i64 0,.slice none 0 0] 155)).setCells wr.heap.size 0 cs=W7 at *
   have HF:=Lib.hid (sownChange_ HC.out (HK.out y (List.mem_of_getElem? HY.out)))
   go_wp2_with ((with_reducible show wpList _ _ _ (Oper.mk (some 21) _ _ _ _ _::_) _ _);(refine wpList_load_mid rfl 155 _ rfl wr.heap.size 0 rfl cs _ (Blk.whole B7) Tryz.underlying155 rfl hcz ?_))
   refine HF.out.mono ?_
   rintro e w4 ⟨cs4,rfl,hr4,hb4⟩
   clear HF HC B7
   have hcl4:cs4.length=3:=eChg.len hr4
   have hone4:=eChg.one hr4
   have hcz4:(Tryz.prog.info? 155).map (·.size)=some cs4.length:=by rw [hcl4];kernel_rfl
   have hr4:=eChg.mono hr4 (G:=fun b=>go<b) (fun b h=>by have:=hb7.size;omega)
   have hE4:=Els.snoc ((HE.out.ext hb7).ext hb4) HY.out hr4
   have hfl:css.flatten.length=k * 3:=by have h9:=HE.out.flen;rw [List.length_take,Nat.min_eq_left (by have:=HL.out;omega)] at h9;exact h9
   have B4:=(HB.out.1.ext hb7).ext hb4
   have hbw4:=(hbw.trans (Below.mono hb7 (Nat.le_of_lt hsz))).trans (Below.mono hb4 (Nat.le_trans (Nat.le_of_lt hsz) hb7.size))
   have hkk:(k+1) * 3≤n * 3:=Nat.mul_le_mul_right _ hlt
   have hth:=Blk.there (o:=k * 3) (n:=3) B4 (by rw [List.length_append,List.length_drop,hfl,hZl];omega)
   obtain ⟨B5,hg5⟩:=Blk.lay cs4 (k * 3) B4 (by rw [List.length_append,List.length_drop,hfl,hZl];omega)
   rw [lay_at css.flatten Z cs4 k 3 hfl hcl4 (by rw [hZl];exact hkk)] at B5
   have hE5:=Els.keep hE4 (Keep.grown hg5 (fun g hg hlt=>by injection hg with hg;omega))
   have hbw5:=hbw4.grown hg5 (Nat.le_of_lt B4.lt) (fun k hk=>by injection hk with hk;omega)
   have HE5:=Lib.hid hE5
   have HB5:=Lib.hid (show Blk _ go 155 ((css++[cs4]).flatten++Z.drop ((k+1) * 3)).toArray∧Below go w _ from ⟨by rw [List.flatten_append,List.flatten_singleton];exact B5,hbw5⟩)
   clear hE5 hg5 B5 hbw5 hE4 hr4 hfl B4 hbw4 hbw
   go_upto_region 6 with ((with_reducible show wpList _ _ _ (Oper.mk none (Op.store _ (Operand.tmp 23) _) _ _ _ _::_) _ _);(refine wpList_store_mid rfl 155 _ _ rfl go (k * 3) cs4.toArray rfl rfl ?s7 ?s8 (all_oneCell_toArray hone4) ?_))
   case s7=>exact (show cs4.toArray.size=3 by simp [hcl4]) ▸ hth
   case s8=>rw [List.size_toArray];exact hcz4
   generalize w4.setCells go (k * 3) cs4=W5 at *
   clear hth hone hone4
   go_wp2_with fail
   go_roundw
   case rel=>exact ⟨k+1,_,by go_num,by omega,HE5,HB5⟩
   case measure=>simp [intOf];omega
  ·obtain rfl:k=n:=by omega
   have hd:decide ((k:Int)<(k:Int))=false:=by simp
   have hxk:x.length=k:=HL.out
   subst hxk
   have hE:=HE.out
   rw [List.take_length] at hE
   have hB:=HB.out
   rw [List.drop_eq_nil_of_le (by omega),List.append_nil] at hB
   have HR:=Lib.hid (show OwnE eChg 155 wr w.heap.size (fun b=>w.heap.size≤b∧(some ⟨go,0,none⟩:Option Addr)≠some ⟨b,0,none⟩) (some ⟨go,0,none⟩) x.length x.length x from ⟨css,own_of_blk hB.1 hE.flen (by rw [HGW.out];exact Nat.le_refl _) hn,hE.mono (fun b h=>⟨by have:=HGW.out;omega,fun e=>by injection e with e;injection e with e;omega⟩),rfl⟩)
   have hbw:Below w.heap.size w wr:=by rw [←HGW.out];exact hB.2
   clear hE hB HE HB
   go_wp2
   go_ret
   exact ⟨_,rfl,HR.out,hbw⟩
theorem townTable_ {w:World} {F:Blocks} {cs:List Value} {x:Tab} (h:eTab.rel w F cs x) (hok:okTab x):Calls Tryz.prog 95 #[.agg cs.toArray] w (Owned eTab x w):=by
 obtain ⟨A,n,c,A2,n2,c2,rfl,h1,h2⟩:=eTab_inv h
 have HS1:=Lib.hid h1
 have HS2:=Lib.hid h2
 have hn1:n≤1000:=by have:=h1.len;have:=hok.1;omega
 have HOK:=Lib.hid hok
 clear h h1 h2 hok
 go_enter Tryz.func95,Tryz.ntmps95
 go_wp2_with fail
 obtain ⟨W,hW_,hb1,B1,B2⟩:=al2 w 153 153 #[.string x.1.1,.slice A n c,.int .i64 x.1.2.2.1,.bool x.1.2.2.2,.slice A2 n2 c2] #[.string ⟨#[]⟩,.slice none 0 0,.int .i64 0,.bool false,.slice none 0 0]
 rw [←hW_]
 clear hW_
 have HF:=Lib.hid (copyC (HS1.out.ext hb1) (by omega))
 obtain ⟨g2,hg2⟩:∃ g,w.heap.size+1=g:=⟨_,rfl⟩
 have hg2n:w.heap.size<g2:=by omega
 rw [hg2] at B2 ⊢
 clear hg2 HS1
 go_wp2_with fail
 refine HF.out.mono ?_
 rintro e w4 ⟨A4,c4,rfl,hown4,hb4⟩
 clear HF
 have B14:=B1.ext hb4
 have B24:=B2.ext hb4
 have hbw4:=hb1.trans (Below.mono hb4 hb1.size)
 have hw1:g2<W.heap.size:=B2.lt
 have hWs:=hb4.size
 have hown4s:=hown4.sl (G:=fun b=>W.heap.size≤b) (fun b h _=>Nat.le_trans (Nat.le_refl _) h) (fun b h=>Nat.le_trans (Nat.le_refl _) h.1)
 have HC:=Lib.hid hown4s
 clear hown4 hown4s
 clear B1 B2 hb4 hb1
 have q:=B14.cell 1
 have f:=B14.frozen 1
 go_upto_region 2 with fail
 have hk5:=Keep.set (F:=fun b=>W.heap.size≤b) w4 ⟨w.heap.size,1,none⟩ (.slice A4 (List.length x.1.2.1) c4) (show ¬W.heap.size≤w.heap.size by omega)
 have HC5:=Lib.hid (HC.out.keep hk5)
 have B15:=B14.set_ 1 (.slice A4 (List.length x.1.2.1) c4)
 have B25:=Blk.keep (F:=fun b=>b≠w.heap.size) B24 (Keep.grown (set_grown w4 w.heap.size 1 (.slice A4 (List.length x.1.2.1) c4)) (fun g hg h=>by injection hg with hg;omega)) (by omega)
 have hbw5:=hbw4.grown (set_grown w4 w.heap.size 1 (.slice A4 (List.length x.1.2.1) c4)) (Nat.le_of_lt B14.lt) (fun k hk=>by injection hk with hk;omega)
 have hWs5:W.heap.size≤(w4.setCell ⟨w.heap.size,1,none⟩ (.slice A4 (List.length x.1.2.1) c4)).heap.size:=Nat.le_trans hWs (set_grown w4 w.heap.size 1 (.slice A4 (List.length x.1.2.1) c4)).size
 obtain ⟨W5,hW5⟩:∃ W,W=w4.setCell ⟨w.heap.size,1,none⟩ (.slice A4 (List.length x.1.2.1) c4):=⟨_,rfl⟩
 rw [←hW5] at HC5 B15 B25 hbw5 hWs5 ⊢
 clear hW5 hk5 B14 B24 HC hbw4 q f hWs
 have B14:=B15
 have B24:=B25
 have hWs:=hWs5
 have HC:=HC5
 have hbw4:=hbw5
 clear B15 B25 hbw5 hWs5 HC5
 have HF:=Lib.hid (teachRow (HS2.out.ext hbw4) HOK.out.2.1 HOK.out.2.2)
 have q:W5.cell? ⟨w.heap.size,4,none⟩=some (.slice A2 n2 c2):=B14.cell 4
 go_wp2_with fail
 refine HF.out.mono ?_
 rintro e w6 ⟨A5,c5,rfl,hown4,hb4⟩
 clear HF q
 have HFI:=Lib.hid hown4.fine
 have HC6:=Lib.hid (HC.out.ext hb4)
 have B16:=B14.ext hb4
 have B26:=B24.ext hb4
 have hbw6:=hbw4.trans (Below.mono hb4 hbw4.size)
 have hWs6:=Nat.le_trans hWs hb4.size
 have hown4s:=hown4.sl (G:=fun b=>W.heap.size≤b) (fun b h _=>Nat.le_trans hWs h) (fun b h=>Nat.le_trans hWs h.1)
 have HD:=Lib.hid hown4s
 clear hown4 hown4s
 clear B14 B24 hb4 hbw4 HC hWs
 have B14:=B16
 have B24:=B26
 have hbw4:=hbw6
 have HC:=HC6
 have hWs:=hWs6
 clear B16 B26 hbw6 HC6 hWs6
 clear W5
 have q:=B14.cell 4
 have f:=B14.frozen 4
 go_upto_region 3 with fail
 have hk5:=Keep.set (F:=fun b=>W.heap.size≤b) w6 ⟨w.heap.size,4,none⟩ (.slice A5 (List.length x.2) c5) (show ¬W.heap.size≤w.heap.size by omega)
 have HC5:=Lib.hid (HC.out.keep hk5)
 have HD5:=Lib.hid (HD.out.keep hk5)
 have B15:=B14.set_ 4 (.slice A5 (List.length x.2) c5)
 have B25:=Blk.keep (F:=fun b=>b≠w.heap.size) B24 (Keep.grown (set_grown w6 w.heap.size 4 (.slice A5 (List.length x.2) c5)) (fun g hg h=>by injection hg with hg;omega)) (by omega)
 have hbw5:=hbw4.grown (set_grown w6 w.heap.size 4 (.slice A5 (List.length x.2) c5)) (Nat.le_of_lt B14.lt) (fun k hk=>by injection hk with hk;omega)
 have hWs5:W.heap.size≤(w6.setCell ⟨w.heap.size,4,none⟩ (.slice A5 (List.length x.2) c5)).heap.size:=Nat.le_trans hWs (set_grown w6 w.heap.size 4 (.slice A5 (List.length x.2) c5)).size
 obtain ⟨W5,hW5⟩:∃ W,W=w6.setCell ⟨w.heap.size,4,none⟩ (.slice A5 (List.length x.2) c5):=⟨_,rfl⟩
 rw [←hW5] at HC5 HD5 B15 B25 hbw5 hWs5 ⊢
 clear hW5 hk5 B14 B24 HC HD hbw4 q f hWs
 have B14:=B15
 have B24:=B25
 have hWs:=hWs5
 have HC:=HC5
 have HD:=HD5
 have hbw4:=hbw5
 clear B15 B25 hbw5 hWs5 HC5 HD5
 have HR:=Lib.hid (eTab_mk (x:=x) HC.out HD.out HFI.out)
 clear HC HD
 obtain ⟨cz,hcz⟩:∃ z,z=([.string x.1.1,.slice A4 x.1.2.1.length c4,.int .i64 x.1.2.2.1,.bool x.1.2.2.2,.slice A5 x.2.length c5]:List Value):=⟨_,rfl⟩
 have hczl:cz.length=5:=by rw [hcz];rfl
 have hone:∀ u∈cz,u.oneCell'=true:=HR.out |> fun h=>by rw [hcz];exact eTab.one h
 have hsz:(Tryz.prog.info? 153).map (·.size)=some cz.length:=by rw [hczl];kernel_rfl
 have hth:=Blk.there (o:=0) (n:=5) B24 (by simp)
 have hrg:W5.rangeAt w.heap.size 0 cz:=by rw [hcz];exact Blk.whole B14
 go_wp2_with (first|((with_reducible show wpList _ _ _ (Oper.mk (some 13) _ _ _ _ _::_) _ _);(refine wpList_load_mid rfl 153 _ rfl w.heap.size 0 rfl cz _ hrg Tryz.underlying153 rfl hsz ?_)) |
  ((with_reducible show wpList _ _ _ (Oper.mk none _ _ _ _ _::_) _ _);(refine wpList_store_mid rfl 153 _ _ rfl g2 0 cz.toArray rfl rfl ?s1 ?s2 (all_oneCell_toArray hone) ?_)))
 case s1=>exact (show cz.toArray.size=5 by simp [hczl]) ▸ hth
 case s2=>exact (show cz.toArray.size=cz.length by simp) ▸ hsz
 obtain ⟨B8,hg8⟩:=Blk.lay cz 0 B24 (by rw [hczl];simp)
 rw [laid_all _ _ (by rw [hczl];rfl)] at B8
 have hbw8:=hbw4.grown hg8 (Nat.le_of_lt (Nat.lt_of_lt_of_le hg2n (Nat.le_of_lt B24.lt))) (fun k hk=>by injection hk with hk;omega)
 have HR8:=Lib.hid (eTab.keep HR.out (Keep.grown hg8 (fun g hg h=>by injection hg with hg;omega)))
 generalize W5.setCells g2 0 cz=w8 at *
 clear hth B14 B24 hg8 hrg HR hbw4
 go_wp2
 refine bodyPost_ret (v:=.agg cz.toArray) (results_cell_row rfl _ _ g2 _ _ (0,0) _ rfl B8 Tryz.underlying153 rfl (by rw [List.size_toArray];exact hsz)) rfl ⟨cz,rfl,by rw [hcz];exact eTab.mono HR8.out (fun b h=>by omega),hbw8⟩
theorem teachTabT {w:World} {F:Blocks} {A:Option Addr} {n c:Nat} {x:List Tab} (h:Sl eTab w F A n c x) (hn:x.length≤1000) (hok:∀ y∈x,okTab y):Calls Tryz.prog 100 #[.slice A n c,.func (.func 95) #[] #[]] w (CopiedT eTab 153 x w):=by
 obtain ⟨i0,hi,hz0,hz1,hz2⟩:=info_parts (P:=Tryz.prog) (e:=153) (z:=.agg #[.string ⟨#[]⟩,.slice none 0 0,.int .i64 0,.bool false,.slice none 0 0]) (size:=5) (bytes:=80) (by kernel_rfl)
 have HS:=Lib.hid h
 have HL:=Lib.hid h.len
 have hn:n≤1000:=by have:=h.len;omega
 clear h
 have HK:=Lib.hid hok
 clear hok
 go_enter Tryz.func100,Tryz.ntmps100
 go_wp2_with (at_make;refine wpList_make_full _ rfl _ _ 37 rfl w.heap.size 153 i0 (.agg #[.string ⟨#[]⟩,.slice none 0 0,.int .i64 0,.bool false,.slice none 0 0]) 5 Tryz.underlying37 hi hz0 hz1 _ _ _ _ n rfl rfl rfl rfl ?b2 ?b3 (Nat.le_refl _) ?_)
 case b2=>rw [hz2];omega
 case b3=>unfold maxLen;omega
 intro w1 hown hgrow
 obtain ⟨Z,BO,hZl⟩:=made_blk hown
 have hb1:=(Below.refl w.heap.size w).grown hgrow (Nat.le_refl _) (fun k hk=>by cases hk)
 obtain ⟨go,hgo⟩:∃ g,w.heap.size=g:=⟨_,rfl⟩
 have BO0:Blk w1 w.heap.size 153 ((([]:List (List Value)).flatten++Z.drop (0 * 5)).toArray):=by simpa using BO
 have HB0:=Lib.hid (And.intro BO0 hb1)
 clear hown hgrow BO BO0 hb1
 rw [hgo] at HB0
 have hgw:go=w.heap.size:=hgo.symm
 rw [hgo]
 clear hgo
 have HGW:=Lib.hid hgw
 clear hgw
 go_wp2_with fail
 go_loopw [13] (fun i wr=>∃ (k:Nat) (css:List (List Value)),i=.int .i64 k∧k≤n∧Hid (Els eTab wr (fun b=>go<b) css (x.take k))∧Hid (Blk wr go 153 (css.flatten++Z.drop (k * 5)).toArray∧Below go w wr)) (fun i _=>n - (intOf i).toNat)
 case atStart=>exact ⟨0,[],rfl,Nat.zero_le _,Lib.hid (by simpa using Els.nil _ _),HB0⟩
 case round =>
  clear HB0
  obtain ⟨k,css,rfl,hk,HE,HB⟩:=hrel
  rcases Nat.lt_or_ge k n with hlt|hge
  ·have hd:decide ((k:Int)<(n:Int))=true:=by simp;omega
   have hkn:(k:Int)<(n:Int):=by omega
   obtain ⟨y,hy⟩:∃ y,x[k]? = some y:=⟨_,List.getElem?_eq_getElem (by have:=HL.out;omega)⟩
   have HY:=Lib.hid hy
   obtain ⟨b0,off,rfl,hnc,hFb,hbl⟩:=HS.out.some_ (by omega)
   have hbw:=HB.out.2
   have hsz:=HB.out.1.lt
   have hS:=HS.out.ext (show Below w.heap.size w wr by rw [←HGW.out];exact hbw)
   obtain ⟨cs,hcs,hcell⟩:=hS.at_ hy
   have hcl1:cs.length=5:=eTab.len hcs
   have hone:=eTab.one hcs
   have hcz:(Tryz.prog.info? 153).map (·.size)=some cs.length:=by rw [hcl1];kernel_rfl
   have C7:=Blk.new wr 153 (([.string ⟨#[]⟩,.slice none 0 0,.int .i64 0,.bool false,.slice none 0 0]:List Value)).toArray
   have hth7:=Blk.there (o:=0) (n:=5) C7 (by simp)
   obtain ⟨B7,hg7⟩:=Blk.lay cs 0 C7 (by rw [hcl1];simp)
   rw [laid_all _ _ (by rw [hcl1];rfl)] at B7
   have hb7:Below wr.heap.size wr ((wr.alloc (.cells #[.string ⟨#[]⟩,.slice none 0 0,.int .i64 0,.bool false,.slice none 0 0] 153)).setCells wr.heap.size 0 cs):=((Below.refl _ _).alloc (Nat.le_refl _) _).grown hg7 (by simp) (fun k hk=>by injection hk with hk;omega)
   clear hg7 C7
   have hrg:wr.rangeAt b0 (off+k * 5) cs:=fun j u hu=>hcell j u hu
   have HR:=Lib.hid hrg
   clear hrg hcell hS hy
   go_upto_region 5 with (first|((with_reducible show wpList _ _ _ (Oper.mk (some 17) _ _ _ _ _::_) _ _);(refine wpList_load_mid rfl 153 _ rfl b0 (off+k * 5) rfl cs _ HR.out Tryz.underlying153 rfl hcz ?_)) |
    ((with_reducible show wpList _ _ _ (Oper.mk none (Op.store _ (Operand.tmp 7) _) _ _ _ _::_) _ _);(refine wpList_store_mid rfl 153 _ _ rfl wr.heap.size 0 cs.toArray rfl rfl ?s5 ?s6 (all_oneCell_toArray hone) ?_)))
   case s5=>exact (show cs.toArray.size=5 by simp [hcl1]) ▸ hth7
   case s6=>rw [List.size_toArray];exact hcz
   have HC:=Lib.hid (eTab.ext hcs hb7)
   clear hcs
   generalize (wr.alloc (.cells #[.string ⟨#[]⟩,.slice none 0 0,.int .i64 0,.bool false,.slice none 0 0] 153)).setCells wr.heap.size 0 cs=W7 at *
   have HF:=Lib.hid (townTable_ HC.out (HK.out y (List.mem_of_getElem? HY.out)))
   go_wp2_with ((with_reducible show wpList _ _ _ (Oper.mk (some 21) _ _ _ _ _::_) _ _);(refine wpList_load_mid rfl 153 _ rfl wr.heap.size 0 rfl cs _ (Blk.whole B7) Tryz.underlying153 rfl hcz ?_))
   refine HF.out.mono ?_
   rintro e w4 ⟨cs4,rfl,hr4,hb4⟩
   clear HF HC B7
   have hcl4:cs4.length=5:=eTab.len hr4
   have hone4:=eTab.one hr4
   have hcz4:(Tryz.prog.info? 153).map (·.size)=some cs4.length:=by rw [hcl4];kernel_rfl
   have hr4:=eTab.mono hr4 (G:=fun b=>go<b) (fun b h=>by have:=hb7.size;omega)
   have hE4:=Els.snoc ((HE.out.ext hb7).ext hb4) HY.out hr4
   have hfl:css.flatten.length=k * 5:=by have h9:=HE.out.flen;rw [List.length_take,Nat.min_eq_left (by have:=HL.out;omega)] at h9;exact h9
   have B4:=(HB.out.1.ext hb7).ext hb4
   have hbw4:=(hbw.trans (Below.mono hb7 (Nat.le_of_lt hsz))).trans (Below.mono hb4 (Nat.le_trans (Nat.le_of_lt hsz) hb7.size))
   have hkk:(k+1) * 5≤n * 5:=Nat.mul_le_mul_right _ hlt
   have hth:=Blk.there (o:=k * 5) (n:=5) B4 (by rw [List.length_append,List.length_drop,hfl,hZl];omega)
   obtain ⟨B5,hg5⟩:=Blk.lay cs4 (k * 5) B4 (by rw [List.length_append,List.length_drop,hfl,hZl];omega)
   rw [lay_at css.flatten Z cs4 k 5 hfl hcl4 (by rw [hZl];exact hkk)] at B5
   have hE5:=Els.keep hE4 (Keep.grown hg5 (fun g hg hlt=>by injection hg with hg;omega))
   have hbw5:=hbw4.grown hg5 (Nat.le_of_lt B4.lt) (fun k hk=>by injection hk with hk;omega)
   have HE5:=Lib.hid hE5
   have HB5:=Lib.hid (show Blk _ go 153 ((css++[cs4]).flatten++Z.drop ((k+1) * 5)).toArray∧Below go w _ from ⟨by rw [List.flatten_append,List.flatten_singleton];exact B5,hbw5⟩)
   clear hE5 hg5 B5 hbw5 hE4 hr4 hfl B4 hbw4 hbw
   go_upto_region 6 with ((with_reducible show wpList _ _ _ (Oper.mk none (Op.store _ (Operand.tmp 23) _) _ _ _ _::_) _ _);(refine wpList_store_mid rfl 153 _ _ rfl go (k * 5) cs4.toArray rfl rfl ?s7 ?s8 (all_oneCell_toArray hone4) ?_))
   case s7=>exact (show cs4.toArray.size=5 by simp [hcl4]) ▸ hth
   case s8=>rw [List.size_toArray];exact hcz4
   generalize w4.setCells go (k * 5) cs4=W5 at *
   clear hth hone hone4
   go_wp2_with fail
   go_roundw
   case rel=>exact ⟨k+1,_,by go_num,by omega,HE5,HB5⟩
   case measure=>simp [intOf];omega
  ·obtain rfl:k=n:=by omega
   have hd:decide ((k:Int)<(k:Int))=false:=by simp
   have hxk:x.length=k:=HL.out
   subst hxk
   have hE:=HE.out
   rw [List.take_length] at hE
   have hB:=HB.out
   rw [List.drop_eq_nil_of_le (by omega),List.append_nil] at hB
   have HR:=Lib.hid (show OwnE eTab 153 wr w.heap.size (fun b=>w.heap.size≤b∧(some ⟨go,0,none⟩:Option Addr)≠some ⟨b,0,none⟩) (some ⟨go,0,none⟩) x.length x.length x from ⟨css,own_of_blk hB.1 hE.flen (by rw [HGW.out];exact Nat.le_refl _) hn,hE.mono (fun b h=>⟨by have:=HGW.out;omega,fun e=>by injection e with e;injection e with e;omega⟩),rfl⟩)
   have hbw:Below w.heap.size w wr:=by rw [←HGW.out];exact hB.2
   clear hE hB HE HB
   go_wp2
   go_ret
   exact ⟨_,rfl,HR.out,hbw⟩
theorem teachTab {w:World} {F:Blocks} {A:Option Addr} {n c:Nat} {x:List Tab} (h:Sl eTab w F A n c x) (hn:x.length≤1000) (hok:∀ y∈x,okTab y):Calls Tryz.prog 100 #[.slice A n c,.func (.func 95) #[] #[]] w (Copied eTab 153 x w):=(teachTabT h hn hok).mono fun _ _ h=>h.copied
theorem sownTable_ {w:World} {F:Blocks} {cs:List Value} {x:Tab} (h:eTab.rel w F cs x) (hok:okTab x):Calls Tryz.prog 71 #[.agg cs.toArray] w (Owned eTab x w):=by
 obtain ⟨A,n,c,A2,n2,c2,rfl,h1,h2⟩:=eTab_inv h
 have HS1:=Lib.hid h1
 have HS2:=Lib.hid h2
 have hn1:n≤1000:=by have:=h1.len;have:=hok.1;omega
 have HOK:=Lib.hid hok
 clear h h1 h2 hok
 go_enter Tryz.func71,Tryz.ntmps71
 go_wp2_with fail
 obtain ⟨W,hW_,hb1,B1,B2⟩:=al2 w 153 153 #[.string x.1.1,.slice A n c,.int .i64 x.1.2.2.1,.bool x.1.2.2.2,.slice A2 n2 c2] #[.string ⟨#[]⟩,.slice none 0 0,.int .i64 0,.bool false,.slice none 0 0]
 rw [←hW_]
 clear hW_
 have HF:=Lib.hid (copyC (HS1.out.ext hb1) (by omega))
 obtain ⟨g2,hg2⟩:∃ g,w.heap.size+1=g:=⟨_,rfl⟩
 have hg2n:w.heap.size<g2:=by omega
 rw [hg2] at B2 ⊢
 clear hg2 HS1
 go_wp2_with fail
 refine HF.out.mono ?_
 rintro e w4 ⟨A4,c4,rfl,hown4,hb4⟩
 clear HF
 have B14:=B1.ext hb4
 have B24:=B2.ext hb4
 have hbw4:=hb1.trans (Below.mono hb4 hb1.size)
 have hw1:g2<W.heap.size:=B2.lt
 have hWs:=hb4.size
 have hown4s:=hown4.sl (G:=fun b=>W.heap.size≤b) (fun b h _=>Nat.le_trans (Nat.le_refl _) h) (fun b h=>Nat.le_trans (Nat.le_refl _) h.1)
 have HC:=Lib.hid hown4s
 clear hown4 hown4s
 clear B1 B2 hb4 hb1
 have q:=B14.cell 1
 have f:=B14.frozen 1
 go_upto_region 2 with fail
 have hk5:=Keep.set (F:=fun b=>W.heap.size≤b) w4 ⟨w.heap.size,1,none⟩ (.slice A4 (List.length x.1.2.1) c4) (show ¬W.heap.size≤w.heap.size by omega)
 have HC5:=Lib.hid (HC.out.keep hk5)
 have B15:=B14.set_ 1 (.slice A4 (List.length x.1.2.1) c4)
 have B25:=Blk.keep (F:=fun b=>b≠w.heap.size) B24 (Keep.grown (set_grown w4 w.heap.size 1 (.slice A4 (List.length x.1.2.1) c4)) (fun g hg h=>by injection hg with hg;omega)) (by omega)
 have hbw5:=hbw4.grown (set_grown w4 w.heap.size 1 (.slice A4 (List.length x.1.2.1) c4)) (Nat.le_of_lt B14.lt) (fun k hk=>by injection hk with hk;omega)
 have hWs5:W.heap.size≤(w4.setCell ⟨w.heap.size,1,none⟩ (.slice A4 (List.length x.1.2.1) c4)).heap.size:=Nat.le_trans hWs (set_grown w4 w.heap.size 1 (.slice A4 (List.length x.1.2.1) c4)).size
 obtain ⟨W5,hW5⟩:∃ W,W=w4.setCell ⟨w.heap.size,1,none⟩ (.slice A4 (List.length x.1.2.1) c4):=⟨_,rfl⟩
 rw [←hW5] at HC5 B15 B25 hbw5 hWs5 ⊢
 clear hW5 hk5 B14 B24 HC hbw4 q f hWs
 have B14:=B15
 have B24:=B25
 have hWs:=hWs5
 have HC:=HC5
 have hbw4:=hbw5
 clear B15 B25 hbw5 hWs5 HC5
 have HF:=Lib.hid (seachRow (HS2.out.ext hbw4) HOK.out.2.1 HOK.out.2.2)
 have q:W5.cell? ⟨w.heap.size,4,none⟩=some (.slice A2 n2 c2):=B14.cell 4
 go_wp2_with fail
 refine HF.out.mono ?_
 rintro e w6 ⟨A5,c5,rfl,hown4,hb4⟩
 clear HF q
 have HFI:=Lib.hid hown4.fine
 have HC6:=Lib.hid (HC.out.ext hb4)
 have B16:=B14.ext hb4
 have B26:=B24.ext hb4
 have hbw6:=hbw4.trans (Below.mono hb4 hbw4.size)
 have hWs6:=Nat.le_trans hWs hb4.size
 have hown4s:=hown4.sl (G:=fun b=>W.heap.size≤b) (fun b h _=>Nat.le_trans hWs h) (fun b h=>Nat.le_trans hWs h.1)
 have HD:=Lib.hid hown4s
 clear hown4 hown4s
 clear B14 B24 hb4 hbw4 HC hWs
 have B14:=B16
 have B24:=B26
 have hbw4:=hbw6
 have HC:=HC6
 have hWs:=hWs6
 clear B16 B26 hbw6 HC6 hWs6
 clear W5
 have q:=B14.cell 4
 have f:=B14.frozen 4
 go_upto_region 3 with fail
 have hk5:=Keep.set (F:=fun b=>W.heap.size≤b) w6 ⟨w.heap.size,4,none⟩ (.slice A5 (List.length x.2) c5) (show ¬W.heap.size≤w.heap.size by omega)
 have HC5:=Lib.hid (HC.out.keep hk5)
 have HD5:=Lib.hid (HD.out.keep hk5)
 have B15:=B14.set_ 4 (.slice A5 (List.length x.2) c5)
 have B25:=Blk.keep (F:=fun b=>b≠w.heap.size) B24 (Keep.grown (set_grown w6 w.heap.size 4 (.slice A5 (List.length x.2) c5)) (fun g hg h=>by injection hg with hg;omega)) (by omega)
 have hbw5:=hbw4.grown (set_grown w6 w.heap.size 4 (.slice A5 (List.length x.2) c5)) (Nat.le_of_lt B14.lt) (fun k hk=>by injection hk with hk;omega)
 have hWs5:W.heap.size≤(w6.setCell ⟨w.heap.size,4,none⟩ (.slice A5 (List.length x.2) c5)).heap.size:=Nat.le_trans hWs (set_grown w6 w.heap.size 4 (.slice A5 (List.length x.2) c5)).size
 obtain ⟨W5,hW5⟩:∃ W,W=w6.setCell ⟨w.heap.size,4,none⟩ (.slice A5 (List.length x.2) c5):=⟨_,rfl⟩
 rw [←hW5] at HC5 HD5 B15 B25 hbw5 hWs5 ⊢
 clear hW5 hk5 B14 B24 HC HD hbw4 q f hWs
 have B14:=B15
 have B24:=B25
 have hWs:=hWs5
 have HC:=HC5
 have HD:=HD5
 have hbw4:=hbw5
 clear B15 B25 hbw5 hWs5 HC5 HD5
 have HR:=Lib.hid (eTab_mk (x:=x) HC.out HD.out HFI.out)
 clear HC HD
 obtain ⟨cz,hcz⟩:∃ z,z=([.string x.1.1,.slice A4 x.1.2.1.length c4,.int .i64 x.1.2.2.1,.bool x.1.2.2.2,.slice A5 x.2.length c5]:List Value):=⟨_,rfl⟩
 have hczl:cz.length=5:=by rw [hcz];rfl
 have hone:∀ u∈cz,u.oneCell'=true:=HR.out |> fun h=>by rw [hcz];exact eTab.one h
 have hsz:(Tryz.prog.info? 153).map (·.size)=some cz.length:=by rw [hczl];kernel_rfl
 have hth:=Blk.there (o:=0) (n:=5) B24 (by simp)
 have hrg:W5.rangeAt w.heap.size 0 cz:=by rw [hcz];exact Blk.whole B14
 go_wp2_with (first|((with_reducible show wpList _ _ _ (Oper.mk (some 13) _ _ _ _ _::_) _ _);(refine wpList_load_mid rfl 153 _ rfl w.heap.size 0 rfl cz _ hrg Tryz.underlying153 rfl hsz ?_)) |
  ((with_reducible show wpList _ _ _ (Oper.mk none _ _ _ _ _::_) _ _);(refine wpList_store_mid rfl 153 _ _ rfl g2 0 cz.toArray rfl rfl ?s1 ?s2 (all_oneCell_toArray hone) ?_)))
 case s1=>exact (show cz.toArray.size=5 by simp [hczl]) ▸ hth
 case s2=>exact (show cz.toArray.size=cz.length by simp) ▸ hsz
 obtain ⟨B8,hg8⟩:=Blk.lay cz 0 B24 (by rw [hczl];simp)
 rw [laid_all _ _ (by rw [hczl];rfl)] at B8
 have hbw8:=hbw4.grown hg8 (Nat.le_of_lt (Nat.lt_of_lt_of_le hg2n (Nat.le_of_lt B24.lt))) (fun k hk=>by injection hk with hk;omega)
 have HR8:=Lib.hid (eTab.keep HR.out (Keep.grown hg8 (fun g hg h=>by injection hg with hg;omega)))
 generalize W5.setCells g2 0 cz=w8 at *
 clear hth B14 B24 hg8 hrg HR hbw4
 go_wp2
 refine bodyPost_ret (v:=.agg cz.toArray) (results_cell_row rfl _ _ g2 _ _ (0,0) _ rfl B8 Tryz.underlying153 rfl (by rw [List.size_toArray];exact hsz)) rfl ⟨cz,rfl,by rw [hcz];exact eTab.mono HR8.out (fun b h=>by omega),hbw8⟩
theorem seachTabT {w:World} {F:Blocks} {A:Option Addr} {n c:Nat} {x:List Tab} (h:Sl eTab w F A n c x) (hn:x.length≤1000) (hok:∀ y∈x,okTab y):Calls Tryz.prog 70 #[.slice A n c,.func (.func 71) #[] #[]] w (CopiedT eTab 153 x w):=by
 obtain ⟨i0,hi,hz0,hz1,hz2⟩:=info_parts (P:=Tryz.prog) (e:=153) (z:=.agg #[.string ⟨#[]⟩,.slice none 0 0,.int .i64 0,.bool false,.slice none 0 0]) (size:=5) (bytes:=80) (by kernel_rfl)
 have HS:=Lib.hid h
 have HL:=Lib.hid h.len
 have hn:n≤1000:=by have:=h.len;omega
 clear h
 have HK:=Lib.hid hok
 clear hok
 go_enter Tryz.func70,Tryz.ntmps70
 go_wp2_with (at_make;refine wpList_make_full _ rfl _ _ 37 rfl w.heap.size 153 i0 (.agg #[.string ⟨#[]⟩,.slice none 0 0,.int .i64 0,.bool false,.slice none 0 0]) 5 Tryz.underlying37 hi hz0 hz1 _ _ _ _ n rfl rfl rfl rfl ?b2 ?b3 (Nat.le_refl _) ?_)
 case b2=>rw [hz2];omega
 case b3=>unfold maxLen;omega
 intro w1 hown hgrow
 obtain ⟨Z,BO,hZl⟩:=made_blk hown
 have hb1:=(Below.refl w.heap.size w).grown hgrow (Nat.le_refl _) (fun k hk=>by cases hk)
 obtain ⟨go,hgo⟩:∃ g,w.heap.size=g:=⟨_,rfl⟩
 have BO0:Blk w1 w.heap.size 153 ((([]:List (List Value)).flatten++Z.drop (0 * 5)).toArray):=by simpa using BO
 have HB0:=Lib.hid (And.intro BO0 hb1)
 clear hown hgrow BO BO0 hb1
 rw [hgo] at HB0
 have hgw:go=w.heap.size:=hgo.symm
 rw [hgo]
 clear hgo
 have HGW:=Lib.hid hgw
 clear hgw
 go_wp2_with fail
 go_loopw [13] (fun i wr=>∃ (k:Nat) (css:List (List Value)),i=.int .i64 k∧k≤n∧Hid (Els eTab wr (fun b=>go<b) css (x.take k))∧Hid (Blk wr go 153 (css.flatten++Z.drop (k * 5)).toArray∧Below go w wr)) (fun i _=>n - (intOf i).toNat)
 case atStart=>exact ⟨0,[],rfl,Nat.zero_le _,Lib.hid (by simpa using Els.nil _ _),HB0⟩
 case round =>
  clear HB0
  obtain ⟨k,css,rfl,hk,HE,HB⟩:=hrel
  rcases Nat.lt_or_ge k n with hlt|hge
  ·have hd:decide ((k:Int)<(n:Int))=true:=by simp;omega
   have hkn:(k:Int)<(n:Int):=by omega
   obtain ⟨y,hy⟩:∃ y,x[k]? = some y:=⟨_,List.getElem?_eq_getElem (by have:=HL.out;omega)⟩
   have HY:=Lib.hid hy
   obtain ⟨b0,off,rfl,hnc,hFb,hbl⟩:=HS.out.some_ (by omega)
   have hbw:=HB.out.2
   have hsz:=HB.out.1.lt
   have hS:=HS.out.ext (show Below w.heap.size w wr by rw [←HGW.out];exact hbw)
   obtain ⟨cs,hcs,hcell⟩:=hS.at_ hy
   have hcl1:cs.length=5:=eTab.len hcs
   have hone:=eTab.one hcs
   have hcz:(Tryz.prog.info? 153).map (·.size)=some cs.length:=by rw [hcl1];kernel_rfl
   have C7:=Blk.new wr 153 (([.string ⟨#[]⟩,.slice none 0 0,.int .i64 0,.bool false,.slice none 0 0]:List Value)).toArray
   have hth7:=Blk.there (o:=0) (n:=5) C7 (by simp)
   obtain ⟨B7,hg7⟩:=Blk.lay cs 0 C7 (by rw [hcl1];simp)
   rw [laid_all _ _ (by rw [hcl1];rfl)] at B7
   have hb7:Below wr.heap.size wr ((wr.alloc (.cells #[.string ⟨#[]⟩,.slice none 0 0,.int .i64 0,.bool false,.slice none 0 0] 153)).setCells wr.heap.size 0 cs):=((Below.refl _ _).alloc (Nat.le_refl _) _).grown hg7 (by simp) (fun k hk=>by injection hk with hk;omega)
   clear hg7 C7
   have hrg:wr.rangeAt b0 (off+k * 5) cs:=fun j u hu=>hcell j u hu
   have HR:=Lib.hid hrg
   clear hrg hcell hS hy
   go_upto_region 5 with (first|((with_reducible show wpList _ _ _ (Oper.mk (some 17) _ _ _ _ _::_) _ _);(refine wpList_load_mid rfl 153 _ rfl b0 (off+k * 5) rfl cs _ HR.out Tryz.underlying153 rfl hcz ?_)) |
    ((with_reducible show wpList _ _ _ (Oper.mk none (Op.store _ (Operand.tmp 7) _) _ _ _ _::_) _ _);(refine wpList_store_mid rfl 153 _ _ rfl wr.heap.size 0 cs.toArray rfl rfl ?s5 ?s6 (all_oneCell_toArray hone) ?_)))
   case s5=>exact (show cs.toArray.size=5 by simp [hcl1]) ▸ hth7
   case s6=>rw [List.size_toArray];exact hcz
   have HC:=Lib.hid (eTab.ext hcs hb7)
   clear hcs
   generalize (wr.alloc (.cells #[.string ⟨#[]⟩,.slice none 0 0,.int .i64 0,.bool false,.slice none 0 0] 153)).setCells wr.heap.size 0 cs=W7 at *
   have HF:=Lib.hid (sownTable_ HC.out (HK.out y (List.mem_of_getElem? HY.out)))
   go_wp2_with ((with_reducible show wpList _ _ _ (Oper.mk (some 21) _ _ _ _ _::_) _ _);(refine wpList_load_mid rfl 153 _ rfl wr.heap.size 0 rfl cs _ (Blk.whole B7) Tryz.underlying153 rfl hcz ?_))
   refine HF.out.mono ?_
   rintro e w4 ⟨cs4,rfl,hr4,hb4⟩
   clear HF HC B7
   have hcl4:cs4.length=5:=eTab.len hr4
   have hone4:=eTab.one hr4
   have hcz4:(Tryz.prog.info? 153).map (·.size)=some cs4.length:=by rw [hcl4];kernel_rfl
   have hr4:=eTab.mono hr4 (G:=fun b=>go<b) (fun b h=>by have:=hb7.size;omega)
   have hE4:=Els.snoc ((HE.out.ext hb7).ext hb4) HY.out hr4
   have hfl:css.flatten.length=k * 5:=by have h9:=HE.out.flen;rw [List.length_take,Nat.min_eq_left (by have:=HL.out;omega)] at h9;exact h9
   have B4:=(HB.out.1.ext hb7).ext hb4
   have hbw4:=(hbw.trans (Below.mono hb7 (Nat.le_of_lt hsz))).trans (Below.mono hb4 (Nat.le_trans (Nat.le_of_lt hsz) hb7.size))
   have hkk:(k+1) * 5≤n * 5:=Nat.mul_le_mul_right _ hlt
   have hth:=Blk.there (o:=k * 5) (n:=5) B4 (by rw [List.length_append,List.length_drop,hfl,hZl];omega)
   obtain ⟨B5,hg5⟩:=Blk.lay cs4 (k * 5) B4 (by rw [List.length_append,List.length_drop,hfl,hZl];omega)
   rw [lay_at css.flatten Z cs4 k 5 hfl hcl4 (by rw [hZl];exact hkk)] at B5
   have hE5:=Els.keep hE4 (Keep.grown hg5 (fun g hg hlt=>by injection hg with hg;omega))
   have hbw5:=hbw4.grown hg5 (Nat.le_of_lt B4.lt) (fun k hk=>by injection hk with hk;omega)
   have HE5:=Lib.hid hE5
   have HB5:=Lib.hid (show Blk _ go 153 ((css++[cs4]).flatten++Z.drop ((k+1) * 5)).toArray∧Below go w _ from ⟨by rw [List.flatten_append,List.flatten_singleton];exact B5,hbw5⟩)
   clear hE5 hg5 B5 hbw5 hE4 hr4 hfl B4 hbw4 hbw
   go_upto_region 6 with ((with_reducible show wpList _ _ _ (Oper.mk none (Op.store _ (Operand.tmp 23) _) _ _ _ _::_) _ _);(refine wpList_store_mid rfl 153 _ _ rfl go (k * 5) cs4.toArray rfl rfl ?s7 ?s8 (all_oneCell_toArray hone4) ?_))
   case s7=>exact (show cs4.toArray.size=5 by simp [hcl4]) ▸ hth
   case s8=>rw [List.size_toArray];exact hcz4
   generalize w4.setCells go (k * 5) cs4=W5 at *
   clear hth hone hone4
   go_wp2_with fail
   go_roundw
   case rel=>exact ⟨k+1,_,by go_num,by omega,HE5,HB5⟩
   case measure=>simp [intOf];omega
  ·obtain rfl:k=n:=by omega
   have hd:decide ((k:Int)<(k:Int))=false:=by simp
   have hxk:x.length=k:=HL.out
   subst hxk
   have hE:=HE.out
   rw [List.take_length] at hE
   have hB:=HB.out
   rw [List.drop_eq_nil_of_le (by omega),List.append_nil] at hB
   have HR:=Lib.hid (show OwnE eTab 153 wr w.heap.size (fun b=>w.heap.size≤b∧(some ⟨go,0,none⟩:Option Addr)≠some ⟨b,0,none⟩) (some ⟨go,0,none⟩) x.length x.length x from ⟨css,own_of_blk hB.1 hE.flen (by rw [HGW.out];exact Nat.le_refl _) hn,hE.mono (fun b h=>⟨by have:=HGW.out;omega,fun e=>by injection e with e;injection e with e;omega⟩),rfl⟩)
   have hbw:Below w.heap.size w wr:=by rw [←HGW.out];exact hB.2
   clear hE hB HE HB
   go_wp2
   go_ret
   exact ⟨_,rfl,HR.out,hbw⟩
theorem seachTab {w:World} {F:Blocks} {A:Option Addr} {n c:Nat} {x:List Tab} (h:Sl eTab w F A n c x) (hn:x.length≤1000) (hok:∀ y∈x,okTab y):Calls Tryz.prog 70 #[.slice A n c,.func (.func 71) #[] #[]] w (Copied eTab 153 x w):=(seachTabT h hn hok).mono fun _ _ h=>h.copied
def valB (v:Val):List UInt8:=[b8 v.1.toNat]++(if v.1=1 then [b8 v.2.1.toNat] else if v.1=2 then le 8 v.2.1.toNat else if v.1=3 then le 2 v.2.2.size++v.2.2.data.toList else [])
def rowB (r:RowD):List UInt8:=[b8 r.length]++r.flatMap valB
structure OkV (v:Val):Prop where
 k0:0≤v.1
 k3:v.1≤3
 n0:0≤v.2.1
 n1:v.2.1<9223372036854775808
 sz:v.2.2.size≤60
theorem valB_len (v:Val) (h:OkV v):(valB v).length≤63:=by
 unfold valB
 have:=h.sz
 rw [List.length_append]
 split
 ·simp
 split
 ·simp [le]
 split
 ·simp [le];omega
 ·simp
theorem rows_len:∀ (l:List Val),(∀ v∈l,OkV v)→(l.flatMap valB).length≤l.length * 63
 | [],_=>by simp
 | v::l,h=>by
  have ih:=rows_len l (fun v hv=>h v (List.mem_cons_of_mem _ hv))
  have:=valB_len v (h v (List.mem_cons_self ..))
  rw [List.flatMap_cons,List.length_append,List.length_cons]
  omega
def Ob (w:World) (B:Nat) (A:Option Addr) (c:Nat) (l:List UInt8):Prop:=w.ownsRow B 5 1 (.slice A l.length c) l.length (cellsB l)
theorem Ob.by {w:World} {B c:Nat} {A:Option Addr} {l:List UInt8} (h:Ob w B A c l):By w A l.length c l:=By.of_own h
theorem Ob.ext {w w':World} {B c:Nat} {A:Option Addr} {l:List UInt8} (h:Ob w B A c l) (hb:Below w.heap.size w w'):Ob w' B A c l:=own_ext h hb
theorem Ob.base {w:World} {B B' c:Nat} {A:Option Addr} {l:List UInt8} (h:Ob w B A c l) (hb:B'≤B):Ob w B' A c l:=own_base h hb
theorem rowbytes_ {w:World} {F:Blocks} {A:Option Addr} {n c:Nat} {x:RowD} (h:Sl eVal w F A n c x) (hok:∀ v∈x,OkV v) (hn:n≤1000):Calls Tryz.prog 115 #[.slice A n c] w (OwnB (rowB x) w):=by
 have HS:=Lib.hid h
 have HL:=Lib.hid h.len
 have HOK:=Lib.hid hok
 clear h hok
 have HB0:=Lib.hid (byte_ [] n none 0 0 w (By.nil _) (by omega) (by omega))
 go_enter Tryz.func115,Tryz.ntmps115
 go_wp2_with fail
 refine HB0.out.mono ?_
 rintro e w1 ⟨A1,c1,rfl,ho1,hb1⟩
 have HO1:=Lib.hid (show Ob w1 w.heap.size A1 c1 [b8 n] from ho1)
 have HW1:=Lib.hid hb1
 have hl1:([]++[b8 n]:List UInt8).length=1:=rfl
 rw [hl1]
 clear ho1 hb1 HB0 hl1
 go_wp2_with fail
 go_loopw [3,11] (fun b i wr=>∃ (k:Nat) (A':Option Addr) (c' m:Nat),b=.slice A' m c'∧i=.int .i64 k∧k≤n∧Hid (m=([b8 n]++(x.take k).flatMap valB).length∧Ob wr w.heap.size A' c' ([b8 n]++(x.take k).flatMap valB))∧Hid (Below w.heap.size w wr)) (fun _ i _=>n - (intOf i).toNat)
 case atStart=>exact ⟨0,A1,c1,1,rfl,rfl,Nat.zero_le _,Lib.hid ⟨by simp,by simpa using HO1.out⟩,HW1⟩
 case round =>
  clear HO1 HW1
  obtain ⟨k,A',c',m,rfl,rfl,hk,HO,HW⟩:=hrel
  rcases Nat.lt_or_ge k n with hlt|hge
  ·have hd:decide ((k:Int)<(n:Int))=true:=by simp;omega
   have hkn:(k:Int)<(n:Int):=by omega
   obtain ⟨v,hv⟩:∃ v,x[k]? = some v:=⟨_,List.getElem?_eq_getElem (by have:=HL.out;omega)⟩
   have HV:=Lib.hid hv
   have hvk:=HOK.out v (List.mem_of_getElem? hv)
   obtain ⟨L,hL⟩:∃ L,L=[b8 n]++(x.take k).flatMap valB:=⟨_,rfl⟩
   have HLK:=Lib.hid (show [b8 n]++(x.take (k+1)).flatMap valB=L++valB v from by rw [take_snoc hv,List.flatMap_append,hL];simp)
   have HLL:=Lib.hid (show L.length≤1+63 * 1000 from by
    have h1:=rows_len (x.take k) (fun v hv=>HOK.out v (List.mem_of_mem_take hv))
    have h2:(x.take k).length≤1000:=by rw [List.length_take];omega
    rw [hL,List.length_append,List.length_singleton]
    omega)
   obtain ⟨hm0,hO⟩:=HO.out
   rw [←hL] at hm0 hO
   subst hm0
   have HO:=Lib.hid hO
   obtain ⟨b0,off,rfl,_,_,_⟩:=HS.out.some_ (by omega)
   have hS:=HS.out.ext HW.out
   obtain ⟨cs,hcs,hcell⟩:=hS.at_ hv
   obtain ⟨kd,N,s⟩:=v
   obtain ⟨hk0,hk3,hn0,hn1,hsz⟩:=hvk
   simp only at hk0 hk3 hn0 hn1 hsz
   obtain ⟨kN,rfl⟩:∃ q:Nat,kd=(q:Int):=⟨kd.toNat,by omega⟩
   obtain ⟨nN,rfl⟩:∃ q:Nat,N=(q:Int):=⟨N.toNat,by omega⟩
   obtain ⟨_,_,e1,e2,_,_,e3,e4,e5⟩:=hcs
   rw [e2,e3,e4,e5] at e1
   subst e1
   simp only [show eVal.k=3 from rfl] at hcell
   have q0:=hcell 0 _ rfl
   have q1:=hcell 1 _ rfl
   have q2:=hcell 2 _ rfl
   simp only [Nat.add_zero] at q0
   clear hcell hS hv hO hL e2 e3 e4 e5
   go_upto_region 5 with fail
   clear q0 q1 q2
   obtain ⟨W2,hW_,hb2,BV⟩:=al1 wr 58 #[.int .i64 (kN:Int),.int .i64 (nN:Int),.string s]
   rw [←hW_]
   clear hW_
   obtain ⟨gv,hgv⟩:∃ g,wr.heap.size=g:=⟨_,rfl⟩
   rw [hgv] at BV ⊢
   clear hgv
   have HW2:=Lib.hid (HW.out.trans (Below.mono hb2 HW.out.size))
   have HB1:=Lib.hid (byte_ L kN A' L.length c' W2 (HO.out.ext hb2).by (by have:=HLL.out;omega) (by omega))
   have qv:=BV.three (Below.refl _ _)
   clear hb2 HW HO
   go_wp2_with fail
   refine HB1.out.mono ?_
   rintro e w3 ⟨A3,c3,rfl,ho3,hb3⟩
   have HO3:=Lib.hid (show Ob w3 w.heap.size A3 c3 (L++[b8 kN]) from own_base ho3 HW2.out.size)
   have HW3:=Lib.hid (HW2.out.trans (Below.mono hb3 HW2.out.size))
   have BV3:=BV.ext hb3
   clear ho3 hb3 qv BV HB1 HW2
   have qv:=BV3.three (Below.refl _ _)
   obtain ⟨m3,hm3⟩:∃ m,(L++[b8 kN]).length=m:=⟨_,rfl⟩
   have HM3:=Lib.hid hm3
   rw [hm3]
   clear hm3
   have hk4:kN=0∨kN=1∨kN=2∨kN=3:=by omega
   rcases hk4 with rfl|rfl|rfl|rfl
   ·go_wp2
    go_roundw
    case rel=>exact ⟨k+1,A3,c3,m3,rfl,by go_num,by omega,Lib.hid (by rw [HLK.out];exact ⟨by rw [←HM3.out];simp [valB],by simpa [valB] using HO3.out⟩),HW3⟩
    case measure=>simp [intOf];omega
   ·have HB2:=byte_ (L++[b8 1]) nN A3 _ c3 w3 HO3.out.by (by have:=HLL.out;simp;omega) (by omega)
    rw [HM3.out] at HB2
    have HB2:=Lib.hid HB2
    clear BV3
    go_wp2_with fail
    refine HB2.out.mono ?_
    rintro e w4 ⟨A4,c4,rfl,ho4,hb4⟩
    have HO4:=Lib.hid (show Ob w4 w.heap.size A4 c4 (L++[b8 1]++[b8 nN]) from own_base ho4 HW3.out.size)
    have HW4:=Lib.hid (HW3.out.trans (Below.mono hb4 HW3.out.size))
    obtain ⟨m4,hm4⟩:∃ m,(L++[b8 1]++[b8 nN]).length=m:=⟨_,rfl⟩
    have HM4:=Lib.hid hm4
    rw [hm4]
    clear hm4 ho4 hb4 qv HB2
    go_wp2
    go_roundw
    case rel =>
     have e:L++valB (((1:Nat):Int),(nN:Int),s)=L++[b8 1]++[b8 nN]:=by simp [valB]
     exact ⟨k+1,A4,c4,m4,rfl,by go_num,by omega,Lib.hid (by rw [HLK.out,e];exact ⟨HM4.out.symm,HO4.out⟩),HW4⟩
    case measure=>simp [intOf];omega
   ·have HB2:=int_ (L++[b8 2]) nN A3 _ c3 w3 HO3.out.by (by have:=HLL.out;simp;omega) (by omega)
    rw [HM3.out] at HB2
    have HB2:=Lib.hid HB2
    clear BV3
    go_wp2_with fail
    refine HB2.out.mono ?_
    rintro e w4 ⟨A4,c4,rfl,ho4,hb4⟩
    have HO4:=Lib.hid (show Ob w4 w.heap.size A4 c4 (L++[b8 2]++le 8 nN) from own_base ho4 HW3.out.size)
    have HW4:=Lib.hid (HW3.out.trans (Below.mono hb4 HW3.out.size))
    obtain ⟨m4,hm4⟩:∃ m,(L++[b8 2]++le 8 nN).length=m:=⟨_,rfl⟩
    have HM4:=Lib.hid hm4
    rw [hm4]
    clear hm4 ho4 hb4 qv HB2
    go_wp2
    go_roundw
    case rel =>
     have e:L++valB (((2:Nat):Int),(nN:Int),s)=L++[b8 2]++le 8 nN:=by simp [valB]
     exact ⟨k+1,A4,c4,m4,rfl,by go_num,by omega,Lib.hid (by rw [HLK.out,e];exact ⟨HM4.out.symm,HO4.out⟩),HW4⟩
    case measure=>simp [intOf];omega
   ·have HB2:=text_ (L++[b8 3]) s A3 _ c3 w3 HO3.out.by (by have:=HLL.out;simp;omega) (by omega)
    rw [HM3.out] at HB2
    have HB2:=Lib.hid HB2
    clear BV3
    go_wp2_with fail
    refine HB2.out.mono ?_
    rintro e w4 ⟨A4,c4,rfl,ho4,hb4⟩
    have HO4:=Lib.hid (show Ob w4 w.heap.size A4 c4 (L++[b8 3]++le 2 s.size++s.data.toList) from own_base ho4 HW3.out.size)
    have HW4:=Lib.hid (HW3.out.trans (Below.mono hb4 HW3.out.size))
    obtain ⟨m4,hm4⟩:∃ m,(L++[b8 3]++le 2 s.size++s.data.toList).length=m:=⟨_,rfl⟩
    have HM4:=Lib.hid hm4
    rw [hm4]
    clear hm4 ho4 hb4 qv HB2
    go_wp2
    go_roundw
    case rel =>
     have e:L++valB (((3:Nat):Int),(nN:Int),s)=L++[b8 3]++le 2 s.size++s.data.toList:=by simp [valB]
     exact ⟨k+1,A4,c4,m4,rfl,by go_num,by omega,Lib.hid (by rw [HLK.out,e];exact ⟨HM4.out.symm,HO4.out⟩),HW4⟩
    case measure=>simp [intOf];omega
  ·obtain rfl:k=n:=by omega
   have hd:decide ((k:Int)<(k:Int))=false:=by simp
   obtain ⟨hm0,hO⟩:=HO.out
   have hxk:x.length=k:=HL.out
   subst hxk
   rw [List.take_length] at hm0 hO
   have HO9:=Lib.hid (And.intro hm0 hO)
   clear hm0 hO HO
   go_wp2
   go_ret
   exact ⟨A',c',by rw [HO9.out.1];rfl,HO9.out.2,HW.out⟩
end Go.Proofs.YtgbcdkmjcokclaaGreat.tp
