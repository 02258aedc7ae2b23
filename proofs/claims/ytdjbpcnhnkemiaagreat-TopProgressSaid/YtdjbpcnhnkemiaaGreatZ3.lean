/- Laws of its own that the claim's proof needs; no condition beyond those that each states. -/
import Derived.Test.YtdjbpcnhnkemiaaGreatZ2
import Derived.Great.BuildSlice
import Derived.Shelf.Abstract
import Derived.Test.YtdjbpcnhnkemiaaGreatZ1
import Derived.Deep.CutRange
import Derived.BigQuiet
import Derived.Deep.QuietTactic
import Derived.Maps.RangeWalk
set_option linter.unusedVariables false
set_option maxRecDepth 1000000
set_option maxHeartbeats 16000000
namespace Go.Proofs.YtdjbpcnhnkemiaaGreat.tp
open Go.ChangeShapes Go.WideShapes Go.ChangeAt Go.RowKit Go.Proofs.YtdjbpcnhnkemiaaGreat.lib
variable {w w':World}
variable {n c g B b off i j k m n2 n3 c2 c3 c4 c5 c6 gs gn np lo base gr gd id b2 off2:Nat}
variable {A A2 A3 A4 A5 A6:Option Addr}
variable {cs:List Value}
variable {l r:List UInt8}
variable {rs:List (List UInt8)}
variable {s o e:Int}
variable {nm:ByteArray}
variable {F G:qab}
def rndX (T:List Int) (k w:Int):Int :=
 IntKind.u32.wrap (IntKind.u32.wrap (IntKind.u32.wrap (IntKind.u32.wrap (woI T 7+bits .xor .u32 (bits .xor .u32 (rr (woI T 4) 67108864 64) (rr (woI T 4) 2097152 2048)) (rr (woI T 4) 128 33554432)) +
  bits .xor .u32 (bits .and .u32 (woI T 4) (woI T 5)) (bits .and .u32 (bits .xor .u32 (if IntKind.u32.signed=true then -1 else IntKind.u32.max) (woI T 4)) (woI T 6)))+k)+w)
def rndY (T:List Int):Int :=
 IntKind.u32.wrap (bits .xor .u32 (bits .xor .u32 (rr (woI T 0) 1073741824 4) (rr (woI T 0) 524288 8192)) (rr (woI T 0) 1024 4194304)+bits .xor .u32 (bits .xor .u32 (bits .and .u32 (woI T 0) (woI T 1)) (bits .and .u32 (woI T 0) (woI T 2))) (bits .and .u32 (woI T 1) (woI T 2)))
def rnd (T:List Int) (k w:Int):List Int :=
 [IntKind.u32.wrap (rndX T k w+rndY T),woI T 0,woI T 1,woI T 2,IntKind.u32.wrap (woI T 3+rndX T k w),woI T 4,woI T 5,woI T 6]
def rnds (s W:List Int):Nat->List Int
 | 0=>s
 | i+1=>rnd (rnds s W i) (woI keysL i) (woI W i)
theorem rnds_succ (s W:List Int) (i:Nat):rnds s W (i+1)=rnd (rnds s W i) (woI keysL i) (woI W i):=rfl
theorem qlm (s W:List Int) (h:s.length=8):∀ i,(rnds s W i).length=8
 | 0=>h
 | i+1=>rfl
def fin (T s:List Int):Nat->List Int
 | 0=>T
 | i+1=>(fin T s i).set i (IntKind.u32.wrap (woI (fin T s i) i+woI s i))
theorem fin_succ (T s:List Int) (i:Nat):fin T s (i+1)=(fin T s i).set i (IntKind.u32.wrap (woI (fin T s i) i+woI s i)):=rfl
theorem qkg (T s:List Int) (h:T.length=8):∀ i,(fin T s i).length=8
 | 0=>h
 | i+1=>by unfold fin;rw [List.length_set];exact qkg T s h i
def addL (s:List Int) (b:List UInt8):List Int:=fin (rnds s (sp b 64) 64) s 8
theorem addL_len (s:List Int) (b:List UInt8) (h:s.length=8):(addL s b).length=8:=qkg _ _ (qlm _ _ h _) _
attribute [irreducible] rnds fin addL
def z8:List Int:=List.replicate 8 0
theorem zero8 (w:World):(zeroValue 388).run Tryz.prog w=.ok (.agg (qag z8).toArray) w:=by kernel_rfl
theorem qbt {P:Program} {ops:Array Oper} {rest:List Oper} {o:Oper} {a:Act} {Q:Exit->Act->World->Prop} (hg:o.guard=none) (t:TypeId) (parts:Array (Nat × Operand)) (ho:o.op=.build t parts) {cs:Array Value} {ps:List (Nat × Value)}
  (hps:parts.toList.map (fun x=>(x.1,a.eval x.2))=ps) (hf:P.built t ps=some cs) (d:Option Tmp) (hd:o.dst=d) (h:wpList P ops Q rest (a.put d (.agg cs)) w):wpList P ops Q (o::rest) a w:=by
 have hq:(parts.map fun (x:Nat × Operand)=>(x.1,a.eval x.2)).toList=ps:=by rw [Array.toList_map];exact hps
 exact wpList_buildTo hg t parts ho d hd cs (by rw [show (parts.map fun (i,x)=>(i,a.eval x)).toList=ps from hq];exact hf) h
theorem qpl (a0 a1 a2 a3 a4 a5 a6 a7:Int):Tryz.prog.built 388 [(0,.int .u32 a0),(1,.int .u32 a1),(2,.int .u32 a2),(3,.int .u32 a3),(4,.int .u32 a4),(5,.int .u32 a5),(6,.int .u32 a6),(7,.int .u32 a7)]=some (qag [a0,a1,a2,a3,a4,a5,a6,a7]).toArray:=by kernel_rfl
theorem built_rnd (T:List Int) (k w X Y:Int) (hX:X=rndX T k w) (hY:Y=rndY T):Tryz.prog.built 388 [(0,.int .u32 (IntKind.u32.wrap (X+Y))),(1,.int .u32 (woI T 0)),(2,.int .u32 (woI T 1)),(3,.int .u32 (woI T 2)),(4,.int .u32 (IntKind.u32.wrap (woI T 3+X))),(5,.int .u32 (woI T 4)),(6,.int .u32 (woI T 5)),(7,.int .u32 (woI T 6))]=some (qag (rnd T k w)).toArray:=by
 subst hX hY
 exact qpl _ _ _ _ _ _ _ _
theorem add_ (w:World) (A:Option Addr) (c:Nat) (b:List UInt8) (s:List Int) (hs:s.length=8) (hB:By w A 64 c b):Calls Tryz.prog 244 #[.agg (qag s).toArray,.slice A 64 c] w fun e w'=>e=.returned (.agg (qag (addL s b)).toArray)/\Below w.heap.size w w':=by
 have HB:=zh hB
 clear hB
 have hz:=zero64
 have hz8:=zero8
 go_enter Tryz.func244,Tryz.ntmps244
 go_upto_region 1 with fail
 obtain ⟨W,hW_,hbW,BS,BR⟩:=al2 w 388 388 ((qag s).toArray) ((qag z8).toArray)
 rw [<-hW_]
 clear hW_
 obtain ⟨gr,hgr⟩:∃ g,w.heap.size+1=g:=⟨_,rfl⟩
 have hgrn:w.heap.size<gr:=by omega
 rw [hgr] at BR ⊢
 clear hgr
 have HS:=zh (spread_ W A c b (HB.out.ext hbW))
 obtain ⟨SW,hSW⟩:∃ S,sp b 64=S:=⟨_,rfl⟩
 have hSWl:SW.length=64:=by rw [<-hSW];exact qeq b 64
 have HSW:=zh hSW
 rw [hSW] at HS
 clear hSW
 go_wp2_with fail
 refine HS.out.mono ?_
 rintro e w3 ⟨rfl,hb3⟩
 have hbw3:=zt hbW (zm hb3 hbW.size)
 have BS3:=BS.ext hb3
 have BR3:=BR.ext hb3
 clear HS hb3 BS BR hbW
 have HKy:=zh (keys_ w3)
 go_wp2_with fail
 refine HKy.out.mono ?_
 rintro e w4 ⟨rfl,hb4⟩
 have hbw4:=zt hbw3 (zm hb4 hbw3.size)
 have BS4:=BS3.ext hb4
 have BR4:=BR3.ext hb4
 clear HKy hb4 BS3 BR3 hbw3
 obtain ⟨KL,hKL⟩:∃ S,keysL=S:=⟨_,rfl⟩
 have hKLl:KL.length=64:=by rw [<-hKL];rfl
 have HKL:=zh hKL
 rw [hKL]
 clear hKL
 have hsS:=qjw SW hSWl
 have hsK:=qjw KL hKLl
 have C5:Blk ((w4.alloc (.cells (qag z64).toArray 397)).alloc (.cells (qag z64).toArray 397)) w4.heap.size 397 (qag z64).toArray:=(Blk.new w4 _ _).alloc _
 have C6:Blk ((w4.alloc (.cells (qag z64).toArray 397)).alloc (.cells (qag z64).toArray 397)) (w4.heap.size+1) 397 (qag z64).toArray:=qbi _ _ _ _ (by simp)
 have hb5:Below w4.heap.size w4 ((w4.alloc (.cells (qag z64).toArray 397)).alloc (.cells (qag z64).toArray 397)):=((zb _ _).alloc (zl _) _).alloc (by simp) _
 obtain ⟨X,hX⟩:∃ X,X=((w4.alloc (.cells (qag z64).toArray 397)).alloc (.cells (qag z64).toArray 397)):=⟨_,rfl⟩
 rw [<-hX] at C5 C6 hb5
 have hth5:=Blk.there (o:=0) (n:=64) C5 (by rw [lenW,qcj];omega)
 obtain ⟨D5,hg5⟩:=Blk.lay (qag SW) 0 C5 (by rw [lenW,lenW,qcj,hSWl];omega)
 rw [qai _ _ (by rw [lenW,lenW,qcj,hSWl])] at D5
 have C6':=Blk.keep (F:=fun b=>b≠w4.heap.size) C6 (Keep.grown hg5 (fun g hg=>by injection hg with hg;simp [hg])) (by omega)
 have hth6:=Blk.there (o:=0) (n:=64) C6' (by rw [lenW,qcj];omega)
 obtain ⟨D6,hg6⟩:=Blk.lay (qag KL) 0 C6' (by rw [lenW,lenW,qcj,hKLl];omega)
 rw [qai _ _ (by rw [lenW,lenW,qcj,hKLl])] at D6
 have D5':=Blk.keep (F:=fun b=>b≠w4.heap.size+1) D5 (Keep.grown hg6 (fun g hg=>by injection hg with hg;simp [hg])) (by omega)
 have hb6:Below w4.heap.size w4 ((X.setCells w4.heap.size 0 (qag SW)).setCells (w4.heap.size+1) 0 (qag KL)):=((hb5.gw hg5)).grown hg6 (by have:=hb5.size;have:=hg5.size;omega) (fun k hk=>by injection hk with hk;omega)
 subst hX
 go_upto_region 2 with (first|((with_reducible refine sS 5 ?_);(refine wpList_store_mid rfl 397 _ _ rfl w4.heap.size 0 (qag SW).toArray rfl rfl ?s1 ?s2 (all_oneCell_toArray (oneW _)) ?_)) |
  ((with_reducible refine sS 6 ?_);(refine wpList_store_mid rfl 397 _ _ rfl (w4.heap.size+1) 0 (qag KL).toArray rfl rfl ?s3 ?s4 (all_oneCell_toArray (oneW _)) ?_)))
 case s1=>exact (show (qag SW).toArray.size=64 by simp [lenW,hSWl]) ▸ hth5
 case s2=>exact (show (qag SW).toArray.size=(qag SW).length by simp) ▸ hsS
 case s3=>rw [lenW,hKLl];exact hth6
 case s4=>exact (show (qag KL).toArray.size=(qag KL).length by simp) ▸ hsK
 have BS6:=BS4.ext hb6
 have BR6:=BR4.ext hb6
 have hbw6:=zt hbw4 (zm hb6 hbw4.size)
 have hw4r:gr<w4.heap.size:=BR4.lt
 obtain ⟨g5,hg5e⟩:∃ g,w4.heap.size=g:=⟨_,rfl⟩
 rw [hg5e] at D5' D6 BS6 BR6 hbw6 hw4r ⊢
 generalize (((w4.alloc (.cells (qag z64).toArray 397)).alloc (.cells (qag z64).toArray 397)).setCells g5 0 (qag SW)).setCells (g5+1) 0 (qag KL)=W6 at *
 clear D5 C5 C6 C6' hth5 hth6 hg5 hg6 hb5 hb6 BS4 BR4 hbw4 hg5e
 have hs8:=qii s hs
 have hcs:(qag s).length=8:=by rw [lenW,hs]
 have C7:=Blk.new W6 388 (qag z8).toArray
 have hth7:=Blk.there (o:=0) (n:=8) C7 (by simp [lenW,z8])
 obtain ⟨BT,hg7⟩:=Blk.lay (qag s) 0 C7 (by rw [hcs];simp [lenW,z8])
 rw [qai _ _ (by rw [hcs];simp [lenW,z8])] at BT
 have hb7:Below W6.heap.size W6 ((W6.alloc (.cells (qag z8).toArray 388)).setCells W6.heap.size 0 (qag s)):=((zb _ _).alloc (zl _) _).grown hg7 (by simp) (fun k hk=>by injection hk with hk;omega)
 clear hg7 C7
 go_upto_region 3 with (first|((with_reducible refine sT 17 ?_);(refine wpList_load_mid rfl 388 _ rfl w.heap.size 0 rfl (qag s) _ (Blk.whole BS6) Tryz.underlying388 rfl hs8 ?_)) |
  ((with_reducible refine sS 7 ?_);(refine wpList_store_mid rfl 388 _ _ rfl W6.heap.size 0 (qag s).toArray rfl rfl ?s5 ?s6 (all_oneCell_toArray (oneW _)) ?_)))
 case s5=>exact (show (qag s).toArray.size=8 by simp [hcs]) ▸ hth7
 case s6=>rw [List.size_toArray];exact hs8
 generalize (W6.alloc (.cells (qag z8).toArray 388)).setCells W6.heap.size 0 (qag s)=W7 at *
 clear hth7
 have BS7:=BS6.ext hb7
 have BR7:=BR6.ext hb7
 have DW7:=D5'.ext hb7
 have DK7:=D6.ext hb7
 have hbw7:=zt hbw6 (zm hb7 hbw6.size)
 have hg5w:g5+1<W6.heap.size:=D6.lt
 obtain ⟨gt,hgt⟩:∃ g,W6.heap.size=g:=⟨_,rfl⟩
 rw [hgt] at BT hg5w ⊢
 clear hb7 BS6 BR6 D5' D6 hbw6 hgt hcs hz hz8
 have hT0:rnds s SW 0=s:=by unfold rnds;rfl
 go_wp2_with fail
 go_loopw [18] (fun i wr=>∃ k:Nat,i=.int .i64 k/\k<=64/\Blk wr gt 388 (qag (rnds s SW k)).toArray/\Blk wr w.heap.size 388 (qag s).toArray/\Blk wr gr 388 (qag z8).toArray/\Blk wr g5 397 (qag SW).toArray/\Blk wr (g5+1) 397 (qag KL).toArray/\Below w.heap.size w wr) (fun i _=>64 - (intOf i).toNat)
 case atStart=>exact ⟨0,rfl,by omega,by rw [hT0];exact BT,BS7,BR7,DW7,DK7,hbw7⟩
 case round =>
  clear BT BS7 BR7 DW7 DK7 hbw7
  obtain ⟨k,rfl,hk,BT,BS,BR,DW,DK,hbw⟩:=hrel
  rcases Nat.lt_or_ge k 64 with hlt|hge
  ·have hd:decide ((k:Int)<64)=true:=by simp;omega
   have hk64:(k:Int)<64:=by omega
   obtain ⟨T,hT⟩:∃ T,rnds s SW k=T:=⟨_,rfl⟩
   have hTl:T.length=8:=by rw [<-hT];exact qlm s SW hs k
   have HT:=zh hT
   rw [hT] at BT
   clear hT
   have D:∀ w',Below wr.heap.size wr.drew w'->(w'.cell? ⟨gt,0,none⟩=some (.int .u32 (woI T 0))/\w'.cell? ⟨gt,1,none⟩=some (.int .u32 (woI T 1))/\w'.cell? ⟨gt,2,none⟩=some (.int .u32 (woI T 2))/\w'.cell? ⟨gt,3,none⟩=some (.int .u32 (woI T 3))/\w'.cell? ⟨gt,4,none⟩=some (.int .u32 (woI T 4))/\w'.cell? ⟨gt,5,none⟩=some (.int .u32 (woI T 5))/\w'.cell? ⟨gt,6,none⟩=some (.int .u32 (woI T 6))/\w'.cell? ⟨gt,7,none⟩=some (.int .u32 (woI T 7)))/\w'.cell? ⟨g5,k,none⟩=some (.int .u32 (woI SW k))/\w'.cell? ⟨g5+1,k,none⟩=some (.int .u32 (woI KL k)):=fun w' h=>by
    have hB:=BT.ext (zt (zb _ _).drew h)
    exact ⟨⟨qar hB 0 (by omega),qar hB 1 (by omega),qar hB 2 (by omega),qar hB 3 (by omega),qar hB 4 (by omega),qar hB 5 (by omega),qar hB 6 (by omega),qar hB 7 (by omega)⟩,qar (DW.ext (zt (zb _ _).drew h)) k (by omega),qar (DK.ext (zt (zb _ _).drew h)) k (by omega)⟩
   go_wp2_with fail
   refine r1 [(0,true),(1,true),(2,true),(3,true),(4,true),(5,true)] ?_
   repeat ((first|refine pT ?_|refine pF ?_);try go_frame)
   refine qad ?_
   clear D
   have BT:=Blk.drew BT
   have BS:=Blk.drew BS
   have BR:=Blk.drew BR
   have DW:=Blk.drew DW
   have DK:=Blk.drew DK
   have hbw:=hbw.drew
   generalize wr.drew=wr at *
   have D:∀ w',Below wr.heap.size wr.drew w'->(w'.cell? ⟨gt,0,none⟩=some (.int .u32 (woI T 0))/\w'.cell? ⟨gt,1,none⟩=some (.int .u32 (woI T 1))/\w'.cell? ⟨gt,2,none⟩=some (.int .u32 (woI T 2))/\w'.cell? ⟨gt,3,none⟩=some (.int .u32 (woI T 3))/\w'.cell? ⟨gt,4,none⟩=some (.int .u32 (woI T 4))/\w'.cell? ⟨gt,5,none⟩=some (.int .u32 (woI T 5))/\w'.cell? ⟨gt,6,none⟩=some (.int .u32 (woI T 6))/\w'.cell? ⟨gt,7,none⟩=some (.int .u32 (woI T 7)))/\w'.cell? ⟨g5,k,none⟩=some (.int .u32 (woI SW k))/\w'.cell? ⟨g5+1,k,none⟩=some (.int .u32 (woI KL k)):=fun w' h=>by
    have hB:=BT.ext (zt (zb _ _).drew h)
    exact ⟨⟨qar hB 0 (by omega),qar hB 1 (by omega),qar hB 2 (by omega),qar hB 3 (by omega),qar hB 4 (by omega),qar hB 5 (by omega),qar hB 6 (by omega),qar hB 7 (by omega)⟩,qar (DW.ext (zt (zb _ _).drew h)) k (by omega),qar (DK.ext (zt (zb _ _).drew h)) k (by omega)⟩
   go_upto_region 7 with fail
   go_cut [11] from 25 to 54 (fun v wx=>∃ X,X=rndX T (woI KL k) (woI SW k)/\v=.int .u32 X/\wx=wr.drew)
   case first =>
    refine r1 [(0,true),(1,true),(2,true),(4,true),(7,true),(11,true),(12,true),(13,true),(14,true),(15,true),(16,true),(17,true),(18,true),(19,true),(20,true),(22,true),(23,true),(24,true),(26,true),(27,true),(28,true),(3,false),(5,false),(6,true),(8,false),(9,true),(10,true),(21,true),(25,true),(29,true),(30,true)] ?_
    repeat ((first|refine pT ?_|refine pF ?_);try go_frame)
    refine pD fun K hK=>?_;go_simp
    refine (right6 _ _).mono ?_
    rintro e w' ⟨rfl,rfl⟩
    refine hK.out _ _ (zb _ _) ?_
    clear hK K
    refine pD fun K hK=>?_;go_simp
    refine (right11 _ _).mono ?_
    rintro e w' ⟨rfl,rfl⟩
    refine hK.out _ _ (zb _ _) ?_
    clear hK K
    repeat ((first|refine pT ?_|refine pF ?_);try go_frame)
    refine pD fun K hK=>?_;go_simp
    refine (right25 _ _).mono ?_
    rintro e w' ⟨rfl,rfl⟩
    refine hK.out _ _ (zb _ _) ?_
    clear hK K
    repeat ((first|refine pT ?_|refine pF ?_);try go_frame)
    refine qad ?_
    go_wp2_with fail
    go_meet
    refine ⟨_,?_,rfl,rfl⟩
    unfold rndX
    rfl
   case rest =>
   obtain ⟨X,HX,rfl,rfl⟩:=hcut
   replace HX:=zh HX
   clear D
   have BT:=Blk.drew BT
   have BS:=Blk.drew BS
   have BR:=Blk.drew BR
   have DW:=Blk.drew DW
   have DK:=Blk.drew DK
   have hbw:=hbw.drew
   generalize wr.drew=wr at *
   have D:∀ w',Below wr.heap.size wr.drew w'->(w'.cell? ⟨gt,0,none⟩=some (.int .u32 (woI T 0))/\w'.cell? ⟨gt,1,none⟩=some (.int .u32 (woI T 1))/\w'.cell? ⟨gt,2,none⟩=some (.int .u32 (woI T 2))/\w'.cell? ⟨gt,3,none⟩=some (.int .u32 (woI T 3))/\w'.cell? ⟨gt,4,none⟩=some (.int .u32 (woI T 4))/\w'.cell? ⟨gt,5,none⟩=some (.int .u32 (woI T 5))/\w'.cell? ⟨gt,6,none⟩=some (.int .u32 (woI T 6))/\w'.cell? ⟨gt,7,none⟩=some (.int .u32 (woI T 7)))/\w'.cell? ⟨g5,k,none⟩=some (.int .u32 (woI SW k))/\w'.cell? ⟨g5+1,k,none⟩=some (.int .u32 (woI KL k)):=fun w' h=>by
    have hB:=BT.ext (zt (zb _ _).drew h)
    exact ⟨⟨qar hB 0 (by omega),qar hB 1 (by omega),qar hB 2 (by omega),qar hB 3 (by omega),qar hB 4 (by omega),qar hB 5 (by omega),qar hB 6 (by omega),qar hB 7 (by omega)⟩,qar (DW.ext (zt (zb _ _).drew h)) k (by omega),qar (DK.ext (zt (zb _ _).drew h)) k (by omega)⟩
   go_upto_region 8 with fail
   go_cut [12] from 55 to 78 (fun v wx=>∃ Y,Y=rndY T/\v=.int .u32 Y/\wx=wr.drew)
   case first =>
    refine r1 [(0,true),(2,true),(5,true),(8,true),(9,true),(10,true),(11,true),(12,true),(13,true),(14,true),(15,true),(16,true),(17,true),(18,true),(19,true),(20,true),(21,true),(22,true),(1,false),(3,false),(4,true),(6,false),(7,true),(23,true),(24,true)] ?_
    repeat ((first|refine pT ?_|refine pF ?_);try go_frame)
    refine pD fun K hK=>?_;go_simp
    refine (right2 _ _).mono ?_
    rintro e w' ⟨rfl,rfl⟩
    refine hK.out _ _ (zb _ _) ?_
    clear hK K
    refine pD fun K hK=>?_;go_simp
    refine (right13 _ _).mono ?_
    rintro e w' ⟨rfl,rfl⟩
    refine hK.out _ _ (zb _ _) ?_
    clear hK K
    repeat ((first|refine pT ?_|refine pF ?_);try go_frame)
    refine pD fun K hK=>?_;go_simp
    refine (right22 _ _).mono ?_
    rintro e w' ⟨rfl,rfl⟩
    refine hK.out _ _ (zb _ _) ?_
    clear hK K
    repeat ((first|refine pT ?_|refine pF ?_);try go_frame)
    refine qad ?_
    go_wp2_with fail
    go_meet
    refine ⟨_,?_,rfl,rfl⟩
    unfold rndY
    rfl
   case rest =>
   obtain ⟨Y,HY,rfl,rfl⟩:=hcut
   replace HY:=zh HY
   clear D
   have BT:=Blk.drew BT
   have BS:=Blk.drew BS
   have BR:=Blk.drew BR
   have DW:=Blk.drew DW
   have DK:=Blk.drew DK
   have hbw:=hbw.drew
   generalize wr.drew=wr at *
   have q:=za (qar BT 0 (by omega)) (za (qar BT 1 (by omega)) (za (qar BT 2 (by omega)) (za (qar BT 3 (by omega)) (za (qar BT 4 (by omega)) (za (qar BT 5 (by omega)) (qar BT 6 (by omega)))))))
   have hth:=Blk.there (o:=0) (n:=8) BT (by rw [lenW,hTl];omega)
   have hs8':(Tryz.prog.info? 388).map (·.size)=some (qag (rnd T (woI KL k) (woI SW k))).length:=qii _ rfl
   obtain ⟨BT2,hgT⟩:=Blk.lay (qag (rnd T (woI KL k) (woI SW k))) 0 BT (by rw [lenW,lenW,hTl];show 0+8<=8;omega)
   rw [qai _ _ (by rw [lenW,lenW,hTl];rfl)] at BT2
   go_upto_region 10 with (first|((with_reducible refine sS 7 ?_);(refine wpList_store_mid rfl 388 _ _ rfl gt 0 (qag (rnd T (woI KL k) (woI SW k))).toArray rfl rfl ?s5 ?s6 (all_oneCell_toArray (oneW _)) ?_)) |
    ((with_reducible show wpList _ _ _ (Oper.mk (some 98) (Op.build _ _) _ _ _ _::_) _ _);(refine qbt rfl 388 _ rfl (cs:=(qag (rnd T (woI KL k) (woI SW k))).toArray) rfl (built_rnd T (woI KL k) (woI SW k) X Y HX.out HY.out) (some 98) rfl ?_)))
   case s5=>exact (show (qag (rnd T (woI KL k) (woI SW k))).toArray.size=8 from rfl) ▸ hth
   case s6=>rw [List.size_toArray];exact hs8'
   have e8:(qag (rnd T (woI KL k) (woI SW k))).toArray.size=8:=rfl
   have BS:=Blk.keep (F:=fun b=>b≠gt) BS (Keep.grown hgT (fun g hg=>by injection hg with hg;simp [hg])) (by omega)
   have BR:=Blk.keep (F:=fun b=>b≠gt) BR (Keep.grown hgT (fun g hg=>by injection hg with hg;simp [hg])) (by omega)
   have DW:=Blk.keep (F:=fun b=>b≠gt) DW (Keep.grown hgT (fun g hg=>by injection hg with hg;simp [hg])) (by omega)
   have DK:=Blk.keep (F:=fun b=>b≠gt) DK (Keep.grown hgT (fun g hg=>by injection hg with hg;simp [hg])) (by omega)
   have hbw:=(hbw.gw hgT)
   generalize wr.setCells gt 0 (qag (rnd T (woI KL k) (woI SW k)))=wr at *
   rw [show rnd T (woI KL k) (woI SW k)=rnds s SW (k+1) by rw [<-HT.out,<-HKL.out,rnds_succ]] at BT2
   clear hgT BT q hth hs8'
   have HZ:=zh (za BT2 (za BS (za BR (za DW (za DK hbw)))))
   clear BT2 BS BR DW DK hbw
   go_wp2_with fail
   go_roundw
   case rel=>exact ⟨k+1,by go_num,by omega,HZ.out⟩
   case measure=>simp [intOf];omega
  ·obtain rfl:k=64:=by omega
   have hd:decide (((64:Nat):Int)<64)=false:=by decide
   obtain ⟨T2,hT2⟩:∃ S,rnds s SW 64=S:=⟨_,rfl⟩
   have hT2l:T2.length=8:=by rw [<-hT2];exact qlm s SW hs 64
   have HT2:=zh hT2
   rw [hT2] at BT
   clear hT2 DW DK
   have hF0:fin T2 s 0=T2:=by unfold fin;rfl
   go_wp2_with fail
   have e64:((64:Nat):Int)=64:=rfl
   rw [e64]
   clear e64
   go_loopw [100] (fun i wr=>∃ j:Nat,i=.int .i64 j/\j<=8/\Blk wr gt 388 (qag (fin T2 s j)).toArray/\Blk wr w.heap.size 388 (qag s).toArray/\Blk wr gr 388 (qag z8).toArray/\Below w.heap.size w wr) (fun i _=>8 - (intOf i).toNat)
   case atStart=>exact ⟨0,rfl,by omega,by rw [hF0];exact BT,BS,BR,hbw⟩
   case round =>
    clear BT BS BR hbw
    obtain ⟨j,rfl,hj,BT,BS,BR,hbw⟩:=hrel
    rcases Nat.lt_or_ge j 8 with hlt|hge
    ·have hd:decide ((j:Int)<8)=true:=by simp;omega
     have hj8:(j:Int)<8:=by omega
     obtain ⟨F,hF⟩:∃ T,fin T2 s j=T:=⟨_,rfl⟩
     have hFl:F.length=8:=by rw [<-hF];exact qkg T2 s hT2l j
     have HF:=zh hF
     rw [hF] at BT
     clear hF
     go_wp2_with fail
     have D:∀ w',Below wr.heap.size wr.drew w'->w'.cell? ⟨gt,j,none⟩=some (.int .u32 (woI F j))/\w'.cell? ⟨w.heap.size,j,none⟩=some (.int .u32 (woI s j)):=fun w' h =>
      ⟨qar (BT.ext (zt (zb _ _).drew h)) j (by omega),qar (BS.ext (zt (zb _ _).drew h)) j (by omega)⟩
     refine r3 (S:=fun w'=>Below wr.heap.size wr.drew w') [(0,true),(1,true),(2,true),(3,true),(4,true),(5,true),(6,true),(7,true)] [(8,false)] (zb _ _) ?_
     repeat ((first|refine pT ?_|refine pF ?_);try go_frame)
     refine qak ?_
     clear D
     have q:=qar (Blk.drew BT) j (by omega)
     have f:=(Blk.drew BT).frozen j
     refine pD fun K hK=>?_;go_simp
     clear q f
     have BT':=Blk.setW (Blk.drew BT) j (IntKind.u32.wrap (woI F j+woI s j))
     rw [show F.set j (IntKind.u32.wrap (woI F j+woI s j))=fin T2 s (j+1) by rw [fin_succ,HF.out]] at BT'
     have hg4:=qac wr.drew gt j (.int .u32 (IntKind.u32.wrap (woI F j+woI s j)))
     have BS':=Blk.keep (F:=fun b=>b≠gt) (Blk.drew BS) (Keep.grown hg4 (fun g hg=>by injection hg with hg;simp [hg])) (by omega)
     have BR':=Blk.keep (F:=fun b=>b≠gt) (Blk.drew BR) (Keep.grown hg4 (fun g hg=>by injection hg with hg;simp [hg])) (by omega)
     have hbw4:=(hbw.drew).grown hg4 hbw.size (fun k hk=>by injection hk with hk;omega)
     have HX:=zh (za BT' (za BS' (za BR' hbw4)))
     clear BT' BS' BR' hg4 hbw4
     refine hK.out _ _ trivial (qad ?_)
     clear hK K
     go_wp2
     go_roundw
     case rel=>exact ⟨j+1,by go_num,by omega,HX.out⟩
     case measure=>simp [intOf];omega
    ·obtain rfl:j=8:=by omega
     have hd:decide (((8:Nat):Int)<8)=false:=by decide
     obtain ⟨S,hS⟩:∃ S,fin T2 s 8=S:=⟨_,rfl⟩
     have hSl:S.length=8:=by rw [<-hS];exact qkg T2 s hT2l 8
     have HS:=zh hS
     rw [hS] at BT
     clear hS
     have hsz:=qii S hSl
     have hth:=Blk.there (o:=0) (n:=8) BR (by simp [lenW,z8])
     go_wp2_with (first|((with_reducible refine sT 112 ?_);(refine wpList_load_mid rfl 388 _ rfl gt 0 rfl (qag S) _ (Blk.whole BT) Tryz.underlying388 rfl hsz ?_)) |
      ((with_reducible show wpList _ _ _ (Oper.mk none _ _ _ _ _::_) _ _);(refine wpList_store_mid rfl 388 _ _ rfl gr 0 (qag S).toArray rfl rfl ?s1 ?s2 (all_oneCell_toArray (oneW _)) ?_)))
     case s1=>exact (show (qag S).toArray.size=8 by simp [lenW,hSl]) ▸ hth
     case s2=>exact (show (qag S).toArray.size=(qag S).length by simp) ▸ hsz
     obtain ⟨B4,hg4⟩:=Blk.lay (qag S) 0 BR (by rw [lenW,lenW,hSl];simp [z8])
     rw [qai _ _ (by rw [lenW,lenW,hSl];simp [z8])] at B4
     have hbw4:=(hbw.gw hg4)
     generalize wr.setCells gr 0 (qag S)=W4 at *
     clear hth BT BR hg4
     go_wp2
     exact bodyPost_ret (v:=.agg (qag S).toArray) (results_cell_row rfl _ _ gr _ _ (0,0) _ rfl B4 Tryz.underlying388 rfl (by rw [List.size_toArray];exact hsz)) rfl ⟨by unfold addL;rw [HSW.out,HT2.out,HS.out],hbw4⟩
def KeepT (T:TypeId) (w w':World):Prop:=∀ g t cs,t≠T->Blk w g t cs->Blk w' g t cs
theorem KeepT.refl (T:TypeId) (w:World):KeepT T w w:=fun _ _ _ _ h=>h
theorem KeepT.trans {T:TypeId} {a b c:World} (h:KeepT T a b) (k:KeepT T b c):KeepT T a c:=fun g t cs ht hB=>k g t cs ht (h g t cs ht hB)
theorem KeepT.alloc {T:TypeId} {a b:World} (h:KeepT T a b) (o:Obj):KeepT T a (b.alloc o):=fun g t cs ht hB=>Blk.alloc (h g t cs ht hB) o
theorem KeepT.grown {T:TypeId} {a b:World} {s N:Nat} {xs:List Value} (ho:a.ownsRow B T s (.slice A n c) N xs) (hg:a.grownBy b (Value.slice A n c).ownBlock):KeepT T a b:=fun g t cs ht hB=>by
 refine (hg.block g hB.lt fun he=>?_).trans hB
 rcases ho.2 with ⟨h1,_⟩|⟨g',cap,cur,h1,_,h3,_⟩
 ·injection h1 with h1 _ _
  rw [h1] at he
  cases he
 ·injection h1 with h1 _ _
  rw [h1] at he
  injection he with he
  rw [he] at hB
  have:=hB.symm.trans h3
  injection this with this
  injection this with _ h5 _
  exact ht h5
def zn (n:Nat):Nat:=(119 - n % 64) % 64
def be8 (k N:Nat):List UInt8:=(List.range k).map fun j=>UInt8.ofNat (N / 256 ^ (7 - j))
theorem qml (k N:Nat):(be8 k N).length=k:=by simp [be8]
theorem be8_succ (k N:Nat):be8 (k+1) N=be8 k N++[UInt8.ofNat (N / 256 ^ (7 - k))]:=by simp [be8,List.range_succ]
theorem be8_at (N k:Nat) (hk:k<8):([.int .u8 ((N:Int) / 2 ^ (56 - 8 * k) % 256)]:List Value)=qaa [UInt8.ofNat (N / 256 ^ (7 - k))]:=by
 have h2:(2:Int) ^ (56 - 8 * k)=((256 ^ (7 - k):Nat):Int):=by
  rw [show 56 - 8 * k=8 * (7 - k) by omega,Int.pow_mul,show (2:Int) ^ 8=256 from rfl,Int.natCast_pow];rfl
 have h3:(N:Int) / ((256 ^ (7 - k):Nat):Int) % 256=((UInt8.ofNat (N / 256 ^ (7 - k))).toNat:Int):=by
  rw [UInt8.toNat_ofNat']
  generalize 256 ^ (7 - k)=M
  omega
 rw [h2,h3]
 rfl
def padL (l:List UInt8):List UInt8:=l++[128]++List.replicate (zn l.length) 0++be8 8 (l.length * 8)
theorem padL_len (l:List UInt8):(padL l).length=64 * ((padL l).length / 64):=by
 have:(padL l).length=l.length+1+zn l.length+8:=by simp [padL,qml];omega
 rw [this]
 unfold zn
 omega
theorem u64_in {x:Int} (h0:0<=x) (h1:x<9223372036854775808):IntKind.u64.wrap x=x:=by
 have:IntKind.u64.wrap x=x % 18446744073709551616:=rfl
 rw [this]
 omega
def lenV:Value->Nat | .slice _ m _=>m|_=>0
def OwnP (B:Nat) (l:List UInt8) (w:World) (e:Ending) (w':World):Prop:=∃ A c,e=.returned (.slice A l.length c)/\w'.ownsRow B 5 1 (.slice A l.length c) l.length (qaa l)/\Below B w w'/\KeepT 5 w w'
theorem padded_ (B:Nat) (l:List UInt8) (A:Option Addr) (n c:Nat) (w:World) (hB:w.ownsRow B 5 1 (.slice A n c) n (qaa l)) (hl:l.length=n) (hn:n<=500000) (hBw:B<=w.heap.size):
  Calls Tryz.prog 243 #[.slice A n c] w (OwnP B (padL l) w):=by
 obtain ⟨i0,hi,hy0,hy1,hy2⟩:=ip Tryz.prog 5 (.int .u8 0) 1 1
 have HO:=zh hB
 have HL:=zh hl
 clear hB hl
 have hw8:IntKind.u64.wrap ((n:Int) * 8)=(n:Int) * 8:=u64_in (by omega) (by omega)
 go_enter Tryz.func243,Tryz.ntmps243
 go_wp2_with (at_builtin;(refine wpList_append_own _ rfl (.tmp 9) (.tmp 10) 151 rfl B 5 i0 _ 1 1 Tryz.underlying151 hi hy0 hy1 hy2 rfl (by decide) _ n _ rfl (HO.out.alloc _) ⟨w.heap.size,0,none⟩ 1 1 [.int .u8 128] rfl ?a1 ?a2 ?a3 ?a4 ?a5 ?a6 ?_))
 all_goals try (case a1=>rfl)
 all_goals try (case a2=>exact (Row.of_blk (Blk.new w _ _) (Nat.zero_le _) 1 1 (zl _)).src)
 all_goals try (case a3=>intro u hu;rw [List.mem_singleton] at hu;rw [hu];rfl)
 all_goals try (case a4=>unfold maxLen;omega)
 all_goals try (case a5=>omega)
 all_goals try (case a6=>simp;omega)
 intro v1 w1 hown hgrow _
 obtain ⟨A1,c1,rfl⟩:=qan hown
 have hlw:=HO.out.lt
 have hbx:=((zb B w).alloc hBw (.cells #[.int .u8 128] 5)).grown hgrow (by simp;omega) (fun b hb=>by have:=(hlw b hb).1;omega)
 have hkt:KeepT 5 w w1:=((KeepT.refl _ w).alloc (.cells #[.int .u8 128] 5)).trans (KeepT.grown (HO.out.alloc _) hgrow)
 have HO1:=zh (show w1.ownsRow _ _ _ _ _ (qaa (l++[128]++List.replicate 0 0)) from by rw [List.replicate_zero,List.append_nil,qbu];exact hown)
 clear hown hgrow hlw HO
 go_wp2_with fail
 go_loopw [0] (fun o wr=>∃ (k:Nat) (A2:Option Addr) (c2:Nat),o=.slice A2 (n+1+k) c2/\k<=zn n/\wr.ownsRow B 5 1 (.slice A2 (n+1+k) c2) (n+1+k) (qaa (l++[128]++List.replicate k 0))/\Below B w wr/\KeepT 5 w wr) (fun o _=>n+1+zn n - lenV o)
 case atStart=>exact ⟨0,A1,c1,rfl,Nat.zero_le _,HO1.out,hbx,hkt⟩
 case round =>
  clear HO1 hbx hkt
  obtain ⟨k,A2,c2,rfl,hk,hown,hbx,hkt⟩:=hrel
  have HO:=zh hown
  clear hown
  have hz:(n+1+zn n) % 64=56/\zn n<64:=by unfold zn;omega
  by_cases h8:k<zn n
  case pos =>
   have hd:((((n:Int)+1+(k:Int)) % 64) != 56)=true:=by simp;omega
   go_wp2_with (at_builtin;(refine wpList_append_own _ rfl (.tmp 16) (.tmp 17) 151 rfl B 5 i0 _ 1 1 Tryz.underlying151 hi hy0 hy1 hy2 rfl (by decide) _ (n+1+k) _ rfl (HO.out.alloc _) ⟨wr.heap.size,0,none⟩ 1 1 [.int .u8 0] rfl ?b1 ?b2 ?b3 ?b4 ?b5 ?b6 ?_))
   all_goals try (case b1=>rfl)
   all_goals try (case b2=>exact (Row.of_blk (Blk.new wr _ _) (Nat.zero_le _) 1 1 (zl _)).src)
   all_goals try (case b3=>intro u hu;rw [List.mem_singleton] at hu;rw [hu];rfl)
   all_goals try (case b4=>unfold maxLen;omega)
   all_goals try (case b5=>omega)
   all_goals try (case b6=>have:=hbx.size;simp;omega)
   intro v1 w2 hown hgrow _
   obtain ⟨A3,c3,rfl⟩:=qan hown
   have hlw:=HO.out.lt
   have hbx2:=(hbx.alloc (Nat.le_trans hBw hbx.size) (.cells #[.int .u8 0] 5)).grown hgrow (by have:=hbx.size;simp;omega) (fun b hb=>by have:=(hlw b hb).1;omega)
   have hkt2:KeepT 5 w w2:=(hkt.alloc (.cells #[.int .u8 0] 5)).trans (KeepT.grown (HO.out.alloc _) hgrow)
   have HO2:=zh (show w2.ownsRow _ _ _ _ _ (qaa (l++[128]++List.replicate (k+1) 0)) from by rw [List.replicate_succ',<-List.append_assoc,qbu,List.append_assoc];exact hown)
   clear hown hgrow hlw HO hbx hkt hd
   go_wp2_with fail
   go_roundw
   case rel=>exact ⟨k+1,A3,c3,rfl,by omega,HO2.out,hbx2,hkt2⟩
   case measure=>simp [lenV];omega
  obtain rfl:k=zn n:=by omega
  have hd:((((n:Int)+1+(zn n:Int)) % 64) != 56)=false:=by simp;omega
  obtain ⟨L,hL⟩:∃ L,L=l++[128]++List.replicate (zn n) 0:=⟨_,rfl⟩
  rw [<-hL] at HO
  have HLL:=zh hL
  have hLl:L.length=n+1+zn n:=by rw [hL];simp [HL.out];omega
  clear hL
  have HLl:=zh hLl
  clear hLl
  go_wp2_with fail
  have hHO:=HO.out
  go_loopw [0,19] (fun o j wr=>∃ (k:Nat) (A2:Option Addr) (c2:Nat),o=.slice A2 (n+1+zn n+k) c2/\j=.int .i64 (k:Int)/\k<=8/\wr.ownsRow B 5 1 (.slice A2 (n+1+zn n+k) c2) (n+1+zn n+k) (qaa (L++be8 k (n * 8)))/\Below B w wr/\KeepT 5 w wr) (fun _ j _=>8 - (intOf j).toNat)
  case atStart=>exact ⟨0,A2,c2,rfl,rfl,by omega,by simpa [be8] using hHO,hbx,hkt⟩
  case round =>
   clear HO hbx hkt hHO hd
   obtain ⟨k,A2,c2,rfl,rfl,hk,hown,hbx,hkt⟩:=hrel
   have HO:=zh hown
   clear hown
   by_cases h8:k<8
   case pos =>
    have hd:decide ((k:Int)<8)=true:=by simp;omega
    have hk8:(k:Int)<8:=by omega
    have HU:=zh (show ([.int .u8 ((n:Int) * 8 / 2 ^ (56 - 8 * k) % 256)]:List Value)=qaa [UInt8.ofNat (n * 8 / 256 ^ (7 - k))] by have:=be8_at (n * 8) k h8;rw [Int.natCast_mul] at this;exact this)
    have hw1:IntKind.i64.wrap (8 * (k:Int))=8 * (k:Int):=IntWalk.i64_in _ ⟨by omega,by omega⟩
    have hw2:IntKind.i64.wrap (56 - 8 * (k:Int))=56 - 8 * (k:Int):=IntWalk.i64_in _ ⟨by omega,by omega⟩
    have hw3:(0:Int)<=56 - 8 * (k:Int):=by omega
    have hw4:(56 - 8 * (k:Int)).toNat=56 - 8 * k:=by omega
    go_wp2_with (at_builtin;(refine wpList_append_own _ rfl (.tmp 22) (.tmp 29) 151 rfl B 5 i0 _ 1 1 Tryz.underlying151 hi hy0 hy1 hy2 rfl (by decide) _ (n+1+zn n+k) _ rfl (HO.out.alloc _) ⟨wr.heap.size,0,none⟩ 1 1 [.int .u8 ((n:Int) * 8 / 2 ^ (56 - 8 * k) % 256)] rfl ?d1 ?d2 ?d3 ?d4 ?d5 ?d6 ?_))
    all_goals try (case d1=>rfl)
    all_goals try (case d2=>exact (Row.of_blk (Blk.new wr _ _) (Nat.zero_le _) 1 1 (zl _)).src)
    all_goals try (case d3=>intro u hu;rw [List.mem_singleton] at hu;rw [hu];rfl)
    all_goals try (case d4=>unfold maxLen;omega)
    all_goals try (case d5=>omega)
    all_goals try (case d6=>have:=hbx.size;simp;omega)
    intro v1 w2 hown hgrow _
    obtain ⟨A3,c3,rfl⟩:=qan hown
    have hlw:=HO.out.lt
    have hbx2:=(hbx.alloc (Nat.le_trans hBw hbx.size) (.cells #[.int .u8 ((n:Int) * 8 / 2 ^ (56 - 8 * k) % 256)] 5)).grown hgrow (by have:=hbx.size;simp;omega) (fun b hb=>by have:=(hlw b hb).1;omega)
    have hkt2:KeepT 5 w w2:=(hkt.alloc (.cells #[.int .u8 ((n:Int) * 8 / 2 ^ (56 - 8 * k) % 256)] 5)).trans (KeepT.grown (HO.out.alloc _) hgrow)
    have HO2:=zh hown
    rw [HU.out] at HO2
    have HO3:=zh (show w2.ownsRow _ _ _ _ _ (qaa (L++be8 (k+1) (n * 8))) from by rw [be8_succ,<-List.append_assoc,qbu];exact HO2.out)
    clear hown hgrow hlw HO HO2 hbx hkt hd hw1 hw2 hw3 hw4
    go_wp2_with fail
    go_roundw
    case rel=>exact ⟨k+1,A3,c3,rfl,by go_num,by omega,HO3.out,hbx2,hkt2⟩
    case measure=>simp [intOf];omega
   obtain rfl:k=8:=by omega
   have hd:decide (((8:Nat):Int)<8)=false:=by decide
   go_wp2_with fail
   go_ret
   have hl:padL l=L++be8 8 (n * 8):=by unfold padL;rw [HL.out,HLL.out]
   have hl2:(padL l).length=n+1+zn n+8:=by rw [hl,List.length_append,qml,HLl.out]
   exact ⟨A2,c2,by rw [hl2];rfl,by rw [hl2,hl];exact HO.out,hbx,hkt⟩
theorem qgz {T:TypeId} {t:TypeId} {v:Value} {xs:List Value} (h:w.ownsRow B t k v n xs) (hk:KeepT T w w') (ht:t≠T):w'.ownsRow B t k v n xs:=by
 refine ⟨h.1,?_⟩
 rcases h.2 with hn|⟨g,cap,cur,h1,h2,h3,h4⟩
 ·exact .inl hn
 ·exact .inr ⟨g,cap,cur,h1,h2,hk g t cur ht h3,h4⟩
theorem KeepT.blk {T:TypeId} {cs:Array Value} (h:w.grownBy w' (some g)) (hg:Blk w g T cs):KeepT T w w':=fun g' t cs' ht hB=>by
 refine (h.block g' hB.lt fun he=>?_).trans hB
 injection he with he
 subst he
 have:=hB.symm.trans hg
 injection this with this
 injection this with _ h5 _
 exact ht h5
def adds (P:List UInt8):Nat->List Int
 | 0=>qhl
 | k+1=>addL (adds P k) ((P.drop (64 * k)).take 64)
theorem adds_succ (P:List UInt8) (k:Nat):adds P (k+1)=addL (adds P k) ((P.drop (64 * k)).take 64):=rfl
theorem qin (P:List UInt8):∀ k,(adds P k).length=8
 | 0=>by unfold adds;rfl
 | k+1=>addL_len _ _ (qin P k)
theorem adds_zero (P:List UInt8):adds P 0=qhl:=rfl
attribute [irreducible] adds
def hb (s:List Int) (i:Nat):UInt8:=UInt8.ofNat (woI s (i / 4) / 2 ^ (24 - 8 * (i % 4)) % 256).toNat
theorem hb_at (s:List Int) (i:Nat):IntKind.u8.wrap (woI s (i / 4) / 2 ^ (24 - 8 * (i % 4)))=((hb s i).toNat:Int):=by
 unfold hb
 rw [UInt8.toNat_ofNat',show ∀ z,IntKind.u8.wrap z=z % 256 from fun _=>rfl]
 omega
def hbs (s:List Int) (h:List UInt8):Nat->List UInt8
 | 0=>h
 | i+1=>(hbs s h i).set i (hb s i)
theorem qmt (s:List Int) (h:List UInt8):∀ i,(hbs s h i).length=h.length
 | 0=>rfl
 | i+1=>by unfold hbs;rw [List.length_set];exact qmt s h i
theorem hbs_succ (s:List Int) (h:List UInt8) (i:Nat):hbs s h (i+1)=(hbs s h i).set i (hb s i):=rfl
theorem hbs_zero (s:List Int) (h:List UInt8):hbs s h 0=h:=rfl
theorem hbs_step (T:List Int) (l4:List Value) (h4:l4.length=4) (h:List UInt8) (k:Nat):(l4++qaa (hbs T h k)).toArray.setIfInBounds (4+k) (.int .u8 ((hb T k).toNat:Int))=(l4++qaa (hbs T h (k+1))).toArray:=by
 rw [List.setIfInBounds_toArray,List.set_append_right _ _ (by omega),hbs_succ,show 4+k - l4.length=k by omega]
 simp [qaa]
attribute [irreducible] hbs
def h0:List UInt8:=List.replicate 32 0
theorem qaf:h0.length=32:=rfl
def shaL (l:List UInt8):List UInt8:=hbs (adds (padL l) ((padL l).length / 64)) h0 32
theorem qbh (l:List UInt8):(shaL l).length=32:=qmt _ _ _
attribute [irreducible] h0 shaL
theorem sum_ (B x:Nat) (l:List UInt8) (A:Option Addr) (n c:Nat) (w:World) (hX:Blk w x 375 (([.slice A n c,.int .u32 0,.int .i32 1,.int .u32 0]:List Value)++qaa h0).toArray) (hB:w.ownsRow B 5 1 (.slice A n c) n (qaa l)) (hl:l.length=n) (hn:n<=400000) (hBw:B<=w.heap.size) (hBx:B<=x):
  Calls Tryz.prog 229 #[.pointer (some ⟨x,0,none⟩)] w fun e w'=>e=.returned (.tuple #[])/\∃ A' c',Blk w' x 375 (([.slice A' n c',.int .u32 0,.int .i32 1,.int .u32 0]:List Value)++qaa (shaL l)).toArray/\Below B w w':=by
 have HO:=zh hB
 have HL:=zh hl
 have HX:=zh hX
 clear hB hl hX
 have HG:=zh (begun_ w)
 have hz8:=zero8
 go_enter Tryz.func229,Tryz.ntmps229
 go_wp2_with fail
 refine HG.out.mono ?_
 rintro e w1 ⟨rfl,hb1⟩
 clear HG
 obtain ⟨S,hS⟩:∃ S,qhl=S:=⟨_,rfl⟩
 have hSl:S.length=8:=by rw [<-hS];rfl
 have HS:=zh hS
 rw [hS]
 clear hS
 have hs8:=qii S hSl
 have C7:=Blk.new w1 388 (qag z8).toArray
 have hth7:=Blk.there (o:=0) (n:=8) C7 (by simp [lenW,z8])
 obtain ⟨BT,hg7⟩:=Blk.lay (qag S) 0 C7 (by rw [lenW,hSl];simp [lenW,z8])
 rw [qai _ _ (by rw [lenW,hSl];simp [lenW,z8])] at BT
 have hb7:Below w1.heap.size w1 ((w1.alloc (.cells (qag z8).toArray 388)).setCells w1.heap.size 0 (qag S)):=((zb _ _).alloc (zl _) _).grown hg7 (by simp) (fun k hk=>by injection hk with hk;omega)
 clear hg7 C7
 go_upto_region 1 with ((with_reducible refine sS 2 ?_);(refine wpList_store_mid rfl 388 _ _ rfl w1.heap.size 0 (qag S).toArray rfl rfl ?s5 ?s6 (all_oneCell_toArray (oneW _)) ?_))
 case s5=>exact (show (qag S).toArray.size=8 by simp [lenW,hSl]) ▸ hth7
 case s6=>rw [List.size_toArray];exact hs8
 generalize (w1.alloc (.cells (qag z8).toArray 388)).setCells w1.heap.size 0 (qag S)=W7 at *
 have hxl:=HX.out.lt
 obtain ⟨gs,hgs⟩:∃ g,w1.heap.size=g:=⟨_,rfl⟩
 have hgsB:B<=gs:=by have:=hb1.size;omega
 have hxg:x≠gs:=by have:=hb1.size;omega
 have BX:=(HX.out.ext hb1).ext hb7
 have HO7:=zh (qay (qay HO.out hb1) hb7)
 have hbw7:=(zm hb1 hBw).trans (zm hb7 (Nat.le_trans hBw hb1.size))
 rw [hgs] at BT ⊢
 clear hgs hb1 hb7 hth7 HO HX hz8
 have HP:=zh (padded_ B l A n c W7 HO7.out HL.out (by omega) (Nat.le_trans hBw hbw7.size))
 obtain ⟨P,hP⟩:∃ P,padL l=P:=⟨_,rfl⟩
 have HPP:=zh hP
 obtain ⟨q,hq⟩:∃ q,P.length=64 * q:=⟨_,by rw [<-hP];exact padL_len l⟩
 have hq0:0<q:=by
  have:0<P.length:=by rw [<-hP];simp [padL];omega
  omega
 have hq1:64 * q<=400100:=by rw [<-hq,<-hP];have:=HL.out;simp [padL,qml,zn];omega
 rw [hP] at HP
 have q0:=BX.cell 0
 have HQ:=zh hq
 clear hP hq
 go_wp2_with fail
 refine HP.out.mono ?_
 rintro e w2 ⟨A2,c2,rfl,hown,hb2,hkt2⟩
 rw [HQ.out] at hown ⊢
 have BX2:=hkt2 _ _ _ (by decide) BX
 have BT2:=hkt2 _ _ _ (by decide) BT
 have hbw2:=hbw7.trans hb2
 obtain ⟨bp,rfl⟩:∃ bp,A2=some ⟨bp,0,none⟩:=by
  rcases hown.2 with ⟨_,h⟩|⟨g,_,_,h,_⟩
  ·omega
  ·injection h with h _ _;exact ⟨g,h⟩
 have HO:=zh hown
 clear hown BX BT hkt2 hb2 hbw7 q0 HP HO7
 have ha0:adds P 0=S:=by rw [adds_zero,HS.out]
 rw [<-ha0] at BT2
 go_wp2_with fail
 go_loopw [3] (fun b wr=>∃ (k r off c':Nat),Hid (q=k+r)/\b=.slice (some ⟨bp,off,none⟩) (64 * r) c'/\64 * r<=c'/\64 * r<=400100/\Hid (0<r->off=64 * k)/\Blk wr gs 388 (qag (adds P k)).toArray/\Blk wr x 375 (([.slice A n c,.int .u32 0,.int .i32 1,.int .u32 0]:List Value)++qaa h0).toArray/\Hid (wr.ownsRow B 5 1 (.slice (some ⟨bp,0,none⟩) (64 * q) c2) (64 * q) (qaa P))/\Below B w wr) (fun b _=>lenV b)
 case atStart=>exact ⟨0,q,0,c2,zh (by omega),rfl,(By.of_own HO.out).1.le_,hq1,zh (fun _=>rfl),BT2,BX2,HO,hbw2⟩
 case round =>
  clear HO BT2 BX2 hbw2 ha0
  obtain ⟨k,r,off,c',HK,rfl,hrc,hr4,HOF,BT,BX,HO,hbw⟩:=hrel
  rcases Nat.eq_zero_or_pos r with rfl|hr
  ·have hd:decide (((64 * 0:Nat):Int) > 0)=false:=by decide
   obtain rfl:q=k:=by have:=HK.out;omega
   obtain ⟨T,hT⟩:∃ T,adds P q=T:=⟨_,rfl⟩
   have hTl:T.length=8:=by rw [<-hT];exact qin P q
   have HT:=zh hT
   rw [hT] at BT
   clear hT HO
   go_wp2_with fail
   rw [Nat.mul_zero]
   have hBX0:Blk wr x 375 (([.slice A n c,.int .u32 0,.int .i32 1,.int .u32 0]:List Value)++qaa (hbs T h0 0)).toArray:=by rw [hbs_zero];exact BX
   go_loopw [20] (fun i wr=>∃ k:Nat,i=.int .i64 k/\k<=32/\Blk wr gs 388 (qag T).toArray/\Blk wr x 375 (([.slice A n c,.int .u32 0,.int .i32 1,.int .u32 0]:List Value)++qaa (hbs T h0 k)).toArray/\Below B w wr) (fun i _=>32 - (intOf i).toNat)
   case atStart=>exact ⟨0,rfl,by omega,BT,hBX0,hbw⟩
   case round =>
    clear BT BX hBX0 hbw
    obtain ⟨k,rfl,hk,BT,BX,hbw⟩:=hrel
    rcases Nat.lt_or_ge k 32 with hlt|hge
    ·have hd:decide ((k:Int)<32)=true:=by simp;omega
     have hk32:(k:Int)<32:=by omega
     have hw0:((k:Int)).tmod 4=(k:Int) % 4:=Int.tmod_eq_emod_of_nonneg (by omega)
     have hw1:IntKind.i64.wrap ((k:Int) / 4)=(k:Int) / 4:=IntWalk.i64_in _ ⟨by omega,by omega⟩
     have hw2:IntKind.i64.wrap (8 * ((k:Int) % 4))=8 * ((k:Int) % 4):=IntWalk.i64_in _ ⟨by omega,by omega⟩
     have hw3:IntKind.i64.wrap (24 - 8 * ((k:Int) % 4))=24 - 8 * ((k:Int) % 4):=IntWalk.i64_in _ ⟨by omega,by omega⟩
     have hn1:(0:Int)<=(k:Int) / 4:=by omega
     have hn2:(k:Int) / 4<8:=by omega
     have hn3:(0:Int)<=24 - 8 * ((k:Int) % 4):=by omega
     have ht1:((k:Int) / 4).toNat=k / 4:=by omega
     have ht2:(24 - 8 * ((k:Int) % 4)).toNat=24 - 8 * (k % 4):=by omega
     go_wp2_with fail
     have D:∀ w',Below wr.heap.size wr.drew w'->w'.cell? ⟨gs,k / 4,none⟩=some (.int .u32 (woI T (k / 4))):=fun w' h =>
      qar (BT.ext (zt (zb _ _).drew h)) (k / 4) (by omega)
     refine r3 (S:=fun w'=>Below wr.heap.size wr.drew w') [(0,true),(1,true),(2,true),(3,true),(4,true),(5,true),(6,true),(7,true),(8,true),(9,true),(10,true),(11,true),(12,true),(13,true),(14,true)] [(15,false)] (zb _ _) ?_
     repeat ((first|refine pT ?_|refine pF ?_);try go_frame)
     refine qak ?_
     clear D hw0 hw1 hw2 hw3 hn1 hn2 hn3 ht1 ht2
     rw [hb_at]
     have hlk:(hbs T h0 k).length=32:=by rw [qmt];exact qaf
     have q:∃ u,wr.drew.cell? ⟨x,4+k,none⟩=some u:=by
      rw [(Blk.drew BX).cell (4+k)]
      exact ⟨_,Array.getElem?_eq_getElem (by simp [lenB,hlk];omega)⟩
     obtain ⟨u,q⟩:=q
     have f:=(Blk.drew BX).frozen (4+k)
     refine pD fun K hK=>?_;go_simp
     clear q f
     have hg4:=qac wr.drew x (4+k) (.int .u8 ((hb T k).toNat:Int))
     have BX4:=Blk.set_ (Blk.drew BX) (4+k) (.int .u8 ((hb T k).toNat:Int))
     rw [hbs_step T _ rfl] at BX4
     have BT4:=Blk.keep (F:=fun b=>b≠x) (Blk.drew BT) (Keep.grown hg4 (fun g hg=>by injection hg with hg;simp [hg])) (Ne.symm hxg)
     have hbw4:=(hbw.drew).grown hg4 (Nat.le_trans hBw hbw.size) (fun k hk=>by injection hk with hk;omega)
     have HZ:=zh (za BT4 (za BX4 hbw4))
     clear BT4 BX4 hg4 hbw4 BT BX hbw
     refine hK.out _ _ trivial (qad ?_)
     clear hK K
     go_wp2
     go_roundw
     case rel=>exact ⟨k+1,by go_num,by omega,HZ.out⟩
     case measure=>simp [intOf];omega
    ·obtain rfl:k=32:=by omega
     have hd:decide (((32:Nat):Int)<32)=false:=by decide
     go_wp2_with fail
     first|go_end0|refine bodyPost_ret (results_none rfl _ _ _) rfl ?_
     exact ⟨rfl,A,c,by unfold shaL;rw [HPP.out,show P.length / 64=q by have:=HQ.out;omega,HT.out];exact BX,hbw⟩
  ·obtain rfl:off=64 * k:=HOF.out hr
   clear HOF
   obtain ⟨r1,rfl⟩:∃ r1,r=r1+1:=⟨r - 1,by omega⟩
   have hPd:P.length=64 * k+(64+(64 * r1)):=by have:=HQ.out;have:=HK.out;omega
   have hBy:=By.of_own HO.out
   rw [show P=P.take (64 * k)++((P.drop (64 * k)).take 64++(P.drop (64 * k)).drop 64) by rw [List.take_append_drop,List.take_append_drop]] at hBy
   have hl1:(P.take (64 * k)).length=64 * k:=by rw [List.length_take];omega
   have hl2:((P.drop (64 * k)).take 64).length=64:=by rw [List.length_take,List.length_drop];omega
   have hmid:=By.mid hBy c' (by omega)
   rw [hl1,hl2,Nat.zero_add] at hmid
   have HM:=zh hmid
   clear hBy hmid hl1 hl2 hPd
   obtain ⟨T,hT⟩:∃ T,adds P k=T:=⟨_,rfl⟩
   have hTl:T.length=8:=by rw [<-hT];exact qin P k
   have HT:=zh hT
   rw [hT] at BT
   clear hT
   have hts:=qii T hTl
   have h64:(64:Int)<=c':=by omega
   have hd:decide ((0:Int)<64 * ((r1:Int)+1))=true:=by simp;omega
   go_wp2_with fail
   refine r3 (S:=fun w'=>Below wr.heap.size wr.drew w') [(0,true),(1,true),(2,true),(3,false)] [(4,false)] (zb _ _) ?_
   refine qas rfl rfl (qae rfl) (fun w' hS=>qba 388 (.tmp 2) rfl gs 0 rfl (qag T) _ (Blk.whole ((Blk.drew BT).ext hS)) Tryz.underlying388 rfl hts) ?_
   go_frame
   repeat ((first|refine pT ?_|refine pF ?_);try go_frame)
   have HA:=zh (add_ wr.drew (some ⟨bp,64 * k,none⟩) c' ((P.drop (64 * k)).take 64) T hTl (HM.out.ext (zb _ _).drew))
   refine pD fun K hK=>?_;go_simp
   refine HA.out.mono ?_
   rintro e w4 ⟨rfl,hb4⟩
   refine hK.out _ _ hb4 ?_
   clear hK K HA
   obtain ⟨U,hU⟩:∃ U,addL T ((P.drop (64 * k)).take 64)=U:=⟨_,rfl⟩
   have hUk:adds P (k+1)=U:=by rw [adds_succ,HT.out,hU]
   have hUl:U.length=8:=by rw [<-hUk];exact qin _ _
   rw [hU]
   have HU:=zh hUk
   clear hU hUk
   have hus:=qii U hUl
   have BT4:=(Blk.drew BT).ext hb4
   have BX4:=(Blk.drew BX).ext hb4
   have HO4:=zh (qay (qay HO.out (zb _ _).drew) hb4)
   have hbw4:=hbw.drew.trans (zm hb4 (show B<=wr.drew.heap.size from Nat.le_trans hgsB (Nat.le_of_lt BT.lt)))
   refine qak ?_
   have hth:=Blk.there (o:=0) (n:=8) BT4 (by rw [lenW,hTl];omega)
   refine qaj rfl (qae rfl) (fun K hK=>?_)
   refine qao 388 (.tmp 2) (.tmp 19) rfl rfl gs 0 (qag U) rfl rfl (by rw [lenW,hUl];exact hth) hus (oneW _) ?_
   refine hK.out _ _ trivial (qad ?_)
   clear hK K hth
   obtain ⟨BU,hgU⟩:=Blk.lay (qag U) 0 BT4 (by rw [lenW,lenW,hTl,hUl];omega)
   rw [qai _ _ (by rw [lenW,lenW,hTl,hUl])] at BU
   have hkU:=KeepT.blk hgU BT4
   have BX5:=hkU _ _ _ (by decide) BX4
   have HO5:=zh (qgz HO4.out hkU (by decide))
   have hbw5:=hbw4.grown hgU (Nat.le_trans hBw hbw4.size) (fun k hk=>by injection hk with hk;omega)
   generalize w4.setCells gs 0 (qag U)=W5 at *
   clear hkU hgU BT4 BX4 HO4 hbw4 hb4 BT BX HO hbw HM hd
   by_cases hc:c'=64
   ·subst hc
    go_wp2_with fail
    obtain rfl:r1=0:=by omega
    exact ⟨⟨k+1,0,_,_,zh (by have:=HK.out;omega),rfl,by omega,by omega,zh (fun h=>by omega),by rw [HU.out];exact BU,BX5,HO5,hbw5⟩,by simp [lenV]⟩
   ·go_wp2_with fail
    exact ⟨⟨k+1,r1,_,_,zh (by have:=HK.out;omega),by rw [show 64 * (r1+1) - 64=64 * r1 by omega],by omega,by omega,zh (fun _=>by omega),by rw [HU.out];exact BU,BX5,HO5,hbw5⟩,by simp [lenV];omega⟩
theorem qpd (A:Option Addr) (n c:Nat):Tryz.prog.built 375 [(0,.slice A n c)]=some (([.slice A n c,.int .u32 0,.int .i32 0,.int .u32 0]:List Value)++qaa h0).toArray:=by kernel_rfl
theorem qcn (w:World):(zeroValue 76).run Tryz.prog w=.ok (.agg (qaa h0).toArray) w:=by kernel_rfl
theorem qbq (l:List UInt8) (h:l.length=32):(Tryz.prog.info? 76).map (·.size)=some (qaa l).length:=by rw [lenB,h];kernel_rfl
theorem sumOf_ (w:World) (ps:List Part) (l:List UInt8) (g m:Nat) (hm:ps.length=m) (hg:g<w.heap.size) (hc:∀ (i:Nat) p,ps[i]? = some p->w.cell? ⟨g,i,none⟩=some (.slice p.A p.n p.c)/\PartOk w p) (hN:sumN ps=l.length) (hcs:allC ps=qaa l) (hl:l.length<=400000) (hm2:m<=1000):
  Calls Tryz.prog 187 #[.slice (some ⟨g,0,none⟩) m m] w fun e w'=>e=.returned (.agg (qaa (shaL l)).toArray)/\Below w.heap.size w w':=by
 have HC:=zh (qdl ps g m (w.alloc (.cells (qaa h0).toArray 76)) hm (by simp;omega) (fun i p hp=>⟨(Below.cell ((zb _ _).alloc (zl _) _) hg).trans (hc i p hp).1,(hc i p hp).2.ext ((zb _ _).alloc (zl _) _)⟩) (by omega) hm2)
 rw [hN,hcs] at HC
 have HL:=zh hl
 clear hc hN hcs hm hl
 have hz:=qcn
 go_enter Tryz.func187,Tryz.ntmps187
 go_upto_region 1 with fail
 have hb1:Below w.heap.size w (w.alloc (.cells (qaa h0).toArray 76)):=(zb _ _).alloc (zl _) _
 have BR:=Blk.new w 76 (qaa h0).toArray
 generalize w.alloc (.cells (qaa h0).toArray 76)=w1 at *
 obtain ⟨gr,hgr⟩:∃ g,w.heap.size=g:=⟨_,rfl⟩
 rw [hgr] at BR hb1 hg ⊢
 have hwg:w.heap.size<=gr:=by omega
 clear hgr
 go_wp2_with fail
 refine HC.out.mono ?_
 rintro e w2 ⟨A,c,rfl,hown,hb2⟩
 have HO:=zh hown
 have BR2:=BR.ext hb2
 have hbw2:=hb1.trans (zm hb2 (Nat.le_of_lt BR.lt))
 clear hown HC
 go_upto_region 2 with ((with_reducible show wpList _ _ _ (Oper.mk (some 6) (Op.build _ _) _ _ _ _::_) _ _);(refine qbt rfl 375 _ rfl (cs:=(([.slice A l.length c,.int .u32 0,.int .i32 0,.int .u32 0]:List Value)++qaa h0).toArray) rfl (qpd _ _ _) (some 6) rfl ?_))
 have hb3:Below w2.heap.size w2 (w2.alloc (.cells (([.slice A l.length c,.int .u32 0,.int .i32 0,.int .u32 0]:List Value)++qaa h0).toArray 375)):=(zb _ _).alloc (zl _) _
 have BX:=Blk.new w2 375 (([.slice A l.length c,.int .u32 0,.int .i32 0,.int .u32 0]:List Value)++qaa h0).toArray
 change Code.wp _ _ _ _ (w2.alloc (.cells (([.slice A l.length c,.int .u32 0,.int .i32 0,.int .u32 0]:List Value)++qaa h0).toArray 375))
 generalize w2.alloc (.cells (([.slice A l.length c,.int .u32 0,.int .i32 0,.int .u32 0]:List Value)++qaa h0).toArray 375)=w3 at *
 have BR3:=BR2.ext hb3
 have HO3:=zh (qay HO.out hb3)
 have hbw3:=hbw2.trans (zm hb3 (Nat.le_of_lt BR2.lt))
 have hB3:w1.heap.size<=w2.heap.size:=hb2.size
 have hgx:w1.heap.size<=w2.heap.size/\gr<w1.heap.size:=⟨hb2.size,BR.lt⟩
 obtain ⟨gx,hgxe⟩:∃ g,w2.heap.size=g:=⟨_,rfl⟩
 rw [hgxe] at BX hgx ⊢
 clear hb3 BR2 HO hbw2 hgxe hB3 BR hb2
 have q1:=BX.cell 1
 have q2:=BX.cell 2
 have f2:=BX.frozen 2
 have BX4:=Blk.set_ BX 2 (.int .i32 1)
 have BX4':Blk (w3.setCell ⟨gx,2,none⟩ (.int .i32 1)) gx 375 (([.slice A l.length c,.int .u32 0,.int .i32 1,.int .u32 0]:List Value)++qaa h0).toArray:=BX4
 have hg4:=qac w3 gx 2 (.int .i32 1)
 have hkT:KeepT 375 w3 (w3.setCell ⟨gx,2,none⟩ (.int .i32 1)):=KeepT.blk hg4 BX
 have HO4:=zh (qgz HO3.out hkT (by decide))
 have BR4:=hkT _ _ _ (by decide) BR3
 have hbw4:=hbw3.grown hg4 (Nat.le_trans (Nat.le_of_lt hgx.2) (Nat.le_trans hgx.1 (Nat.le_of_lt BX.lt))) (fun k hk=>by injection hk with hk;omega)
 have HU:=zh (sum_ w1.heap.size gx l A l.length c _ BX4' HO4.out rfl HL.out (Nat.le_trans hgx.1 (Nat.le_of_lt BX4'.lt)) hgx.1)
 have HD:=zh (onceG (q:=gx) (o:=1) (f:=229) (a1:=#[.pointer (some ⟨gx,0,none⟩)]) (a2:=#[]) (R:=fun w'=>∃ A' c',Blk w' gx 375 (([.slice A' l.length c',.int .u32 0,.int .i32 1,.int .u32 0]:List Value)++qaa (shaL l)).toArray/\Below w1.heap.size (w3.setCell ⟨gx,2,none⟩ (.int .i32 1)) w') q1 q2 f2 (enters_of Tryz.func229 (by kernel_rfl) rfl) (by rintro w' ⟨A',c',hB,_⟩;exact ⟨hB.cell 1,hB.cell 2,hB.frozen 1,hB.frozen 2⟩) HU.out)
 clear q1 q2 f2 BX4 BX4' HU HO4 HO3 BX hg4 hkT
 obtain ⟨w4,hw4⟩:∃ W,W=w3.setCell ⟨gx,2,none⟩ (.int .i32 1):=⟨_,rfl⟩
 rw [<-hw4] at HD BR4 hbw4
 clear hw4
 go_wp2_with fail
 refine HD.out.mono ?_
 rintro e w' ⟨w5,rfl,⟨A',c',BX5,hb5⟩,rfl⟩
 have BX6:=(Blk.drew BX5).set_ 1 (.int .u32 1)
 have BX7:Blk ((w5.drew.setCell ⟨gx,1,none⟩ (.int .u32 1)).setCell ⟨gx,2,none⟩ (.int .i32 0)) gx 375 (([.slice A' l.length c',.int .u32 1,.int .i32 0,.int .u32 0]:List Value)++qaa (shaL l)).toArray:=BX6.set_ 2 (.int .i32 0)
 have hg6:=qah (qac w5.drew gx 1 (.int .u32 1)) (qac _ gx 2 (.int .i32 0))
 have hk6:=KeepT.blk hg6 (Blk.drew BX5)
 have BR5:Blk w5 gr _ _:=(hb5.block gr hgx.2).trans BR4
 have BR7:=hk6 _ _ _ (by decide) (Blk.drew BR5)
 have hbw5:=hbw4.trans (zm hb5 (Nat.le_of_lt hgx.2))
 have hbw7:=hbw5.drew.grown hg6 (Nat.le_of_lt (Blk.drew BR5).lt) (fun k hk=>by injection hk with hk;omega)
 generalize (w5.drew.setCell ⟨gx,1,none⟩ (.int .u32 1)).setCell ⟨gx,2,none⟩ (.int .i32 0)=w7 at *
 clear hg6 hk6 BR5 BR4 hbw5 hb5 BX6 BX5 hbw4 HD BR3 hbw3
 obtain ⟨H,hH⟩:∃ H,shaL l=H:=⟨_,rfl⟩
 have hHl:H.length=32:=by rw [<-hH];exact qbh l
 have HH:=zh hH
 rw [hH] at BX7
 clear hH
 have hsz:=qbq H hHl
 have hrg:=Blk.range (o:=4) (vs:=qaa H) BX7 (by simp)
 have hth:=Blk.there (o:=0) (n:=32) BR7 (by rw [lenB,qaf];omega)
 go_wp2_with (first|((with_reducible refine sT 17 ?_);(refine wpList_load_mid rfl 76 _ rfl gx 4 rfl (qaa H) _ hrg Tryz.underlying76 rfl hsz ?_)) |
  ((with_reducible show wpList _ _ _ (Oper.mk none _ _ _ _ _::_) _ _);(refine wpList_store_mid rfl 76 _ _ rfl gr 0 (qaa H).toArray rfl rfl ?s1 ?s2 (all_oneCell_toArray (oneB _)) ?_)))
 case s1=>exact (show (qaa H).toArray.size=32 by simp [lenB,hHl]) ▸ hth
 case s2=>exact (show (qaa H).toArray.size=(qaa H).length by simp) ▸ hsz
 obtain ⟨B8,hg8⟩:=Blk.lay (qaa H) 0 BR7 (by rw [lenB,lenB,qaf,hHl];omega)
 rw [qai _ _ (by rw [lenB,lenB,qaf,hHl])] at B8
 have hbw8:=hbw7.grown hg8 (Nat.le_of_lt BR7.lt) (fun k hk=>by injection hk with hk;omega)
 generalize w7.setCells gr 0 (qaa H)=w8 at *
 clear hth BR7 BX7 hg8 hrg
 go_wp2
 exact bodyPost_ret (v:=.agg (qaa H).toArray) (results_cell_row rfl _ _ gr _ _ (0,0) _ rfl B8 Tryz.underlying76 rfl (by rw [List.size_toArray];exact hsz)) rfl ⟨by rw [HH.out],zm hbw8 hwg⟩
abbrev Val:=Int × Int × ByteArray
abbrev ColD:=ByteArray × Int × Bool
abbrev RowD:=List Val
abbrev Sch:=ByteArray × List ColD × Int × Bool
abbrev Tab:=Sch × List RowD
abbrev Chg:=ByteArray × Int × RowD
abbrev Mrk:=ByteArray × Int
abbrev Wrk:=Int × List Chg × List Mrk
abbrev Hld:=Int × ByteArray × Bool
abbrev DBd:=List Tab × List Wrk × List Hld × List Hld
def eVal:Enc Val:=eInt.pair (eInt.pair eStr)
def eCol:Enc ColD:=eStr.pair (eInt.pair eBool)
def eRow:Enc RowD:=eSl eVal
def eSch:Enc Sch:=eStr.pair ((eSl eCol).pair (eInt.pair eBool))
def Fine (A:Option Addr):Prop:=A=none\/∃ b off,A=some ⟨b,off,none⟩
def eSlF {α:Type} (E:Enc α):Enc (List α) :=
 ⟨1,fun w F cs xs=>∃ A n c,cs=[.slice A n c]/\Fine A/\Sl E w F A n c xs,fun ⟨A,n,c,e,_⟩=>by rw [e];rfl,fun ⟨A,n,c,e,_⟩ u hu=>by rw [e] at hu;simp at hu;subst hu;rfl,
  fun ⟨A,n,c,e,hf,h⟩ k=>⟨A,n,c,e,hf,h.keep k⟩,fun ⟨A,n,c,e,hf,h⟩ k=>⟨A,n,c,e,hf,h.mono k⟩⟩
theorem OwnE.fine {α:Type} {E:Enc α} {t:TypeId} {xs:List α} (h:OwnE E t w B F A n c xs):Fine A:=by
 obtain ⟨css,h1,_,_⟩:=h
 rcases h1.2 with ⟨z,_⟩|⟨g',cap,cur,z,_⟩
 ·injection z with z;exact .inl z
 ·injection z with z;exact .inr ⟨g',0,z⟩
def eTab:Enc Tab:=eSch.pair (eSlF eRow)
def eChg:Enc Chg:=eStr.pair (eInt.pair eRow)
def eMrk:Enc Mrk:=eStr.pair eInt
def eWrk:Enc Wrk:=eInt.pair ((eSl eChg).pair (eSl eMrk))
def eHld:Enc Hld:=eInt.pair (eStr.pair eBool)
def eDB:Enc DBd:=(eSl eTab).pair ((eSl eWrk).pair ((eSl eHld).pair (eSl eHld)))
section
variable {w:World} {F:qab} {cs:List Value}
theorem qph {x:RowD} (h:eRow.rel w F cs x):∃ A n c,cs=[.slice A n c]/\Sl eVal w F A n c x:=h
theorem eRow_mk {x:RowD} (h:Sl eVal w F A n c x):eRow.rel w F [.slice A n c] x:=⟨A,n,c,rfl,h⟩
theorem qli {x:Sch} (h:eSch.rel w F cs x):∃ A n c,cs=[.string x.1,.slice A n c,.int .i64 x.2.2.1,.bool x.2.2.2]/\Sl eCol w F A n c x.2.1:=by
 obtain ⟨_,_,rfl,rfl,_,_,rfl,⟨A,n,c,rfl,h⟩,_,_,rfl,rfl,rfl⟩:=h
 exact ⟨A,n,c,rfl,h⟩
theorem qmp {x:Sch} (h:Sl eCol w F A n c x.2.1):eSch.rel w F [.string x.1,.slice A n c,.int .i64 x.2.2.1,.bool x.2.2.2] x :=
 ⟨[_],_,rfl,rfl,[_],_,rfl,⟨A,n,c,rfl,h⟩,[_],[_],rfl,rfl,rfl⟩
theorem qne {x:Tab} (h:eTab.rel w F cs x):∃ A n c A2 n2 c2,cs=[.string x.1.1,.slice A n c,.int .i64 x.1.2.2.1,.bool x.1.2.2.2,.slice A2 n2 c2]/\Sl eCol w F A n c x.1.2.1/\Sl eRow w F A2 n2 c2 x.2/\Fine A2:=by
 obtain ⟨_,_,rfl,h1,⟨A2,n2,c2,rfl,hf,h2⟩⟩:=h
 obtain ⟨A,n,c,rfl,h3⟩:=qli h1
 exact ⟨A,n,c,A2,n2,c2,rfl,h3,h2,hf⟩
theorem qbo {x:Tab} (h:eTab.rel w F cs x):∃ A n c A2 n2 c2,cs=[.string x.1.1,.slice A n c,.int .i64 x.1.2.2.1,.bool x.1.2.2.2,.slice A2 n2 c2]/\Sl eCol w F A n c x.1.2.1/\Sl eRow w F A2 n2 c2 x.2:=by
 obtain ⟨A,n,c,A2,n2,c2,e,h1,h2,_⟩:=qne h
 exact ⟨A,n,c,A2,n2,c2,e,h1,h2⟩
theorem qho {x:Tab} (h:Sl eCol w F A n c x.1.2.1) (h2:Sl eRow w F A2 n2 c2 x.2) (hf:Fine A2):eTab.rel w F [.string x.1.1,.slice A n c,.int .i64 x.1.2.2.1,.bool x.1.2.2.2,.slice A2 n2 c2] x :=
 ⟨_,[_],rfl,qmp h,⟨A2,n2,c2,rfl,hf,h2⟩⟩
theorem qdh {x:Chg} (h:eChg.rel w F cs x):∃ A n c,cs=[.string x.1,.int .i64 x.2.1,.slice A n c]/\Sl eVal w F A n c x.2.2:=by
 obtain ⟨_,_,rfl,rfl,_,_,rfl,rfl,A,n,c,rfl,h⟩:=h
 exact ⟨A,n,c,rfl,h⟩
theorem qfi {x:Chg} (h:Sl eVal w F A n c x.2.2):eChg.rel w F [.string x.1,.int .i64 x.2.1,.slice A n c] x :=
 ⟨[_],_,rfl,rfl,[_],_,rfl,rfl,A,n,c,rfl,h⟩
theorem qdc {x:Wrk} (h:eWrk.rel w F cs x):∃ A n c A2 n2 c2,cs=[.int .i64 x.1,.slice A n c,.slice A2 n2 c2]/\Sl eChg w F A n c x.2.1/\Sl eMrk w F A2 n2 c2 x.2.2:=by
 obtain ⟨_,_,rfl,rfl,_,_,rfl,⟨A,n,c,rfl,h⟩,A2,n2,c2,rfl,h2⟩:=h
 exact ⟨A,n,c,A2,n2,c2,rfl,h,h2⟩
theorem qkf {x:Wrk} (h:Sl eChg w F A n c x.2.1) (h2:Sl eMrk w F A2 n2 c2 x.2.2):eWrk.rel w F [.int .i64 x.1,.slice A n c,.slice A2 n2 c2] x :=
 ⟨[_],_,rfl,rfl,[_],_,rfl,⟨A,n,c,rfl,h⟩,A2,n2,c2,rfl,h2⟩
theorem qav {x:DBd} (h:eDB.rel w F cs x):∃ A n c A2 n2 c2 A3 n3 c3 A4 n4 c4,cs=[.slice A n c,.slice A2 n2 c2,.slice A3 n3 c3,.slice A4 n4 c4]/\Sl eTab w F A n c x.1/\Sl eWrk w F A2 n2 c2 x.2.1/\Sl eHld w F A3 n3 c3 x.2.2.1/\Sl eHld w F A4 n4 c4 x.2.2.2:=by
 obtain ⟨_,_,rfl,⟨A,n,c,rfl,h⟩,_,_,rfl,⟨A2,n2,c2,rfl,h2⟩,_,_,rfl,⟨A3,n3,c3,rfl,h3⟩,A4,n4,c4,rfl,h4⟩:=h
 exact ⟨A,n,c,A2,n2,c2,A3,n3,c3,A4,n4,c4,rfl,h,h2,h3,h4⟩
theorem qeg {x:DBd} {n4:Nat} (h:Sl eTab w F A n c x.1) (h2:Sl eWrk w F A2 n2 c2 x.2.1) (h3:Sl eHld w F A3 n3 c3 x.2.2.1) (h4:Sl eHld w F A4 n4 c4 x.2.2.2):eDB.rel w F [.slice A n c,.slice A2 n2 c2,.slice A3 n3 c3,.slice A4 n4 c4] x :=
 ⟨[_],_,rfl,⟨A,n,c,rfl,h⟩,[_],_,rfl,⟨A2,n2,c2,rfl,h2⟩,[_],_,rfl,⟨A3,n3,c3,rfl,h3⟩,A4,n4,c4,rfl,h4⟩
end
structure Flat {α:Type} (E:Enc α):Prop where
 any:∀ {w F cs x},E.rel w F cs x->∀ w' G,E.rel w' G cs x
theorem flat_val:Flat eVal:=⟨by
 rintro w F cs x ⟨_,_,rfl,rfl,_,_,rfl,rfl,rfl⟩ w' G
 exact ⟨[_],_,rfl,rfl,[_],[_],rfl,rfl,rfl⟩⟩
theorem flat_col:Flat eCol:=⟨by
 rintro w F cs x ⟨_,_,rfl,rfl,_,_,rfl,rfl,rfl⟩ w' G
 exact ⟨[_],_,rfl,rfl,[_],[_],rfl,rfl,rfl⟩⟩
theorem flat_hld:Flat eHld:=⟨by
 rintro w F cs x ⟨_,_,rfl,rfl,_,_,rfl,rfl,rfl⟩ w' G
 exact ⟨[_],_,rfl,rfl,[_],[_],rfl,rfl,rfl⟩⟩
theorem flat_mrk:Flat eMrk:=⟨by
 rintro w F cs x ⟨_,_,rfl,rfl,rfl⟩ w' G
 exact ⟨[_],_,rfl,rfl,rfl⟩⟩
def Copied {α:Type} (E:Enc α) (t:TypeId) (x:List α) (w:World) (e:Ending) (w':World):Prop:=∃ A c,e=.returned (.slice A x.length c)/\OwnE E t w' w.heap.size (fun b=>w.heap.size<=b/\A≠some ⟨b,0,none⟩) A x.length c x/\Below w.heap.size w w'
def CopiedT {α:Type} (E:Enc α) (t:TypeId) (x:List α) (w:World) (e:Ending) (w':World):Prop:=∃ A,e=.returned (.slice A x.length x.length)/\OwnE E t w' w.heap.size (fun b=>w.heap.size<=b/\A≠some ⟨b,0,none⟩) A x.length x.length x/\Below w.heap.size w w'
theorem CopiedT.copied {α:Type} {E:Enc α} {t:TypeId} {x:List α} {e:Ending} (h:CopiedT E t x w e w'):Copied E t x w e w':=by
 obtain ⟨A,h1,h2,h3⟩:=h
 exact ⟨A,_,h1,h2,h3⟩
def eSlT {α:Type} (E:Enc α):Enc (List α) :=
 ⟨1,fun w F cs xs=>∃ A n,cs=[.slice A n n]/\Sl E w F A n n xs,fun ⟨A,n,e,_⟩=>by rw [e];rfl,fun ⟨A,n,e,_⟩ u hu=>by rw [e] at hu;simp at hu;subst hu;rfl,
  fun ⟨A,n,e,h⟩ k=>⟨A,n,e,h.keep k⟩,fun ⟨A,n,e,h⟩ k=>⟨A,n,e,h.mono k⟩⟩
def eWrkT:Enc Wrk:=eInt.pair ((eSlT eChg).pair (eSl eMrk))
theorem qgw {x:Wrk} (h:eWrkT.rel w F cs x):∃ A n A2 n2 c2,cs=[.int .i64 x.1,.slice A n n,.slice A2 n2 c2]/\Sl eChg w F A n n x.2.1/\Sl eMrk w F A2 n2 c2 x.2.2:=by
 obtain ⟨_,_,rfl,rfl,_,_,rfl,⟨A,n,rfl,h1⟩,⟨A2,n2,c2,rfl,h2⟩⟩:=h
 exact ⟨A,n,A2,n2,c2,rfl,h1,h2⟩
theorem qln {x:Wrk} (h:Sl eChg w F A n n x.2.1) (h2:Sl eMrk w F A2 n2 c2 x.2.2):eWrkT.rel w F [.int .i64 x.1,.slice A n n,.slice A2 n2 c2] x :=
 ⟨[_],[_,_],rfl,rfl,[_],[_],rfl,⟨A,n,rfl,h⟩,⟨A2,n2,c2,rfl,h2⟩⟩
theorem eWrkT.loose {x:Wrk} (h:eWrkT.rel w F cs x):eWrk.rel w F cs x:=by
 obtain ⟨A,n,A2,n2,c2,rfl,h1,h2⟩:=qgw h
 exact qkf h1 h2
theorem Els.imp {α:Type} {E D:Enc α} (hi:∀ {w F cs x},E.rel w F cs x->D.rel w F cs x) {css:List (List Value)} {xs:List α} (h:Els E w F css xs):Els D w F css xs:=⟨h.1,fun i cs x h1 h2=>hi (h.2 i cs x h1 h2)⟩
theorem OwnE.imp {α:Type} {E D:Enc α} (hk:E.k=D.k) (hi:∀ {w F cs x},E.rel w F cs x->D.rel w F cs x) {t:TypeId} {xs:List α} (h:OwnE E t w B F A n c xs):OwnE D t w B F A n c xs:=by
 obtain ⟨css,h1,h2,h3⟩:=h
 exact ⟨css,hk ▸ h1,h2.imp hi,h3⟩
theorem OwnE.loose {t:TypeId} {xs:List Wrk} (h:OwnE eWrkT t w B F A n c xs):OwnE eWrk t w B F A n c xs:=OwnE.imp (E:=eWrkT) (D:=eWrk) rfl eWrkT.loose h
theorem Copied.of_c {α:Type} {E:Enc α} (hf:Flat E) {t:TypeId} {css:List (List Value)} {x:List α} {e:Ending} (hx:x.length=n) (hk:E.k=k) (he:Els E w F css x) (h:OwnC t k n css.flatten w e w'):Copied E t x w e w':=by
 subst hx hk
 obtain ⟨A,c,h1,h2,h3⟩:=h
 exact ⟨A,c,h1,⟨css,h2,⟨he.1,fun i cs y a b=>hf.any (he.2 i cs y a b) _ _⟩,rfl⟩,h3⟩
theorem Sl.clone {α:Type} {E:Enc α} {x:List α} (h:Sl E w F A n c x):∃ css,Row w 0 A n c css.flatten/\css.flatten.length=n * E.k/\(∀ u∈css.flatten,u.oneCell'=true)/\Els E w F css x/\x.length=n:=by
 obtain ⟨css,h1,h2,h3⟩:=h
 exact ⟨css,h1.row,by rw [h2.flen,h3],h2.ones,h2,h3⟩
theorem copyV {x:List _} (h:Sl eVal w F A n c x) (hn:n<=1000000):Calls Tryz.prog 109 #[.slice A n c] w (Copied eVal 70 x w):=by
 obtain ⟨css,h1,h2,h3,h4,h5⟩:=h.clone
 exact (cloneV css.flatten A n c w hn h1 h2 h3).mono fun e w' h=>Copied.of_c flat_val h5 rfl h4 h
theorem copyC {x:List _} (h:Sl eCol w F A n c x) (hn:n<=1000000):Calls Tryz.prog 142 #[.slice A n c] w (Copied eCol 63 x w):=by
 obtain ⟨css,h1,h2,h3,h4,h5⟩:=h.clone
 exact (cloneC css.flatten A n c w hn h1 h2 h3).mono fun e w' h=>Copied.of_c flat_col h5 rfl h4 h
theorem copyH {x:List _} (h:Sl eHld w F A n c x) (hn:n<=1000000):Calls Tryz.prog 76 #[.slice A n c] w (Copied eHld 213 x w):=by
 obtain ⟨css,h1,h2,h3,h4,h5⟩:=h.clone
 exact (cloneH css.flatten A n c w hn h1 h2 h3).mono fun e w' h=>Copied.of_c flat_hld h5 rfl h4 h
theorem copyM {x:List _} (h:Sl eMrk w F A n c x) (hn:n<=1000000):Calls Tryz.prog 146 #[.slice A n c] w (Copied eMrk 122 x w):=by
 obtain ⟨css,h1,h2,h3,h4,h5⟩:=h.clone
 exact (cloneM css.flatten A n c w hn h1 h2 h3).mono fun e w' h=>Copied.of_c flat_mrk h5 rfl h4 h
end Go.Proofs.YtdjbpcnhnkemiaaGreat.tp
namespace Go.Proofs.YtdjbpcnhnkemiaaGreat.lib
open Go.ChangeShapes Go.WideShapes Go.ChangeAt Go.RowKit
inductive Tr
 | nil
 | take (i:Nat) (r:Tr)
 | one (i:Nat) (r:Tr)
 | two (i j:Nat) (ri rj:Tr)
def Tr.depth:Tr->Nat
 | .nil=>0
 | .take _ r=>r.depth+1
 | .one _ r=>r.depth+1
 | .two _ _ ri rj=>max ri.depth rj.depth+1
section
variable {P:Program} {ops:Array Oper} {Q:Exit->Act->World->Prop} {md:Region.Mode} {S:World->Prop}
end
end Go.Proofs.YtdjbpcnhnkemiaaGreat.lib
namespace Go.Proofs.YtdjbpcnhnkemiaaGreat.tp
open Go.ChangeShapes Go.WideShapes Go.ChangeAt Go.RowKit Go.Proofs.YtdjbpcnhnkemiaaGreat.lib
variable {w w':World}
variable {n c g B b off i j k m n2 n3 c2 c3 c4 c5 c6 gs gn np lo base gr gd id b2 off2:Nat}
variable {A A2 A3 A4 A5 A6:Option Addr}
variable {cs:List Value}
variable {l r:List UInt8}
variable {rs:List (List UInt8)}
variable {s o e:Int}
variable {nm:ByteArray}
variable {F G:qab}
variable {x:DBd}
def WhoR (s:Int) (l:List Wrk) (w:World) (e:Ending) (w':World):Prop:=∃ r:Int,e=.returned (.int .i64 r)/\(r<0↔∀ y∈l,y.1≠s)/\Below w.heap.size w w'
theorem who_ {n4:Nat} {l:List Wrk} (h2:Sl eWrk w F A2 n2 c2 l) (hn2:n2<=1000):Calls Tryz.prog 9 #[.agg #[.slice A n c,.slice A2 n2 c2,.slice A3 n3 c3,.slice A4 n4 c4],.int .i64 s] w (WhoR s l w):=by
 have HS:=zh h2
 have HN:=zh h2.len
 clear h2
 go_enter Tryz.func9,Tryz.ntmps9
 go_upto_region 1 with fail
 obtain ⟨W,hW_,hb1,B1⟩:=al1 w 38 #[.slice A n c,.slice A2 n2 c2,.slice A3 n3 c3,.slice A4 n4 c4]
 rw [<-hW_]
 clear hW_
 have q1:=B1.cell 1
 have HS1:=zh (HS.out.ext hb1)
 have HB:=zh hb1
 clear B1 HS hb1
 go_wp2_with fail
 go_loop [5] (fun i=>∃ j:Nat,i=.int .i64 j/\j<=n2/\Hid (∀ (i:Nat) y,i<j->l[i]? = some y->y.1≠s)) (fun i=>n2 - (intOf i).toNat)
 case atStart=>exact ⟨0,rfl,Nat.zero_le _,zh (fun i y h=>by omega)⟩
 case round =>
  obtain ⟨j,rfl,hj,HJ⟩:=hrel
  rcases Nat.lt_or_ge j n2 with hlt|hge
  ·have hd:decide ((j:Int)<(n2:Int))=true:=by simp;omega
   have hjn:(j:Int)<(n2:Int):=by omega
   obtain ⟨y,hy⟩:∃ y,l[j]? = some y:=⟨_,List.getElem?_eq_getElem (by rw [HN.out];exact hlt)⟩
   obtain ⟨b,off,rfl,_,_,_⟩:=HS1.out.some_ (by omega)
   obtain ⟨cs,hcs,hcell⟩:=HS1.out.at_ hy
   obtain ⟨At,nt,ct,At2,nt2,ct2,rfl,_,_⟩:=qdc hcs
   simp only [show eWrk.k=3 from rfl] at hcell
   have q0:=hcell 0 _ rfl
   simp only [Nat.add_zero] at q0
   have HY:=zh hy
   clear hy hcs hcell
   by_cases he:y.1=s
   ·have HE:=zh (show ((j:Int)<0↔∀ y∈l,y.1≠s) from ⟨fun h=>by omega,fun h=>absurd he (h y (List.mem_of_getElem? HY.out))⟩)
    have e0:(y.1 == s)=true:=by simpa using he
    clear he
    go_wp2
    go_ret
    exact ⟨_,rfl,HE.out,HB.out⟩
   ·have e0:(y.1 == s)=false:=by simpa using he
    have HE:=zh he
    clear he
    go_wp2
    go_round
    case rel=>exact ⟨j+1,by go_num,by omega,zh (fun i z hi hz=>by
     by_cases e:i=j
     ·subst e;rw [HY.out] at hz;injection hz with hz;rw [<-hz];exact HE.out
     ·exact HJ.out i z (by omega) hz)⟩
    case measure=>simp [intOf];omega
  ·have hd:decide ((j:Int)<(n2:Int))=false:=by simp;omega
   have HE:=zh (show ((-1:Int)<0↔∀ y∈l,y.1≠s) from ⟨fun _ y hy=>by
    obtain ⟨i,hi⟩:=List.getElem?_of_mem hy
    exact HJ.out i y (by have:=(List.getElem?_eq_some_iff.1 hi).1;have:=HN.out;omega) hi,fun _=>by decide⟩)
   go_wp2
   go_ret
   exact ⟨_,rfl,HE.out,HB.out⟩
def AnyB (w:World) (e:Ending) (w':World):Prop:=(∃ b:Bool,e=.returned (.bool b))/\Below w.heap.size w w'
def AnyI (w:World) (e:Ending) (w':World):Prop:=(∃ r:Int,e=.returned (.int .i64 r))/\Below w.heap.size w w'
def AnyN (w:World) (e:Ending) (w':World):Prop:=(∃ (r:Int) (b:Bool),e=.returned (.tuple #[.int .i64 r,.bool b]))/\Below w.heap.size w w'
theorem anyB {b:Bool} (h:Below w.heap.size w w'):AnyB w (.returned (.bool b)) w':=⟨⟨b,rfl⟩,h⟩
theorem anyI {r:Int} (h:Below w.heap.size w w'):AnyI w (.returned (.int .i64 r)) w':=⟨⟨r,rfl⟩,h⟩
theorem anyN {r:Int} {b:Bool} (h:Below w.heap.size w w'):AnyN w (.returned (.tuple #[.int .i64 r,.bool b])) w':=⟨⟨r,b,rfl⟩,h⟩
def isStr:Value->Bool
 | .string _=>true
 | _=>false
theorem isStr_all {cs:Array Value} (h:(cs.toList.all isStr)=true) (i:Nat) (hi:i<cs.size):∃ s,cs[i]? = some (.string s):=by
 rw [List.all_eq_true] at h
 have h:=h cs[i] (by simp)
 rw [Array.getElem?_eq_getElem hi]
 cases hv:cs[i] <;> rw [hv] at h <;> first|exact ⟨_,rfl⟩|cases h
def Strs (w:World) (g n:Nat):Prop:=∀ i,i<n->∃ s,w.cell? ⟨g,i,none⟩=some (.string s)
theorem qpu (w:World):Calls Tryz.prog 211 #[] w fun e w'=>∃ g,e=.returned (.slice (some ⟨g,0,none⟩) 41 41)/\Strs w' g 41/\Below w.heap.size w w':=by
 go_enter Tryz.func211,Tryz.ntmps211
 go_wp2
 go_ret
 refine ⟨_,rfl,fun i hi=>?_,(zb _ _).alloc (zl _) _⟩
 rw [Blk.cell (Blk.new w _ _)]
 exact isStr_all rfl i hi
theorem name9_ (s:ByteArray) (hsb:s.size<=1000) (w:World):Calls Tryz.prog 144 #[.string s] w (AnyB w):=by
 go_enter Tryz.func144,Tryz.ntmps144
 rcases Nat.lt_or_ge s.size 1 with h1|h1
 case inl =>
  have d1:decide ((s.size:Int)<1)=true:=by simp;omega
  clear h1
  go_wp2
  go_ret
  exact anyB (zb _ _)
 have d1:decide ((s.size:Int)<1)=false:=by simp;omega
 have h0:(0:Int)<(s.size:Int):=by omega
 have h00:0<s.size:=by omega
 clear h1
 go_wp2_with fail
 all_goals try (go_ret;exact anyB (zb _ _))
 go_loop [3] (fun i=>∃ k:Nat,i=.int .i64 k/\k<=s.size) (fun i=>s.size - (intOf i).toNat)
 case atStart=>exact ⟨0,rfl,Nat.zero_le _⟩
 case round =>
  obtain ⟨k,rfl,hk⟩:=hrel
  rcases Nat.lt_or_ge k s.size with hlt|hge
  case inl =>
   have hd:decide (k<s.size)=true:=by simp;omega
   have hd2:decide ((k:Int)<(s.size:Int))=true:=by simp;omega
   go_wp2_with fail
   all_goals try (go_ret;exact anyB (zb _ _))
   all_goals
    go_round
    case rel=>exact ⟨k+1,by go_num,by omega⟩
    case measure=>simp [intOf];omega
  have hd:decide (k<s.size)=false:=by simp;omega
  have hd2:decide ((k:Int)<(s.size:Int))=false:=by simp;omega
  go_wp2_with fail
  refine (qpu _).mono ?_
  rintro e w1 ⟨g,rfl,hrow,hb1⟩
  have HR:=zh hrow
  clear hd hd2 hrow hge
  go_wp2_with fail
  go_loop [6] (fun i=>∃ m:Nat,i=.int .i64 m/\m<=41) (fun i=>41 - (intOf i).toNat)
  case atStart=>exact ⟨0,rfl,Nat.zero_le _⟩
  case round =>
   obtain ⟨m,rfl,hm⟩:=hrel
   rcases Nat.lt_or_ge m 41 with hlt|hge2
   case inr =>
    have hd:decide ((m:Int)<41)=false:=by simp;omega
    go_wp2
    go_ret
    exact anyB hb1
   have hd:decide ((m:Int)<41)=true:=by simp;omega
   have hm41:(m:Int)<41:=by omega
   obtain ⟨r,hr⟩:=HR.out m hlt
   go_wp2
   all_goals try (go_ret;exact anyB hb1)
   all_goals
    go_round
    case rel=>exact ⟨m+1,by go_num,by omega⟩
    case measure=>simp [intOf];omega
theorem qkw {x:ColD} (h:eCol.rel w F cs x):cs=[.string x.1,.int .i64 x.2.1,.bool x.2.2]:=by
 obtain ⟨_,_,rfl,rfl,_,_,rfl,rfl,rfl⟩:=h
 rfl
theorem find9_ {cols:List ColD} {n0:ByteArray} {key:Int} {only:Bool} (h:Sl eCol w F A n c cols) (hn:n<=1000):Calls Tryz.prog 145 #[.agg #[.string n0,.slice A n c,.int .i64 key,.bool only],.string nm] w (AnyN w):=by
 have HS:=zh h
 clear h
 go_enter Tryz.func145,Tryz.ntmps145
 go_upto_region 1 with fail
 obtain ⟨W,hW_,hb1,B1⟩:=al1 w 66 #[.string n0,.slice A n c,.int .i64 key,.bool only]
 rw [<-hW_]
 clear hW_
 have q1:=B1.cell 1
 have HS1:=zh (HS.out.ext hb1)
 have HB:=zh hb1
 clear B1 HS hb1
 go_wp2_with fail
 go_loop [6] (fun i=>∃ j:Nat,i=.int .i64 j/\j<=n) (fun i=>n - (intOf i).toNat)
 case atStart=>exact ⟨0,rfl,Nat.zero_le _⟩
 case round =>
  obtain ⟨j,rfl,hj⟩:=hrel
  rcases Nat.lt_or_ge j n with hlt|hge
  ·have hd:decide ((j:Int)<(n:Int))=true:=by simp;omega
   have hjn:(j:Int)<(n:Int):=by omega
   obtain ⟨y,hy⟩:∃ y,cols[j]? = some y:=⟨_,List.getElem?_eq_getElem (by rw [HS1.out.len];exact hlt)⟩
   obtain ⟨b,off,rfl,_,_,_⟩:=HS1.out.some_ (by omega)
   obtain ⟨cs,hcs,hcell⟩:=HS1.out.at_ hy
   obtain rfl:=qkw hcs
   simp only [show eCol.k=3 from rfl] at hcell
   have q0:=hcell 0 _ rfl
   simp only [Nat.add_zero] at q0
   clear hy hcs hcell
   go_wp2
   all_goals try (go_ret2;exact anyN HB.out)
   all_goals
    go_round
    case rel=>exact ⟨j+1,by go_num,by omega⟩
    case measure=>simp [intOf];omega
  ·have hd:decide ((j:Int)<(n:Int))=false:=by simp;omega
   go_wp2
   go_ret2
   exact anyN HB.out
theorem find13_ (h:eDB.rel w F cs x) (hn:x.1.length<=1000):Calls Tryz.prog 69 #[.agg cs.toArray,.string nm] w (AnyI w):=by
 obtain ⟨A,n,c,A2,n2,c2,A3,n3,c3,A4,n4,c4,rfl,h1,_,_,_⟩:=qav h
 have hn1:n<=1000:=by rw [<-h1.len];exact hn
 have HS:=zh h1
 clear h h1 hn
 go_enter Tryz.func69,Tryz.ntmps69
 go_upto_region 1 with fail
 obtain ⟨W,hW_,hb1,B1⟩:=al1 w 38 #[.slice A n c,.slice A2 n2 c2,.slice A3 n3 c3,.slice A4 n4 c4]
 rw [<-hW_]
 clear hW_
 have q1:=B1.cell 0
 have HS1:=zh (HS.out.ext hb1)
 have HB:=zh hb1
 clear B1 HS hb1
 go_wp2_with fail
 go_loop [5] (fun i=>∃ j:Nat,i=.int .i64 j/\j<=n) (fun i=>n - (intOf i).toNat)
 case atStart=>exact ⟨0,rfl,Nat.zero_le _⟩
 case round =>
  obtain ⟨j,rfl,hj⟩:=hrel
  rcases Nat.lt_or_ge j n with hlt|hge
  ·have hd:decide ((j:Int)<(n:Int))=true:=by simp;omega
   have hjn:(j:Int)<(n:Int):=by omega
   obtain ⟨y,hy⟩:∃ y,x.1[j]? = some y:=⟨_,List.getElem?_eq_getElem (by rw [HS1.out.len];exact hlt)⟩
   obtain ⟨b,off,rfl,_,_,_⟩:=HS1.out.some_ (by omega)
   obtain ⟨cs,hcs,hcell⟩:=HS1.out.at_ hy
   obtain ⟨At,nt,ct,At2,nt2,ct2,rfl,_,_⟩:=qbo hcs
   simp only [show eTab.k=5 from rfl] at hcell
   have q0:=hcell 0 _ rfl
   simp only [Nat.add_zero] at q0
   clear hy hcs hcell
   go_wp2
   all_goals try (go_ret;exact anyI HB.out)
   all_goals
    go_round
    case rel=>exact ⟨j+1,by go_num,by omega⟩
    case measure=>simp [intOf];omega
  ·have hd:decide ((j:Int)<(n:Int))=false:=by simp;omega
   go_wp2
   go_ret
   exact anyI HB.out
theorem below13_ {a b:ByteArray} (ha:a.size<=1000000) (hb:b.size<=1000000):Calls Tryz.prog 70 #[.string a,.string b] w (AnyB w):=by
 go_enter Tryz.func70,Tryz.ntmps70
 go_wp2_with fail
 go_loopw [5] (fun i wr=>∃ j:Nat,i=.int .i64 j/\j<=a.size/\Below w.heap.size w wr) (fun i _=>a.size - (intOf i).toNat)
 case atStart=>exact ⟨0,rfl,Nat.zero_le _,zb _ _⟩
 case round =>
  obtain ⟨j,rfl,hj,hbw⟩:=hrel
  by_cases hlt:j<a.size/\j<b.size
  ·obtain ⟨hla,hlb⟩:=hlt
   have d1:decide (j<a.size)=true:=by simp;omega
   have d2:decide (j<b.size)=true:=by simp;omega
   have d3:decide ((j:Int)<(a.size:Int))=true:=by simp;omega
   have d4:decide ((j:Int)<(b.size:Int))=true:=by simp;omega
   have e1:(j:Int)<(a.size:Int):=by omega
   have e2:(j:Int)<(b.size:Int):=by omega
   go_wp2_with fail
   refine r1 [(0,true),(1,true),(2,true),(3,true),(4,true),(5,true),(6,true)] ?_
   repeat ((first|refine pT ?_|refine pF ?_);try go_frame)
   refine qad ?_
   go_wp2_with fail
   all_goals try
    refine r1 [(0,true),(1,true),(2,true),(3,true),(4,true),(5,true),(6,true),(7,true)] ?_
    repeat ((first|refine pT ?_|refine pF ?_);try go_frame)
    refine qad ?_
    go_wp2
    go_ret
    exact anyB (hbw.tr ((zb _ _).drew.trans (zb _ _).drew))
   go_wp2
   go_roundw
   case rel=>exact ⟨j+1,by go_num,by omega,hbw.drew⟩
   case measure=>simp [intOf];omega
  ·rcases Nat.lt_or_ge j a.size with h1|h1
   ·have d1:decide (j<a.size)=true:=by simp;omega
    have d2:decide (j<b.size)=false:=by simp;omega
    have d3:decide ((j:Int)<(a.size:Int))=true:=by simp;omega
    have d4:decide ((j:Int)<(b.size:Int))=false:=by simp;omega
    clear hlt
    go_wp2
    go_ret
    exact anyB hbw
   ·have d1:decide (j<a.size)=false:=by simp;omega
    have d3:decide ((j:Int)<(a.size:Int))=false:=by simp;omega
    clear hlt
    go_wp2
    go_ret
    exact anyB hbw
theorem check9_ {cols:List ColD} {n0:ByteArray} {only:Bool} (h:Sl eCol w F A n c cols) (hn1:1<=n) (hn:n<=6) (h0:n0.size<=1000) (hc:∀ y∈cols,y.1.size<=1000):Calls Tryz.prog 68 #[.agg #[.string n0,.slice A n c,.int .i64 0,.bool only]] w (AnyI w):=by
 have HS:=zh h
 have HC:=zh hc
 have HNM:=zh (fun (w:World) (s:ByteArray) (h:s.size<=1000)=>name9_ s h w)
 clear h hc
 go_enter Tryz.func68,Tryz.ntmps68
 go_upto_region 1 with fail
 obtain ⟨W,hW_,hb1,B1⟩:=al1 w 66 #[.string n0,.slice A n c,.int .i64 0,.bool only]
 rw [<-hW_]
 clear hW_
 have q0:=B1.cell 0
 have HB1:=zh B1
 have HB:=zh hb1
 obtain ⟨g,hg⟩:∃ g,w.heap.size=g:=⟨_,rfl⟩
 rw [hg] at q0 HB1 ⊢
 clear B1 hb1 hg
 go_wp2_with fail
 refine (HNM.out _ _ h0).mono ?_
 rintro e w1 ⟨⟨b,rfl⟩,hb2⟩
 have HB2:=zh (HB1.out.ext hb2)
 have HW2:=zh (HB.out.tr hb2)
 have HS2:=zh (HS.out.ext HW2.out)
 clear HB1 HB HS q0 hb2
 have q1:=HB2.out.cell 1
 have q2:=HB2.out.cell 2
 have d1:decide ((n:Int)<1)=false:=by simp;omega
 have d2:decide (6<(n:Int))=false:=by simp;omega
 cases b with
 | false =>
  go_wp2
  go_ret
  exact anyI HW2.out
 | true =>
 go_wp2_with fail
 clear q1 q2 d1 d2
 go_loopw [3] (fun i wr=>∃ j:Nat,i=.int .i64 j/\j<=n/\Below w1.heap.size w1 wr) (fun i _=>n - (intOf i).toNat)
 case atStart=>exact ⟨0,rfl,Nat.zero_le _,zb _ _⟩
 case round =>
  obtain ⟨j,rfl,hj,hbr⟩:=hrel
  have HB3:=zh (HB2.out.ext hbr)
  have HW3:=zh (HW2.out.tr hbr)
  have q0:=HB3.out.cell 0
  have q1:=HB3.out.cell 1
  have q2:=HB3.out.cell 2
  have q3:=HB3.out.cell 3
  rcases Nat.lt_or_ge j n with hlt|hge
  ·have hd:decide ((j:Int)<(n:Int))=true:=by simp;omega
   have hjn:(j:Int)<(n:Int):=by omega
   obtain ⟨b,off,rfl,_,_,hbl⟩:=HS2.out.some_ (by omega)
   obtain ⟨y,hy⟩:∃ y,cols[j]? = some y:=⟨_,List.getElem?_eq_getElem (by rw [HS2.out.len];omega)⟩
   obtain ⟨cs,hcs,hcell⟩:=(HS2.out.ext hbr).at_ hy
   obtain rfl:=qkw hcs
   simp only [show eCol.k=3 from rfl] at hcell
   have HCELL:=zh hcell
   have HSR:=zh (HS2.out.ext hbr)
   have HYS:=zh (HC.out y (List.mem_of_getElem? hy))
   have hbl':b<wr.heap.size:=Nat.lt_of_lt_of_le hbl hbr.size
   clear hy hcs hcell hbl
   go_wp2_with fail
   have HG:=HB3.out.lt
   have D:=fun w' (h:Below wr.heap.size wr.drew w')=>show w'.cell? ⟨g,0,none⟩=some (.string n0)/\w'.cell? ⟨g,1,none⟩=some (.slice (some ⟨b,off,none⟩) n c)/\w'.cell? ⟨g,2,none⟩=some (.int .i64 0)/\w'.cell? ⟨g,3,none⟩=some (.bool only)/\w'.cell? ⟨b,off+j * 3,none⟩=some (.string y.1) from ⟨(HB3.out.ext ((zb _ _).drew.trans h)).cell 0,(HB3.out.ext ((zb _ _).drew.trans h)).cell 1,(HB3.out.ext ((zb _ _).drew.trans h)).cell 2,(HB3.out.ext ((zb _ _).drew.trans h)).cell 3,(((zb _ _).drew.trans h).cell (p:=⟨b,off+j * 3,none⟩) hbl').trans (HCELL.out 0 _ rfl)⟩
   refine r1 [(0,true),(1,true),(2,true),(3,true),(4,true),(5,true),(6,true),(7,false),(8,true),(9,true),(10,true),(11,true),(12,true)] ?_
   clear q0 q1 q2 q3
   repeat ((first|refine pT ?_|refine pF ?_);try go_frame)
   clear D
   refine pD fun K hK=>?_;go_simp
   refine (find9_ (HSR.out.ext (zb _ _).drew) (by omega)).mono ?_
   rintro e w3 ⟨⟨k,is,rfl⟩,hb3⟩
   refine hK.out _ _ hb3 ?_
   clear hK K
   repeat ((first|refine pT ?_|refine pF ?_);try go_frame)
   refine qad ?_
   have hb3':=(zb wr.heap.size wr).drew.trans hb3
   have hbr3:=hbr.tr hb3'
   have HB4:=zh (HB3.out.ext hb3')
   have HC4:=zh (show ∀ (i:Nat) u,[Value.string y.1,.int .i64 y.2.1,.bool y.2.2][i]? = some u->w3.cell? ⟨b,off+j * 3+i,none⟩=some u from fun i u hu=>(hb3'.cell (p:=⟨b,off+j * 3+i,none⟩) hbl').trans (HCELL.out i u hu))
   have hbl4:b<w3.heap.size:=Nat.lt_of_lt_of_le hbl' hb3'.size
   clear hb3 hb3' HB3 HCELL HSR hbl'
   have q1:=HB4.out.cell 1
   have r0:=HC4.out 0 _ rfl
   simp only [Nat.add_zero] at r0
   have HN:=zh (HNM.out w3 y.1 HYS.out)
   go_wp2_with fail
   refine HN.out.mono ?_
   rintro e w4 ⟨⟨b1,rfl⟩,hb4⟩
   have hbr4:=hbr3.tr hb4
   have HW4:=zh (HW2.out.tr hbr4)
   have q1:=(HB4.out.ext hb4).cell 1
   have r1:=(hb4.cell (p:=⟨b,off+j * 3+1,none⟩) hbl4).trans (HC4.out 1 _ rfl)
   clear HN HB4 HC4 hb4 r0
   go_wp2
   all_goals try (go_ret;exact anyI HW4.out)
   all_goals
    go_roundw
    case rel=>exact ⟨j+1,by go_num,by omega,hbr4⟩
    case measure=>simp [intOf];omega
  ·have hd:decide ((j:Int)<(n:Int))=false:=by simp;omega
   obtain ⟨b,off,rfl,_,_,_⟩:=HS2.out.some_ (by omega)
   obtain ⟨y,hy⟩:∃ y,cols[0]? = some y:=⟨_,List.getElem?_eq_getElem (by rw [HS2.out.len];omega)⟩
   obtain ⟨cs,hcs,hcell⟩:=(HS2.out.ext hbr).at_ hy
   obtain rfl:=qkw hcs
   simp only [show eCol.k=3 from rfl] at hcell
   have r2:=hcell 2 _ rfl
   simp only [Nat.zero_mul,Nat.add_zero] at r2
   have hd2:decide ((n:Int)<=0)=false:=by simp;omega
   have hd3:(0:Int)<(n:Int):=by omega
   clear hy hcs hcell
   go_wp2
   all_goals (go_ret;exact anyI HW3.out)
def qdp (r:RowD):Prop:=r.length<=1000
def qgn (c:Chg):Prop:=qdp c.2.2
def qeh (t:Tab):Prop:=t.1.2.1.length<=1000/\t.2.length<=1000/\∀ r∈t.2,qdp r
def qik (k:Wrk):Prop:=k.2.1.length<=1000/\(∀ c∈k.2.1,qgn c)/\k.2.2.length<=1000
def qfn {α:Type} (E:Enc α) (x:α) (w:World) (e:Ending) (w':World):Prop:=∃ cs,e=.returned (.agg cs.toArray)/\E.rel w' (fun b=>w.heap.size<=b) cs x/\Below w.heap.size w w'
theorem Els.snoc {α:Type} {E:Enc α} {css:List (List Value)} {xs:List α} {y:α} (h:Els E w F css (xs.take k)) (hy:xs[k]? = some y) (hr:E.rel w F cs y):Els E w F (css++[cs]) (xs.take (k+1)):=by
 rw [qda hy]
 exact Els.append h (Els.one_ hr)
theorem qed (D Z cs:List Value) (k K:Nat) (hD:D.length=k * K) (hc:cs.length=K) (hz:(k+1) * K<=Z.length):laid (D++Z.drop (k * K)) (k * K) cs=(D++cs)++Z.drop ((k+1) * K):=by
 have e1:Z.drop (k * K)=(Z.drop (k * K)).take K++Z.drop ((k+1) * K):=by
  conv=>lhs;rw [<-List.take_append_drop K (Z.drop (k * K))]
  rw [List.drop_drop,Nat.succ_mul]
 rw [e1,<-hD,<-List.append_assoc]
 refine qcm _ _ _ _ ?_
 rw [hc,List.length_take,List.length_drop,hD]
 rw [Nat.succ_mul] at hz
 omega
theorem qct {K:Nat} {t:TypeId} {xs:List Value} (h:w.ownsRow B t K (.slice (some ⟨g,0,none⟩) n n) n xs):∃ Z:List Value,Blk w g t Z.toArray/\Z.length=n * K:=by
 rcases h.2 with ⟨h1,_⟩|⟨g',cap,cur,h1,_,h3,_,_,h5,_⟩
 ·cases h1
 ·injection h1 with h1 _ h2
  injection h1 with h1
  injection h1 with h1 _ _
  subst h1 h2
  exact ⟨cur.toList,by rw [Array.toArray_toList];exact h3,by simpa using h5⟩
theorem qbz {K:Nat} {t:TypeId} (h:Blk w g t cs.toArray) (hl:cs.length=n * K) (hB:B<=g) (hn:n<=1000):w.ownsRow B t K (.slice (some ⟨g,0,none⟩) n n) n cs :=
 ⟨hl,.inr ⟨g,n,cs.toArray,rfl,hB,h,zl _,by unfold maxLen;omega,by simpa using hl,by simp [<-hl]⟩⟩
theorem qlg {x:RowD} (h:Sl eVal w F A n c x) (hok:qdp x):Calls Tryz.prog 43 #[.slice A n c] w (Copied eVal 70 x w):=by
 have HC:=zh (copyV h (by have:=h.len;unfold qdp at hok;omega))
 clear h hok
 go_enter Tryz.func43,Tryz.ntmps43
 go_wp2_with fail
 refine HC.out.mono ?_
 rintro e w1 ⟨A1,c1,rfl,h1,h2⟩
 have H1:=zh h1
 clear h1 HC
 go_wp2
 go_ret
 exact ⟨A1,c1,rfl,H1.out,h2⟩
theorem qoy {x:RowD} (h:Sl eVal w F A n c x) (hok:qdp x):Calls Tryz.prog 174 #[.slice A n c] w (Copied eVal 70 x w):=by
 have HC:=zh (copyV h (by have:=h.len;unfold qdp at hok;omega))
 clear h hok
 go_enter Tryz.func174,Tryz.ntmps174
 go_wp2_with fail
 refine HC.out.mono ?_
 rintro e w1 ⟨A1,c1,rfl,h1,h2⟩
 have H1:=zh h1
 clear h1 HC
 go_wp2
 go_ret
 exact ⟨A1,c1,rfl,H1.out,h2⟩
theorem teachRowT {x:List RowD} (h:Sl eRow w F A n c x) (hn:x.length<=1000) (hok:∀ y∈x,qdp y):Calls Tryz.prog 143 #[.slice A n c,.func (.func 43) #[] #[]] w (CopiedT eRow 71 x w):=by
 obtain ⟨i0,hi,hz0,hz1,hz2⟩:=ip Tryz.prog 71 (.slice none 0 0) 1 24
 have HS:=zh h
 have HL:=zh h.len
 have hn:n<=1000:=by have:=h.len;omega
 clear h
 have HK:=zh hok
 clear hok
 go_enter Tryz.func143,Tryz.ntmps143
 go_wp2_with (at_make;refine wpList_make_full _ rfl _ _ 116 rfl w.heap.size 71 i0 (.slice none 0 0) 1 Tryz.underlying116 hi hz0 hz1 _ _ _ _ n rfl rfl rfl rfl ?b2 ?b3 (zl _) ?_)
 case b2=>rw [hz2];omega
 case b3=>unfold maxLen;omega
 intro w1 hown hgrow
 obtain ⟨Z,BO,hZl⟩:=qct hown
 have hb1:=(zb w.heap.size w).grown hgrow (zl _) (fun k hk=>by cases hk)
 obtain ⟨go,hgo⟩:∃ g,w.heap.size=g:=⟨_,rfl⟩
 have BO0:Blk w1 w.heap.size 71 ((([]:List (List Value)).flatten++Z.drop (0 * 1)).toArray):=by simpa using BO
 have HB0:=zh (za BO0 hb1)
 clear hown hgrow BO BO0 hb1
 rw [hgo] at HB0
 have hgw:go=w.heap.size:=hgo.symm
 rw [hgo]
 clear hgo
 have HGW:=zh hgw
 clear hgw
 go_wp2_with fail
 go_loopw [13] (fun i wr=>∃ (k:Nat) (css:List (List Value)),i=.int .i64 k/\k<=n/\Hid (Els eRow wr (fun b=>go<b) css (x.take k))/\Hid (Blk wr go 71 (css.flatten++Z.drop (k * 1)).toArray/\Below go w wr)) (fun i _=>n - (intOf i).toNat)
 case atStart=>exact ⟨0,[],rfl,Nat.zero_le _,zh (by simpa using Els.nil _ _),HB0⟩
 case round =>
  clear HB0
  obtain ⟨k,css,rfl,hk,HE,HB⟩:=hrel
  rcases Nat.lt_or_ge k n with hlt|hge
  ·have hd:decide ((k:Int)<(n:Int))=true:=by simp;omega
   have hkn:(k:Int)<(n:Int):=by omega
   obtain ⟨y,hy⟩:∃ y,x[k]? = some y:=⟨_,List.getElem?_eq_getElem (by have:=HL.out;omega)⟩
   have HY:=zh hy
   obtain ⟨b0,off,rfl,hnc,hFb,hbl⟩:=HS.out.some_ (by omega)
   have hbw:=HB.out.2
   have hsz:=HB.out.1.lt
   have hS:=HS.out.ext (show Below w.heap.size w wr by rw [<-HGW.out];exact hbw)
   obtain ⟨cs,hcs,hcell⟩:=hS.at_ hy
   obtain ⟨Ar,nr,cr,rfl,hSr⟩:=qph hcs
   have q:=hcell 0 _ rfl
   simp only [show eRow.k=1 from rfl,Nat.mul_one,Nat.add_zero] at q
   have HF:=zh (qlg hSr (HK.out y (List.mem_of_getElem? hy)))
   clear hy hcs hcell hSr hS
   go_wp2_with fail
   refine HF.out.mono ?_
   rintro e w4 ⟨A4,c4,rfl,hown4,hb4⟩
   clear q HF
   have hr4:=eRow_mk (hown4.sl (G:=fun b=>go<b) (fun b h _=>by omega) (fun b h=>by have:=h.1;omega))
   have hE4:=Els.snoc (HE.out.ext hb4) HY.out hr4
   have hcl:css.length=k:=by have:=HE.out.1;rw [List.length_take] at this;have:=HL.out;omega
   have hfl:css.flatten.length=k * 1:=by have h9:=HE.out.flen;rw [List.length_take,Nat.min_eq_left (by have:=HL.out;omega)] at h9;exact h9
   have B4:=HB.out.1.ext hb4
   have hbw4:=hbw.trans (zm hb4 (Nat.le_of_lt hsz))
   have q:∃ u,w4.cell? ⟨go,k,none⟩=some u:=by
    rw [B4.cell k]
    exact ⟨_,Array.getElem?_eq_getElem (by simp [hfl,hZl];omega)⟩
   obtain ⟨u,q⟩:=q
   have f:=B4.frozen k
   have B5:=Blk.set_ B4 k (.slice A4 y.length c4)
   rw [show (css.flatten++Z.drop (k * 1)).toArray.setIfInBounds k (Value.slice A4 y.length c4)=((css++[[Value.slice A4 y.length c4]]).flatten++Z.drop ((k+1) * 1)).toArray from by
    have:=qed css.flatten Z [Value.slice A4 y.length c4] k 1 hfl rfl (by rw [hZl,Nat.mul_one,Nat.mul_one];omega)
    rw [Nat.mul_one] at this
    rw [Nat.mul_one,List.setIfInBounds_toArray,List.flatten_append,List.flatten_singleton,<-this]
    unfold laid
    rw [List.set_eq_take_append_cons_drop,if_pos (by rw [List.length_append,List.length_drop,hfl,hZl];omega)]
    simp] at B5
   have hg5:=qac w4 go k (.slice A4 y.length c4)
   have hE5:=Els.keep hE4 (Keep.grown hg5 (fun g hg hlt=>by injection hg with hg;omega))
   have hbw5:=hbw4.grown hg5 (Nat.le_of_lt B4.lt) (fun k hk=>by injection hk with hk;omega)
   have HE5:=zh hE5
   have HB5:=zh (za B5 hbw5)
   clear hE5 hg5 B5 hbw5 hE4 hr4 hown4 hcl hfl B4 hbw4 hbw
   go_wp2
   go_roundw
   case rel=>exact ⟨k+1,_,by go_num,by omega,HE5,HB5⟩
   case measure=>simp [intOf];omega
  ·obtain rfl:k=n:=by omega
   have hd:decide ((k:Int)<(k:Int))=false:=by simp
   have hxk:x.length=k:=HL.out
   subst hxk
   have hE:=HE.out
   rw [List.take_length] at hE
   have hB:=HB.out
   rw [List.drop_eq_nil_of_le (by omega),List.append_nil] at hB
   have HR:=zh (show OwnE eRow 71 wr w.heap.size (fun b=>w.heap.size<=b/\(some ⟨go,0,none⟩:Option Addr)≠some ⟨b,0,none⟩) (some ⟨go,0,none⟩) x.length x.length x from ⟨css,qbz hB.1 hE.flen (by rw [HGW.out];exact zl _) hn,hE.mono (fun b h=>⟨by have:=HGW.out;omega,fun e=>by injection e with e;injection e with e;omega⟩),rfl⟩)
   have hbw:Below w.heap.size w wr:=by rw [<-HGW.out];exact hB.2
   clear hE hB HE HB
   go_wp2
   go_ret
   exact ⟨_,rfl,HR.out,hbw⟩
theorem teachRow {x:List RowD} (h:Sl eRow w F A n c x) (hn:x.length<=1000) (hok:∀ y∈x,qdp y):Calls Tryz.prog 143 #[.slice A n c,.func (.func 43) #[] #[]] w (Copied eRow 71 x w):=(teachRowT h hn hok).mono fun _ _ h=>h.copied
theorem qps {x:Chg} (h:eChg.rel w F cs x) (hok:qgn x):Calls Tryz.prog 32 #[.agg cs.toArray] w (qfn eChg x w):=by
 obtain ⟨A,n,c,rfl,h2⟩:=qdh h
 have HS:=zh h2
 clear h h2
 go_enter Tryz.func32,Tryz.ntmps32
 go_wp2_with fail
 obtain ⟨W,hW_,hb1,B1,B2⟩:=al2 w 126 126 #[.string x.1,.int .i64 x.2.1,.slice A n c] #[.string ⟨#[]⟩,.int .i64 0,.slice none 0 0]
 rw [<-hW_]
 clear hW_
 have HF:=zh (qlg (HS.out.ext hb1) hok)
 obtain ⟨g2,hg2⟩:∃ g,w.heap.size+1=g:=⟨_,rfl⟩
 have hg2n:w.heap.size<g2:=by omega
 rw [hg2] at B2 ⊢
 clear hg2
 go_wp2_with fail
 refine HF.out.mono ?_
 rintro e w4 ⟨A4,c4,rfl,hown4,hb4⟩
 clear HF
 have HR:=zh (qfi (hown4.sl (G:=fun b=>W.heap.size<=b) (fun b h _=>h) (fun b h=>h.1)))
 have B14:=B1.ext hb4
 have B24:=B2.ext hb4
 have hbw4:=(hb1.tr hb4)
 have hw1:g2<W.heap.size:=B2.lt
 clear hown4 B1 B2 hb4 hb1
 have q:=B14.cell 2
 have f:=B14.frozen 2
 go_upto_region 2 with fail
 have hk5:=Keep.set (F:=fun b=>W.heap.size<=b) w4 ⟨w.heap.size,2,none⟩ (.slice A4 (List.length x.2.2) c4) (show ¬W.heap.size<=w.heap.size by omega)
 have HR5:=zh (eChg.keep HR.out hk5)
 have B15:=B14.set_ 2 (.slice A4 (List.length x.2.2) c4)
 have B25:=Blk.keep (F:=fun b=>b≠w.heap.size) B24 (Keep.grown (qac w4 w.heap.size 2 (.slice A4 (List.length x.2.2) c4)) (fun g hg h=>by injection hg with hg;omega)) (by omega)
 have hbw5:=hbw4.grown (qac w4 w.heap.size 2 (.slice A4 (List.length x.2.2) c4)) (Nat.le_of_lt B14.lt) (fun k hk=>by injection hk with hk;omega)
 obtain ⟨W5,hW5⟩:∃ W,W=w4.setCell ⟨w.heap.size,2,none⟩ (.slice A4 (List.length x.2.2) c4):=⟨_,rfl⟩
 rw [<-hW5] at HR5 B15 B25 hbw5 ⊢
 clear hW5 hk5 B14 B24 HR hbw4 q f
 have B14:=B15
 have B24:=B25
 have HR:=HR5
 have hbw4:=hbw5
 clear B15 B25 HR5 hbw5
 obtain ⟨cz,hcz⟩:∃ z,z=([.string x.1,.int .i64 x.2.1,.slice A4 (List.length x.2.2) c4]:List Value):=⟨_,rfl⟩
 have hczl:cz.length=3:=by rw [hcz];rfl
 have hone:∀ u∈cz,u.oneCell'=true:=HR.out |> fun h=>by rw [hcz];exact eChg.one h
 have hsz:(Tryz.prog.info? 126).map (·.size)=some cz.length:=by rw [hczl];kernel_rfl
 have hth:=Blk.there (o:=0) (n:=3) B24 (by simp)
 have hrg:W5.rangeAt w.heap.size 0 cz:=by rw [hcz];exact Blk.whole B14
 go_wp2_with (first|((with_reducible refine sT 7 ?_);(refine wpList_load_mid rfl 126 _ rfl w.heap.size 0 rfl cz _ hrg Tryz.underlying126 rfl hsz ?_)) |
  ((with_reducible show wpList _ _ _ (Oper.mk none _ _ _ _ _::_) _ _);(refine wpList_store_mid rfl 126 _ _ rfl g2 0 cz.toArray rfl rfl ?s1 ?s2 (all_oneCell_toArray hone) ?_)))
 case s1=>exact (show cz.toArray.size=3 by simp [hczl]) ▸ hth
 case s2=>exact (show cz.toArray.size=cz.length by simp) ▸ hsz
 obtain ⟨B8,hg8⟩:=Blk.lay cz 0 B24 (by rw [hczl];simp)
 rw [qai _ _ (by rw [hczl];rfl)] at B8
 have hbw8:=hbw4.grown hg8 (Nat.le_of_lt (Nat.lt_of_lt_of_le hg2n (Nat.le_of_lt B24.lt))) (fun k hk=>by injection hk with hk;omega)
 have HR8:=zh (eChg.keep HR.out (Keep.grown hg8 (fun g hg h=>by injection hg with hg;omega)))
 generalize W5.setCells g2 0 cz=w8 at *
 clear hth B14 B24 hg8 hrg HR hbw4
 go_wp2
 refine bodyPost_ret (v:=.agg cz.toArray) (results_cell_row rfl _ _ g2 _ _ (0,0) _ rfl B8 Tryz.underlying126 rfl (by rw [List.size_toArray];exact hsz)) rfl ⟨cz,rfl,by rw [hcz];exact eChg.mono HR8.out (fun b h=>by omega),hbw8⟩
theorem qnb {x:List Chg} (h:Sl eChg w F A n c x) (hn:x.length<=1000) (hok:∀ y∈x,qgn y):Calls Tryz.prog 31 #[.slice A n c,.func (.func 32) #[] #[]] w (CopiedT eChg 126 x w):=by
 obtain ⟨i0,hi,hz0,hz1,hz2⟩:=ip Tryz.prog 126 (.agg #[.string ⟨#[]⟩,.int .i64 0,.slice none 0 0]) 3 48
 have HS:=zh h
 have HL:=zh h.len
 have hn:n<=1000:=by have:=h.len;omega
 clear h
 have HK:=zh hok
 clear hok
 go_enter Tryz.func31,Tryz.ntmps31
 go_wp2_with (at_make;refine wpList_make_full _ rfl _ _ 51 rfl w.heap.size 126 i0 (.agg #[.string ⟨#[]⟩,.int .i64 0,.slice none 0 0]) 3 Tryz.underlying51 hi hz0 hz1 _ _ _ _ n rfl rfl rfl rfl ?b2 ?b3 (zl _) ?_)
 case b2=>rw [hz2];omega
 case b3=>unfold maxLen;omega
 intro w1 hown hgrow
 obtain ⟨Z,BO,hZl⟩:=qct hown
 have hb1:=(zb w.heap.size w).grown hgrow (zl _) (fun k hk=>by cases hk)
 obtain ⟨go,hgo⟩:∃ g,w.heap.size=g:=⟨_,rfl⟩
 have BO0:Blk w1 w.heap.size 126 ((([]:List (List Value)).flatten++Z.drop (0 * 3)).toArray):=by simpa using BO
 have HB0:=zh (za BO0 hb1)
 clear hown hgrow BO BO0 hb1
 rw [hgo] at HB0
 have hgw:go=w.heap.size:=hgo.symm
 rw [hgo]
 clear hgo
 have HGW:=zh hgw
 clear hgw
 go_wp2_with fail
 go_loopw [13] (fun i wr=>∃ (k:Nat) (css:List (List Value)),i=.int .i64 k/\k<=n/\Hid (Els eChg wr (fun b=>go<b) css (x.take k))/\Hid (Blk wr go 126 (css.flatten++Z.drop (k * 3)).toArray/\Below go w wr)) (fun i _=>n - (intOf i).toNat)
 case atStart=>exact ⟨0,[],rfl,Nat.zero_le _,zh (by simpa using Els.nil _ _),HB0⟩
 case round =>
  clear HB0
  obtain ⟨k,css,rfl,hk,HE,HB⟩:=hrel
  rcases Nat.lt_or_ge k n with hlt|hge
  ·have hd:decide ((k:Int)<(n:Int))=true:=by simp;omega
   have hkn:(k:Int)<(n:Int):=by omega
   obtain ⟨y,hy⟩:∃ y,x[k]? = some y:=⟨_,List.getElem?_eq_getElem (by have:=HL.out;omega)⟩
   have HY:=zh hy
   obtain ⟨b0,off,rfl,hnc,hFb,hbl⟩:=HS.out.some_ (by omega)
   have hbw:=HB.out.2
   have hsz:=HB.out.1.lt
   have hS:=HS.out.ext (show Below w.heap.size w wr by rw [<-HGW.out];exact hbw)
   obtain ⟨cs,hcs,hcell⟩:=hS.at_ hy
   have hcl1:cs.length=3:=eChg.len hcs
   have hone:=eChg.one hcs
   have hcz:(Tryz.prog.info? 126).map (·.size)=some cs.length:=by rw [hcl1];kernel_rfl
   have C7:=Blk.new wr 126 (([.string ⟨#[]⟩,.int .i64 0,.slice none 0 0]:List Value)).toArray
   have hth7:=Blk.there (o:=0) (n:=3) C7 (by simp)
   obtain ⟨B7,hg7⟩:=Blk.lay cs 0 C7 (by rw [hcl1];simp)
   rw [qai _ _ (by rw [hcl1];rfl)] at B7
   have hb7:Below wr.heap.size wr ((wr.alloc (.cells #[.string ⟨#[]⟩,.int .i64 0,.slice none 0 0] 126)).setCells wr.heap.size 0 cs):=((zb _ _).alloc (zl _) _).grown hg7 (by simp) (fun k hk=>by injection hk with hk;omega)
   clear hg7 C7
   have hrg:wr.rangeAt b0 (off+k * 3) cs:=fun j u hu=>hcell j u hu
   have HR:=zh hrg
   clear hrg hcell hS hy
   go_upto_region 5 with (first|((with_reducible refine sT 17 ?_);(refine wpList_load_mid rfl 126 _ rfl b0 (off+k * 3) rfl cs _ HR.out Tryz.underlying126 rfl hcz ?_)) |
    ((with_reducible refine sS 7 ?_);(refine wpList_store_mid rfl 126 _ _ rfl wr.heap.size 0 cs.toArray rfl rfl ?s5 ?s6 (all_oneCell_toArray hone) ?_)))
   case s5=>exact (show cs.toArray.size=3 by simp [hcl1]) ▸ hth7
   case s6=>rw [List.size_toArray];exact hcz
   have HC:=zh (eChg.ext hcs hb7)
   clear hcs
   generalize (wr.alloc (.cells #[.string ⟨#[]⟩,.int .i64 0,.slice none 0 0] 126)).setCells wr.heap.size 0 cs=W7 at *
   have HF:=zh (qps HC.out (HK.out y (List.mem_of_getElem? HY.out)))
   go_wp2_with ((with_reducible refine sT 21 ?_);(refine wpList_load_mid rfl 126 _ rfl wr.heap.size 0 rfl cs _ (Blk.whole B7) Tryz.underlying126 rfl hcz ?_))
   refine HF.out.mono ?_
   rintro e w4 ⟨cs4,rfl,hr4,hb4⟩
   clear HF HC B7
   have hcl4:cs4.length=3:=eChg.len hr4
   have hone4:=eChg.one hr4
   have hcz4:(Tryz.prog.info? 126).map (·.size)=some cs4.length:=by rw [hcl4];kernel_rfl
   have hr4:=eChg.mono hr4 (G:=fun b=>go<b) (fun b h=>by have:=hb7.size;omega)
   have hE4:=Els.snoc ((HE.out.ext hb7).ext hb4) HY.out hr4
   have hfl:css.flatten.length=k * 3:=by have h9:=HE.out.flen;rw [List.length_take,Nat.min_eq_left (by have:=HL.out;omega)] at h9;exact h9
   have B4:=(HB.out.1.ext hb7).ext hb4
   have hbw4:=(hbw.trans (zm hb7 (Nat.le_of_lt hsz))).trans (zm hb4 (Nat.le_trans (Nat.le_of_lt hsz) hb7.size))
   have hkk:(k+1) * 3<=n * 3:=Nat.mul_le_mul_right _ hlt
   have hth:=Blk.there (o:=k * 3) (n:=3) B4 (by rw [List.length_append,List.length_drop,hfl,hZl];omega)
   obtain ⟨B5,hg5⟩:=Blk.lay cs4 (k * 3) B4 (by rw [List.length_append,List.length_drop,hfl,hZl];omega)
   rw [qed css.flatten Z cs4 k 3 hfl hcl4 (by rw [hZl];exact hkk)] at B5
   have hE5:=Els.keep hE4 (Keep.grown hg5 (fun g hg hlt=>by injection hg with hg;omega))
   have hbw5:=hbw4.grown hg5 (Nat.le_of_lt B4.lt) (fun k hk=>by injection hk with hk;omega)
   have HE5:=zh hE5
   have HB5:=zh (show Blk _ go 126 ((css++[cs4]).flatten++Z.drop ((k+1) * 3)).toArray/\Below go w _ from ⟨by rw [List.flatten_append,List.flatten_singleton];exact B5,hbw5⟩)
   clear hE5 hg5 B5 hbw5 hE4 hr4 hfl B4 hbw4 hbw
   go_upto_region 6 with ((with_reducible refine sS 23 ?_);(refine wpList_store_mid rfl 126 _ _ rfl go (k * 3) cs4.toArray rfl rfl ?s7 ?s8 (all_oneCell_toArray hone4) ?_))
   case s7=>exact (show cs4.toArray.size=3 by simp [hcl4]) ▸ hth
   case s8=>rw [List.size_toArray];exact hcz4
   generalize w4.setCells go (k * 3) cs4=W5 at *
   clear hth hone hone4
   go_wp2_with fail
   go_roundw
   case rel=>exact ⟨k+1,_,by go_num,by omega,HE5,HB5⟩
   case measure=>simp [intOf];omega
  ·obtain rfl:k=n:=by omega
   have hd:decide ((k:Int)<(k:Int))=false:=by simp
   have hxk:x.length=k:=HL.out
   subst hxk
   have hE:=HE.out
   rw [List.take_length] at hE
   have hB:=HB.out
   rw [List.drop_eq_nil_of_le (by omega),List.append_nil] at hB
   have HR:=zh (show OwnE eChg 126 wr w.heap.size (fun b=>w.heap.size<=b/\(some ⟨go,0,none⟩:Option Addr)≠some ⟨b,0,none⟩) (some ⟨go,0,none⟩) x.length x.length x from ⟨css,qbz hB.1 hE.flen (by rw [HGW.out];exact zl _) hn,hE.mono (fun b h=>⟨by have:=HGW.out;omega,fun e=>by injection e with e;injection e with e;omega⟩),rfl⟩)
   have hbw:Below w.heap.size w wr:=by rw [<-HGW.out];exact hB.2
   clear hE hB HE HB
   go_wp2
   go_ret
   exact ⟨_,rfl,HR.out,hbw⟩
theorem teachChg {x:List Chg} (h:Sl eChg w F A n c x) (hn:x.length<=1000) (hok:∀ y∈x,qgn y):Calls Tryz.prog 31 #[.slice A n c,.func (.func 32) #[] #[]] w (Copied eChg 126 x w):=(qnb h hn hok).mono fun _ _ h=>h.copied
theorem seachRowT {x:List RowD} (h:Sl eRow w F A n c x) (hn:x.length<=1000) (hok:∀ y∈x,qdp y):Calls Tryz.prog 173 #[.slice A n c,.func (.func 174) #[] #[]] w (CopiedT eRow 71 x w):=by
 obtain ⟨i0,hi,hz0,hz1,hz2⟩:=ip Tryz.prog 71 (.slice none 0 0) 1 24
 have HS:=zh h
 have HL:=zh h.len
 have hn:n<=1000:=by have:=h.len;omega
 clear h
 have HK:=zh hok
 clear hok
 go_enter Tryz.func173,Tryz.ntmps173
 go_wp2_with (at_make;refine wpList_make_full _ rfl _ _ 116 rfl w.heap.size 71 i0 (.slice none 0 0) 1 Tryz.underlying116 hi hz0 hz1 _ _ _ _ n rfl rfl rfl rfl ?b2 ?b3 (zl _) ?_)
 case b2=>rw [hz2];omega
 case b3=>unfold maxLen;omega
 intro w1 hown hgrow
 obtain ⟨Z,BO,hZl⟩:=qct hown
 have hb1:=(zb w.heap.size w).grown hgrow (zl _) (fun k hk=>by cases hk)
 obtain ⟨go,hgo⟩:∃ g,w.heap.size=g:=⟨_,rfl⟩
 have BO0:Blk w1 w.heap.size 71 ((([]:List (List Value)).flatten++Z.drop (0 * 1)).toArray):=by simpa using BO
 have HB0:=zh (za BO0 hb1)
 clear hown hgrow BO BO0 hb1
 rw [hgo] at HB0
 have hgw:go=w.heap.size:=hgo.symm
 rw [hgo]
 clear hgo
 have HGW:=zh hgw
 clear hgw
 go_wp2_with fail
 go_loopw [13] (fun i wr=>∃ (k:Nat) (css:List (List Value)),i=.int .i64 k/\k<=n/\Hid (Els eRow wr (fun b=>go<b) css (x.take k))/\Hid (Blk wr go 71 (css.flatten++Z.drop (k * 1)).toArray/\Below go w wr)) (fun i _=>n - (intOf i).toNat)
 case atStart=>exact ⟨0,[],rfl,Nat.zero_le _,zh (by simpa using Els.nil _ _),HB0⟩
 case round =>
  clear HB0
  obtain ⟨k,css,rfl,hk,HE,HB⟩:=hrel
  rcases Nat.lt_or_ge k n with hlt|hge
  ·have hd:decide ((k:Int)<(n:Int))=true:=by simp;omega
   have hkn:(k:Int)<(n:Int):=by omega
   obtain ⟨y,hy⟩:∃ y,x[k]? = some y:=⟨_,List.getElem?_eq_getElem (by have:=HL.out;omega)⟩
   have HY:=zh hy
   obtain ⟨b0,off,rfl,hnc,hFb,hbl⟩:=HS.out.some_ (by omega)
   have hbw:=HB.out.2
   have hsz:=HB.out.1.lt
   have hS:=HS.out.ext (show Below w.heap.size w wr by rw [<-HGW.out];exact hbw)
   obtain ⟨cs,hcs,hcell⟩:=hS.at_ hy
   obtain ⟨Ar,nr,cr,rfl,hSr⟩:=qph hcs
   have q:=hcell 0 _ rfl
   simp only [show eRow.k=1 from rfl,Nat.mul_one,Nat.add_zero] at q
   have HF:=zh (qoy hSr (HK.out y (List.mem_of_getElem? hy)))
   clear hy hcs hcell hSr hS
   go_wp2_with fail
   refine HF.out.mono ?_
   rintro e w4 ⟨A4,c4,rfl,hown4,hb4⟩
   clear q HF
   have hr4:=eRow_mk (hown4.sl (G:=fun b=>go<b) (fun b h _=>by omega) (fun b h=>by have:=h.1;omega))
   have hE4:=Els.snoc (HE.out.ext hb4) HY.out hr4
   have hcl:css.length=k:=by have:=HE.out.1;rw [List.length_take] at this;have:=HL.out;omega
   have hfl:css.flatten.length=k * 1:=by have h9:=HE.out.flen;rw [List.length_take,Nat.min_eq_left (by have:=HL.out;omega)] at h9;exact h9
   have B4:=HB.out.1.ext hb4
   have hbw4:=hbw.trans (zm hb4 (Nat.le_of_lt hsz))
   have q:∃ u,w4.cell? ⟨go,k,none⟩=some u:=by
    rw [B4.cell k]
    exact ⟨_,Array.getElem?_eq_getElem (by simp [hfl,hZl];omega)⟩
   obtain ⟨u,q⟩:=q
   have f:=B4.frozen k
   have B5:=Blk.set_ B4 k (.slice A4 y.length c4)
   rw [show (css.flatten++Z.drop (k * 1)).toArray.setIfInBounds k (Value.slice A4 y.length c4)=((css++[[Value.slice A4 y.length c4]]).flatten++Z.drop ((k+1) * 1)).toArray from by
    have:=qed css.flatten Z [Value.slice A4 y.length c4] k 1 hfl rfl (by rw [hZl,Nat.mul_one,Nat.mul_one];omega)
    rw [Nat.mul_one] at this
    rw [Nat.mul_one,List.setIfInBounds_toArray,List.flatten_append,List.flatten_singleton,<-this]
    unfold laid
    rw [List.set_eq_take_append_cons_drop,if_pos (by rw [List.length_append,List.length_drop,hfl,hZl];omega)]
    simp] at B5
   have hg5:=qac w4 go k (.slice A4 y.length c4)
   have hE5:=Els.keep hE4 (Keep.grown hg5 (fun g hg hlt=>by injection hg with hg;omega))
   have hbw5:=hbw4.grown hg5 (Nat.le_of_lt B4.lt) (fun k hk=>by injection hk with hk;omega)
   have HE5:=zh hE5
   have HB5:=zh (za B5 hbw5)
   clear hE5 hg5 B5 hbw5 hE4 hr4 hown4 hcl hfl B4 hbw4 hbw
   go_wp2
   go_roundw
   case rel=>exact ⟨k+1,_,by go_num,by omega,HE5,HB5⟩
   case measure=>simp [intOf];omega
  ·obtain rfl:k=n:=by omega
   have hd:decide ((k:Int)<(k:Int))=false:=by simp
   have hxk:x.length=k:=HL.out
   subst hxk
   have hE:=HE.out
   rw [List.take_length] at hE
   have hB:=HB.out
   rw [List.drop_eq_nil_of_le (by omega),List.append_nil] at hB
   have HR:=zh (show OwnE eRow 71 wr w.heap.size (fun b=>w.heap.size<=b/\(some ⟨go,0,none⟩:Option Addr)≠some ⟨b,0,none⟩) (some ⟨go,0,none⟩) x.length x.length x from ⟨css,qbz hB.1 hE.flen (by rw [HGW.out];exact zl _) hn,hE.mono (fun b h=>⟨by have:=HGW.out;omega,fun e=>by injection e with e;injection e with e;omega⟩),rfl⟩)
   have hbw:Below w.heap.size w wr:=by rw [<-HGW.out];exact hB.2
   clear hE hB HE HB
   go_wp2
   go_ret
   exact ⟨_,rfl,HR.out,hbw⟩
theorem seachRow {x:List RowD} (h:Sl eRow w F A n c x) (hn:x.length<=1000) (hok:∀ y∈x,qdp y):Calls Tryz.prog 173 #[.slice A n c,.func (.func 174) #[] #[]] w (Copied eRow 71 x w):=(seachRowT h hn hok).mono fun _ _ h=>h.copied
theorem qpq {x:Chg} (h:eChg.rel w F cs x) (hok:qgn x):Calls Tryz.prog 176 #[.agg cs.toArray] w (qfn eChg x w):=by
 obtain ⟨A,n,c,rfl,h2⟩:=qdh h
 have HS:=zh h2
 clear h h2
 go_enter Tryz.func176,Tryz.ntmps176
 go_wp2_with fail
 obtain ⟨W,hW_,hb1,B1,B2⟩:=al2 w 126 126 #[.string x.1,.int .i64 x.2.1,.slice A n c] #[.string ⟨#[]⟩,.int .i64 0,.slice none 0 0]
 rw [<-hW_]
 clear hW_
 have HF:=zh (qoy (HS.out.ext hb1) hok)
 obtain ⟨g2,hg2⟩:∃ g,w.heap.size+1=g:=⟨_,rfl⟩
 have hg2n:w.heap.size<g2:=by omega
 rw [hg2] at B2 ⊢
 clear hg2
 go_wp2_with fail
 refine HF.out.mono ?_
 rintro e w4 ⟨A4,c4,rfl,hown4,hb4⟩
 clear HF
 have HR:=zh (qfi (hown4.sl (G:=fun b=>W.heap.size<=b) (fun b h _=>h) (fun b h=>h.1)))
 have B14:=B1.ext hb4
 have B24:=B2.ext hb4
 have hbw4:=(hb1.tr hb4)
 have hw1:g2<W.heap.size:=B2.lt
 clear hown4 B1 B2 hb4 hb1
 have q:=B14.cell 2
 have f:=B14.frozen 2
 go_upto_region 2 with fail
 have hk5:=Keep.set (F:=fun b=>W.heap.size<=b) w4 ⟨w.heap.size,2,none⟩ (.slice A4 (List.length x.2.2) c4) (show ¬W.heap.size<=w.heap.size by omega)
 have HR5:=zh (eChg.keep HR.out hk5)
 have B15:=B14.set_ 2 (.slice A4 (List.length x.2.2) c4)
 have B25:=Blk.keep (F:=fun b=>b≠w.heap.size) B24 (Keep.grown (qac w4 w.heap.size 2 (.slice A4 (List.length x.2.2) c4)) (fun g hg h=>by injection hg with hg;omega)) (by omega)
 have hbw5:=hbw4.grown (qac w4 w.heap.size 2 (.slice A4 (List.length x.2.2) c4)) (Nat.le_of_lt B14.lt) (fun k hk=>by injection hk with hk;omega)
 obtain ⟨W5,hW5⟩:∃ W,W=w4.setCell ⟨w.heap.size,2,none⟩ (.slice A4 (List.length x.2.2) c4):=⟨_,rfl⟩
 rw [<-hW5] at HR5 B15 B25 hbw5 ⊢
 clear hW5 hk5 B14 B24 HR hbw4 q f
 have B14:=B15
 have B24:=B25
 have HR:=HR5
 have hbw4:=hbw5
 clear B15 B25 HR5 hbw5
 obtain ⟨cz,hcz⟩:∃ z,z=([.string x.1,.int .i64 x.2.1,.slice A4 (List.length x.2.2) c4]:List Value):=⟨_,rfl⟩
 have hczl:cz.length=3:=by rw [hcz];rfl
 have hone:∀ u∈cz,u.oneCell'=true:=HR.out |> fun h=>by rw [hcz];exact eChg.one h
 have hsz:(Tryz.prog.info? 126).map (·.size)=some cz.length:=by rw [hczl];kernel_rfl
 have hth:=Blk.there (o:=0) (n:=3) B24 (by simp)
 have hrg:W5.rangeAt w.heap.size 0 cz:=by rw [hcz];exact Blk.whole B14
 go_wp2_with (first|((with_reducible refine sT 7 ?_);(refine wpList_load_mid rfl 126 _ rfl w.heap.size 0 rfl cz _ hrg Tryz.underlying126 rfl hsz ?_)) |
  ((with_reducible show wpList _ _ _ (Oper.mk none _ _ _ _ _::_) _ _);(refine wpList_store_mid rfl 126 _ _ rfl g2 0 cz.toArray rfl rfl ?s1 ?s2 (all_oneCell_toArray hone) ?_)))
 case s1=>exact (show cz.toArray.size=3 by simp [hczl]) ▸ hth
 case s2=>exact (show cz.toArray.size=cz.length by simp) ▸ hsz
 obtain ⟨B8,hg8⟩:=Blk.lay cz 0 B24 (by rw [hczl];simp)
 rw [qai _ _ (by rw [hczl];rfl)] at B8
 have hbw8:=hbw4.grown hg8 (Nat.le_of_lt (Nat.lt_of_lt_of_le hg2n (Nat.le_of_lt B24.lt))) (fun k hk=>by injection hk with hk;omega)
 have HR8:=zh (eChg.keep HR.out (Keep.grown hg8 (fun g hg h=>by injection hg with hg;omega)))
 generalize W5.setCells g2 0 cz=w8 at *
 clear hth B14 B24 hg8 hrg HR hbw4
 go_wp2
 refine bodyPost_ret (v:=.agg cz.toArray) (results_cell_row rfl _ _ g2 _ _ (0,0) _ rfl B8 Tryz.underlying126 rfl (by rw [List.size_toArray];exact hsz)) rfl ⟨cz,rfl,by rw [hcz];exact eChg.mono HR8.out (fun b h=>by omega),hbw8⟩
theorem seachChgT {x:List Chg} (h:Sl eChg w F A n c x) (hn:x.length<=1000) (hok:∀ y∈x,qgn y):Calls Tryz.prog 175 #[.slice A n c,.func (.func 176) #[] #[]] w (CopiedT eChg 126 x w):=by
 obtain ⟨i0,hi,hz0,hz1,hz2⟩:=ip Tryz.prog 126 (.agg #[.string ⟨#[]⟩,.int .i64 0,.slice none 0 0]) 3 48
 have HS:=zh h
 have HL:=zh h.len
 have hn:n<=1000:=by have:=h.len;omega
 clear h
 have HK:=zh hok
 clear hok
 go_enter Tryz.func175,Tryz.ntmps175
 go_wp2_with (at_make;refine wpList_make_full _ rfl _ _ 51 rfl w.heap.size 126 i0 (.agg #[.string ⟨#[]⟩,.int .i64 0,.slice none 0 0]) 3 Tryz.underlying51 hi hz0 hz1 _ _ _ _ n rfl rfl rfl rfl ?b2 ?b3 (zl _) ?_)
 case b2=>rw [hz2];omega
 case b3=>unfold maxLen;omega
 intro w1 hown hgrow
 obtain ⟨Z,BO,hZl⟩:=qct hown
 have hb1:=(zb w.heap.size w).grown hgrow (zl _) (fun k hk=>by cases hk)
 obtain ⟨go,hgo⟩:∃ g,w.heap.size=g:=⟨_,rfl⟩
 have BO0:Blk w1 w.heap.size 126 ((([]:List (List Value)).flatten++Z.drop (0 * 3)).toArray):=by simpa using BO
 have HB0:=zh (za BO0 hb1)
 clear hown hgrow BO BO0 hb1
 rw [hgo] at HB0
 have hgw:go=w.heap.size:=hgo.symm
 rw [hgo]
 clear hgo
 have HGW:=zh hgw
 clear hgw
 go_wp2_with fail
 go_loopw [13] (fun i wr=>∃ (k:Nat) (css:List (List Value)),i=.int .i64 k/\k<=n/\Hid (Els eChg wr (fun b=>go<b) css (x.take k))/\Hid (Blk wr go 126 (css.flatten++Z.drop (k * 3)).toArray/\Below go w wr)) (fun i _=>n - (intOf i).toNat)
 case atStart=>exact ⟨0,[],rfl,Nat.zero_le _,zh (by simpa using Els.nil _ _),HB0⟩
 case round =>
  clear HB0
  obtain ⟨k,css,rfl,hk,HE,HB⟩:=hrel
  rcases Nat.lt_or_ge k n with hlt|hge
  ·have hd:decide ((k:Int)<(n:Int))=true:=by simp;omega
   have hkn:(k:Int)<(n:Int):=by omega
   obtain ⟨y,hy⟩:∃ y,x[k]? = some y:=⟨_,List.getElem?_eq_getElem (by have:=HL.out;omega)⟩
   have HY:=zh hy
   obtain ⟨b0,off,rfl,hnc,hFb,hbl⟩:=HS.out.some_ (by omega)
   have hbw:=HB.out.2
   have hsz:=HB.out.1.lt
   have hS:=HS.out.ext (show Below w.heap.size w wr by rw [<-HGW.out];exact hbw)
   obtain ⟨cs,hcs,hcell⟩:=hS.at_ hy
   have hcl1:cs.length=3:=eChg.len hcs
   have hone:=eChg.one hcs
   have hcz:(Tryz.prog.info? 126).map (·.size)=some cs.length:=by rw [hcl1];kernel_rfl
   have C7:=Blk.new wr 126 (([.string ⟨#[]⟩,.int .i64 0,.slice none 0 0]:List Value)).toArray
   have hth7:=Blk.there (o:=0) (n:=3) C7 (by simp)
   obtain ⟨B7,hg7⟩:=Blk.lay cs 0 C7 (by rw [hcl1];simp)
   rw [qai _ _ (by rw [hcl1];rfl)] at B7
   have hb7:Below wr.heap.size wr ((wr.alloc (.cells #[.string ⟨#[]⟩,.int .i64 0,.slice none 0 0] 126)).setCells wr.heap.size 0 cs):=((zb _ _).alloc (zl _) _).grown hg7 (by simp) (fun k hk=>by injection hk with hk;omega)
   clear hg7 C7
   have hrg:wr.rangeAt b0 (off+k * 3) cs:=fun j u hu=>hcell j u hu
   have HR:=zh hrg
   clear hrg hcell hS hy
   go_upto_region 5 with (first|((with_reducible refine sT 17 ?_);(refine wpList_load_mid rfl 126 _ rfl b0 (off+k * 3) rfl cs _ HR.out Tryz.underlying126 rfl hcz ?_)) |
    ((with_reducible refine sS 7 ?_);(refine wpList_store_mid rfl 126 _ _ rfl wr.heap.size 0 cs.toArray rfl rfl ?s5 ?s6 (all_oneCell_toArray hone) ?_)))
   case s5=>exact (show cs.toArray.size=3 by simp [hcl1]) ▸ hth7
   case s6=>rw [List.size_toArray];exact hcz
   have HC:=zh (eChg.ext hcs hb7)
   clear hcs
   generalize (wr.alloc (.cells #[.string ⟨#[]⟩,.int .i64 0,.slice none 0 0] 126)).setCells wr.heap.size 0 cs=W7 at *
   have HF:=zh (qpq HC.out (HK.out y (List.mem_of_getElem? HY.out)))
   go_wp2_with ((with_reducible refine sT 21 ?_);(refine wpList_load_mid rfl 126 _ rfl wr.heap.size 0 rfl cs _ (Blk.whole B7) Tryz.underlying126 rfl hcz ?_))
   refine HF.out.mono ?_
   rintro e w4 ⟨cs4,rfl,hr4,hb4⟩
   clear HF HC B7
   have hcl4:cs4.length=3:=eChg.len hr4
   have hone4:=eChg.one hr4
   have hcz4:(Tryz.prog.info? 126).map (·.size)=some cs4.length:=by rw [hcl4];kernel_rfl
   have hr4:=eChg.mono hr4 (G:=fun b=>go<b) (fun b h=>by have:=hb7.size;omega)
   have hE4:=Els.snoc ((HE.out.ext hb7).ext hb4) HY.out hr4
   have hfl:css.flatten.length=k * 3:=by have h9:=HE.out.flen;rw [List.length_take,Nat.min_eq_left (by have:=HL.out;omega)] at h9;exact h9
   have B4:=(HB.out.1.ext hb7).ext hb4
   have hbw4:=(hbw.trans (zm hb7 (Nat.le_of_lt hsz))).trans (zm hb4 (Nat.le_trans (Nat.le_of_lt hsz) hb7.size))
   have hkk:(k+1) * 3<=n * 3:=Nat.mul_le_mul_right _ hlt
   have hth:=Blk.there (o:=k * 3) (n:=3) B4 (by rw [List.length_append,List.length_drop,hfl,hZl];omega)
   obtain ⟨B5,hg5⟩:=Blk.lay cs4 (k * 3) B4 (by rw [List.length_append,List.length_drop,hfl,hZl];omega)
   rw [qed css.flatten Z cs4 k 3 hfl hcl4 (by rw [hZl];exact hkk)] at B5
   have hE5:=Els.keep hE4 (Keep.grown hg5 (fun g hg hlt=>by injection hg with hg;omega))
   have hbw5:=hbw4.grown hg5 (Nat.le_of_lt B4.lt) (fun k hk=>by injection hk with hk;omega)
   have HE5:=zh hE5
   have HB5:=zh (show Blk _ go 126 ((css++[cs4]).flatten++Z.drop ((k+1) * 3)).toArray/\Below go w _ from ⟨by rw [List.flatten_append,List.flatten_singleton];exact B5,hbw5⟩)
   clear hE5 hg5 B5 hbw5 hE4 hr4 hfl B4 hbw4 hbw
   go_upto_region 6 with ((with_reducible refine sS 23 ?_);(refine wpList_store_mid rfl 126 _ _ rfl go (k * 3) cs4.toArray rfl rfl ?s7 ?s8 (all_oneCell_toArray hone4) ?_))
   case s7=>exact (show cs4.toArray.size=3 by simp [hcl4]) ▸ hth
   case s8=>rw [List.size_toArray];exact hcz4
   generalize w4.setCells go (k * 3) cs4=W5 at *
   clear hth hone hone4
   go_wp2_with fail
   go_roundw
   case rel=>exact ⟨k+1,_,by go_num,by omega,HE5,HB5⟩
   case measure=>simp [intOf];omega
  ·obtain rfl:k=n:=by omega
   have hd:decide ((k:Int)<(k:Int))=false:=by simp
   have hxk:x.length=k:=HL.out
   subst hxk
   have hE:=HE.out
   rw [List.take_length] at hE
   have hB:=HB.out
   rw [List.drop_eq_nil_of_le (by omega),List.append_nil] at hB
   have HR:=zh (show OwnE eChg 126 wr w.heap.size (fun b=>w.heap.size<=b/\(some ⟨go,0,none⟩:Option Addr)≠some ⟨b,0,none⟩) (some ⟨go,0,none⟩) x.length x.length x from ⟨css,qbz hB.1 hE.flen (by rw [HGW.out];exact zl _) hn,hE.mono (fun b h=>⟨by have:=HGW.out;omega,fun e=>by injection e with e;injection e with e;omega⟩),rfl⟩)
   have hbw:Below w.heap.size w wr:=by rw [<-HGW.out];exact hB.2
   clear hE hB HE HB
   go_wp2
   go_ret
   exact ⟨_,rfl,HR.out,hbw⟩
theorem qlq {x:Tab} (h:eTab.rel w F cs x) (hok:qeh x):Calls Tryz.prog 67 #[.agg cs.toArray] w (qfn eTab x w):=by
 obtain ⟨A,n,c,A2,n2,c2,rfl,h1,h2⟩:=qbo h
 have HS1:=zh h1
 have HS2:=zh h2
 have hn1:n<=1000:=by have:=h1.len;have:=hok.1;omega
 have HOK:=zh hok
 clear h h1 h2 hok
 go_enter Tryz.func67,Tryz.ntmps67
 go_wp2_with fail
 obtain ⟨W,hW_,hb1,B1,B2⟩:=al2 w 120 120 #[.string x.1.1,.slice A n c,.int .i64 x.1.2.2.1,.bool x.1.2.2.2,.slice A2 n2 c2] #[.string ⟨#[]⟩,.slice none 0 0,.int .i64 0,.bool false,.slice none 0 0]
 rw [<-hW_]
 clear hW_
 have HF:=zh (copyC (HS1.out.ext hb1) (by omega))
 obtain ⟨g2,hg2⟩:∃ g,w.heap.size+1=g:=⟨_,rfl⟩
 have hg2n:w.heap.size<g2:=by omega
 rw [hg2] at B2 ⊢
 clear hg2 HS1
 go_wp2_with fail
 refine HF.out.mono ?_
 rintro e w4 ⟨A4,c4,rfl,hown4,hb4⟩
 clear HF
 have B14:=B1.ext hb4
 have B24:=B2.ext hb4
 have hbw4:=(hb1.tr hb4)
 have hw1:g2<W.heap.size:=B2.lt
 have hWs:=hb4.size
 have hown4s:=hown4.sl (G:=fun b=>W.heap.size<=b) (fun b h _=>Nat.le_trans (zl _) h) (fun b h=>Nat.le_trans (zl _) h.1)
 have HC:=zh hown4s
 clear hown4 hown4s
 clear B1 B2 hb4 hb1
 have q:=B14.cell 1
 have f:=B14.frozen 1
 go_upto_region 2 with fail
 have hk5:=Keep.set (F:=fun b=>W.heap.size<=b) w4 ⟨w.heap.size,1,none⟩ (.slice A4 (List.length x.1.2.1) c4) (show ¬W.heap.size<=w.heap.size by omega)
 have HC5:=zh (HC.out.keep hk5)
 have B15:=B14.set_ 1 (.slice A4 (List.length x.1.2.1) c4)
 have B25:=Blk.keep (F:=fun b=>b≠w.heap.size) B24 (Keep.grown (qac w4 w.heap.size 1 (.slice A4 (List.length x.1.2.1) c4)) (fun g hg h=>by injection hg with hg;omega)) (by omega)
 have hbw5:=hbw4.grown (qac w4 w.heap.size 1 (.slice A4 (List.length x.1.2.1) c4)) (Nat.le_of_lt B14.lt) (fun k hk=>by injection hk with hk;omega)
 have hWs5:W.heap.size<=(w4.setCell ⟨w.heap.size,1,none⟩ (.slice A4 (List.length x.1.2.1) c4)).heap.size:=Nat.le_trans hWs (qac w4 w.heap.size 1 (.slice A4 (List.length x.1.2.1) c4)).size
 obtain ⟨W5,hW5⟩:∃ W,W=w4.setCell ⟨w.heap.size,1,none⟩ (.slice A4 (List.length x.1.2.1) c4):=⟨_,rfl⟩
 rw [<-hW5] at HC5 B15 B25 hbw5 hWs5 ⊢
 clear hW5 hk5 B14 B24 HC hbw4 q f hWs
 have B14:=B15
 have B24:=B25
 have hWs:=hWs5
 have HC:=HC5
 have hbw4:=hbw5
 clear B15 B25 hbw5 hWs5 HC5
 have HF:=zh (teachRow (HS2.out.ext hbw4) HOK.out.2.1 HOK.out.2.2)
 have q:W5.cell? ⟨w.heap.size,4,none⟩=some (.slice A2 n2 c2):=B14.cell 4
 go_wp2_with fail
 refine HF.out.mono ?_
 rintro e w6 ⟨A5,c5,rfl,hown4,hb4⟩
 clear HF q
 have HFI:=zh hown4.fine
 have HC6:=zh (HC.out.ext hb4)
 have B16:=B14.ext hb4
 have B26:=B24.ext hb4
 have hbw6:=(hbw4.tr hb4)
 have hWs6:=Nat.le_trans hWs hb4.size
 have hown4s:=hown4.sl (G:=fun b=>W.heap.size<=b) (fun b h _=>Nat.le_trans hWs h) (fun b h=>Nat.le_trans hWs h.1)
 have HD:=zh hown4s
 clear hown4 hown4s
 clear B14 B24 hb4 hbw4 HC hWs
 have B14:=B16
 have B24:=B26
 have hbw4:=hbw6
 have HC:=HC6
 have hWs:=hWs6
 clear B16 B26 hbw6 HC6 hWs6
 clear W5
 have q:=B14.cell 4
 have f:=B14.frozen 4
 go_upto_region 3 with fail
 have hk5:=Keep.set (F:=fun b=>W.heap.size<=b) w6 ⟨w.heap.size,4,none⟩ (.slice A5 (List.length x.2) c5) (show ¬W.heap.size<=w.heap.size by omega)
 have HC5:=zh (HC.out.keep hk5)
 have HD5:=zh (HD.out.keep hk5)
 have B15:=B14.set_ 4 (.slice A5 (List.length x.2) c5)
 have B25:=Blk.keep (F:=fun b=>b≠w.heap.size) B24 (Keep.grown (qac w6 w.heap.size 4 (.slice A5 (List.length x.2) c5)) (fun g hg h=>by injection hg with hg;omega)) (by omega)
 have hbw5:=hbw4.grown (qac w6 w.heap.size 4 (.slice A5 (List.length x.2) c5)) (Nat.le_of_lt B14.lt) (fun k hk=>by injection hk with hk;omega)
 have hWs5:W.heap.size<=(w6.setCell ⟨w.heap.size,4,none⟩ (.slice A5 (List.length x.2) c5)).heap.size:=Nat.le_trans hWs (qac w6 w.heap.size 4 (.slice A5 (List.length x.2) c5)).size
 obtain ⟨W5,hW5⟩:∃ W,W=w6.setCell ⟨w.heap.size,4,none⟩ (.slice A5 (List.length x.2) c5):=⟨_,rfl⟩
 rw [<-hW5] at HC5 HD5 B15 B25 hbw5 hWs5 ⊢
 clear hW5 hk5 B14 B24 HC HD hbw4 q f hWs
 have B14:=B15
 have B24:=B25
 have hWs:=hWs5
 have HC:=HC5
 have HD:=HD5
 have hbw4:=hbw5
 clear B15 B25 hbw5 hWs5 HC5 HD5
 have HR:=zh (qho (x:=x) HC.out HD.out HFI.out)
 clear HC HD
 obtain ⟨cz,hcz⟩:∃ z,z=([.string x.1.1,.slice A4 x.1.2.1.length c4,.int .i64 x.1.2.2.1,.bool x.1.2.2.2,.slice A5 x.2.length c5]:List Value):=⟨_,rfl⟩
 have hczl:cz.length=5:=by rw [hcz];rfl
 have hone:∀ u∈cz,u.oneCell'=true:=HR.out |> fun h=>by rw [hcz];exact eTab.one h
 have hsz:(Tryz.prog.info? 120).map (·.size)=some cz.length:=by rw [hczl];kernel_rfl
 have hth:=Blk.there (o:=0) (n:=5) B24 (by simp)
 have hrg:W5.rangeAt w.heap.size 0 cz:=by rw [hcz];exact Blk.whole B14
 go_wp2_with (first|((with_reducible refine sT 13 ?_);(refine wpList_load_mid rfl 120 _ rfl w.heap.size 0 rfl cz _ hrg Tryz.underlying120 rfl hsz ?_)) |
  ((with_reducible show wpList _ _ _ (Oper.mk none _ _ _ _ _::_) _ _);(refine wpList_store_mid rfl 120 _ _ rfl g2 0 cz.toArray rfl rfl ?s1 ?s2 (all_oneCell_toArray hone) ?_)))
 case s1=>exact (show cz.toArray.size=5 by simp [hczl]) ▸ hth
 case s2=>exact (show cz.toArray.size=cz.length by simp) ▸ hsz
 obtain ⟨B8,hg8⟩:=Blk.lay cz 0 B24 (by rw [hczl];simp)
 rw [qai _ _ (by rw [hczl];rfl)] at B8
 have hbw8:=hbw4.grown hg8 (Nat.le_of_lt (Nat.lt_of_lt_of_le hg2n (Nat.le_of_lt B24.lt))) (fun k hk=>by injection hk with hk;omega)
 have HR8:=zh (eTab.keep HR.out (Keep.grown hg8 (fun g hg h=>by injection hg with hg;omega)))
 generalize W5.setCells g2 0 cz=w8 at *
 clear hth B14 B24 hg8 hrg HR hbw4
 go_wp2
 refine bodyPost_ret (v:=.agg cz.toArray) (results_cell_row rfl _ _ g2 _ _ (0,0) _ rfl B8 Tryz.underlying120 rfl (by rw [List.size_toArray];exact hsz)) rfl ⟨cz,rfl,by rw [hcz];exact eTab.mono HR8.out (fun b h=>by omega),hbw8⟩
theorem teachTabT {x:List Tab} (h:Sl eTab w F A n c x) (hn:x.length<=1000) (hok:∀ y∈x,qeh y):Calls Tryz.prog 73 #[.slice A n c,.func (.func 67) #[] #[]] w (CopiedT eTab 120 x w):=by
 obtain ⟨i0,hi,hz0,hz1,hz2⟩:=ip Tryz.prog 120 (.agg #[.string ⟨#[]⟩,.slice none 0 0,.int .i64 0,.bool false,.slice none 0 0]) 5 80
 have HS:=zh h
 have HL:=zh h.len
 have hn:n<=1000:=by have:=h.len;omega
 clear h
 have HK:=zh hok
 clear hok
 go_enter Tryz.func73,Tryz.ntmps73
 go_wp2_with (at_make;refine wpList_make_full _ rfl _ _ 25 rfl w.heap.size 120 i0 (.agg #[.string ⟨#[]⟩,.slice none 0 0,.int .i64 0,.bool false,.slice none 0 0]) 5 Tryz.underlying25 hi hz0 hz1 _ _ _ _ n rfl rfl rfl rfl ?b2 ?b3 (zl _) ?_)
 case b2=>rw [hz2];omega
 case b3=>unfold maxLen;omega
 intro w1 hown hgrow
 obtain ⟨Z,BO,hZl⟩:=qct hown
 have hb1:=(zb w.heap.size w).grown hgrow (zl _) (fun k hk=>by cases hk)
 obtain ⟨go,hgo⟩:∃ g,w.heap.size=g:=⟨_,rfl⟩
 have BO0:Blk w1 w.heap.size 120 ((([]:List (List Value)).flatten++Z.drop (0 * 5)).toArray):=by simpa using BO
 have HB0:=zh (za BO0 hb1)
 clear hown hgrow BO BO0 hb1
 rw [hgo] at HB0
 have hgw:go=w.heap.size:=hgo.symm
 rw [hgo]
 clear hgo
 have HGW:=zh hgw
 clear hgw
 go_wp2_with fail
 go_loopw [13] (fun i wr=>∃ (k:Nat) (css:List (List Value)),i=.int .i64 k/\k<=n/\Hid (Els eTab wr (fun b=>go<b) css (x.take k))/\Hid (Blk wr go 120 (css.flatten++Z.drop (k * 5)).toArray/\Below go w wr)) (fun i _=>n - (intOf i).toNat)
 case atStart=>exact ⟨0,[],rfl,Nat.zero_le _,zh (by simpa using Els.nil _ _),HB0⟩
 case round =>
  clear HB0
  obtain ⟨k,css,rfl,hk,HE,HB⟩:=hrel
  rcases Nat.lt_or_ge k n with hlt|hge
  ·have hd:decide ((k:Int)<(n:Int))=true:=by simp;omega
   have hkn:(k:Int)<(n:Int):=by omega
   obtain ⟨y,hy⟩:∃ y,x[k]? = some y:=⟨_,List.getElem?_eq_getElem (by have:=HL.out;omega)⟩
   have HY:=zh hy
   obtain ⟨b0,off,rfl,hnc,hFb,hbl⟩:=HS.out.some_ (by omega)
   have hbw:=HB.out.2
   have hsz:=HB.out.1.lt
   have hS:=HS.out.ext (show Below w.heap.size w wr by rw [<-HGW.out];exact hbw)
   obtain ⟨cs,hcs,hcell⟩:=hS.at_ hy
   have hcl1:cs.length=5:=eTab.len hcs
   have hone:=eTab.one hcs
   have hcz:(Tryz.prog.info? 120).map (·.size)=some cs.length:=by rw [hcl1];kernel_rfl
   have C7:=Blk.new wr 120 (([.string ⟨#[]⟩,.slice none 0 0,.int .i64 0,.bool false,.slice none 0 0]:List Value)).toArray
   have hth7:=Blk.there (o:=0) (n:=5) C7 (by simp)
   obtain ⟨B7,hg7⟩:=Blk.lay cs 0 C7 (by rw [hcl1];simp)
   rw [qai _ _ (by rw [hcl1];rfl)] at B7
   have hb7:Below wr.heap.size wr ((wr.alloc (.cells #[.string ⟨#[]⟩,.slice none 0 0,.int .i64 0,.bool false,.slice none 0 0] 120)).setCells wr.heap.size 0 cs):=((zb _ _).alloc (zl _) _).grown hg7 (by simp) (fun k hk=>by injection hk with hk;omega)
   clear hg7 C7
   have hrg:wr.rangeAt b0 (off+k * 5) cs:=fun j u hu=>hcell j u hu
   have HR:=zh hrg
   clear hrg hcell hS hy
   go_upto_region 5 with (first|((with_reducible refine sT 17 ?_);(refine wpList_load_mid rfl 120 _ rfl b0 (off+k * 5) rfl cs _ HR.out Tryz.underlying120 rfl hcz ?_)) |
    ((with_reducible refine sS 7 ?_);(refine wpList_store_mid rfl 120 _ _ rfl wr.heap.size 0 cs.toArray rfl rfl ?s5 ?s6 (all_oneCell_toArray hone) ?_)))
   case s5=>exact (show cs.toArray.size=5 by simp [hcl1]) ▸ hth7
   case s6=>rw [List.size_toArray];exact hcz
   have HC:=zh (eTab.ext hcs hb7)
   clear hcs
   generalize (wr.alloc (.cells #[.string ⟨#[]⟩,.slice none 0 0,.int .i64 0,.bool false,.slice none 0 0] 120)).setCells wr.heap.size 0 cs=W7 at *
   have HF:=zh (qlq HC.out (HK.out y (List.mem_of_getElem? HY.out)))
   go_wp2_with ((with_reducible refine sT 21 ?_);(refine wpList_load_mid rfl 120 _ rfl wr.heap.size 0 rfl cs _ (Blk.whole B7) Tryz.underlying120 rfl hcz ?_))
   refine HF.out.mono ?_
   rintro e w4 ⟨cs4,rfl,hr4,hb4⟩
   clear HF HC B7
   have hcl4:cs4.length=5:=eTab.len hr4
   have hone4:=eTab.one hr4
   have hcz4:(Tryz.prog.info? 120).map (·.size)=some cs4.length:=by rw [hcl4];kernel_rfl
   have hr4:=eTab.mono hr4 (G:=fun b=>go<b) (fun b h=>by have:=hb7.size;omega)
   have hE4:=Els.snoc ((HE.out.ext hb7).ext hb4) HY.out hr4
   have hfl:css.flatten.length=k * 5:=by have h9:=HE.out.flen;rw [List.length_take,Nat.min_eq_left (by have:=HL.out;omega)] at h9;exact h9
   have B4:=(HB.out.1.ext hb7).ext hb4
   have hbw4:=(hbw.trans (zm hb7 (Nat.le_of_lt hsz))).trans (zm hb4 (Nat.le_trans (Nat.le_of_lt hsz) hb7.size))
   have hkk:(k+1) * 5<=n * 5:=Nat.mul_le_mul_right _ hlt
   have hth:=Blk.there (o:=k * 5) (n:=5) B4 (by rw [List.length_append,List.length_drop,hfl,hZl];omega)
   obtain ⟨B5,hg5⟩:=Blk.lay cs4 (k * 5) B4 (by rw [List.length_append,List.length_drop,hfl,hZl];omega)
   rw [qed css.flatten Z cs4 k 5 hfl hcl4 (by rw [hZl];exact hkk)] at B5
   have hE5:=Els.keep hE4 (Keep.grown hg5 (fun g hg hlt=>by injection hg with hg;omega))
   have hbw5:=hbw4.grown hg5 (Nat.le_of_lt B4.lt) (fun k hk=>by injection hk with hk;omega)
   have HE5:=zh hE5
   have HB5:=zh (show Blk _ go 120 ((css++[cs4]).flatten++Z.drop ((k+1) * 5)).toArray/\Below go w _ from ⟨by rw [List.flatten_append,List.flatten_singleton];exact B5,hbw5⟩)
   clear hE5 hg5 B5 hbw5 hE4 hr4 hfl B4 hbw4 hbw
   go_upto_region 6 with ((with_reducible refine sS 23 ?_);(refine wpList_store_mid rfl 120 _ _ rfl go (k * 5) cs4.toArray rfl rfl ?s7 ?s8 (all_oneCell_toArray hone4) ?_))
   case s7=>exact (show cs4.toArray.size=5 by simp [hcl4]) ▸ hth
   case s8=>rw [List.size_toArray];exact hcz4
   generalize w4.setCells go (k * 5) cs4=W5 at *
   clear hth hone hone4
   go_wp2_with fail
   go_roundw
   case rel=>exact ⟨k+1,_,by go_num,by omega,HE5,HB5⟩
   case measure=>simp [intOf];omega
  ·obtain rfl:k=n:=by omega
   have hd:decide ((k:Int)<(k:Int))=false:=by simp
   have hxk:x.length=k:=HL.out
   subst hxk
   have hE:=HE.out
   rw [List.take_length] at hE
   have hB:=HB.out
   rw [List.drop_eq_nil_of_le (by omega),List.append_nil] at hB
   have HR:=zh (show OwnE eTab 120 wr w.heap.size (fun b=>w.heap.size<=b/\(some ⟨go,0,none⟩:Option Addr)≠some ⟨b,0,none⟩) (some ⟨go,0,none⟩) x.length x.length x from ⟨css,qbz hB.1 hE.flen (by rw [HGW.out];exact zl _) hn,hE.mono (fun b h=>⟨by have:=HGW.out;omega,fun e=>by injection e with e;injection e with e;omega⟩),rfl⟩)
   have hbw:Below w.heap.size w wr:=by rw [<-HGW.out];exact hB.2
   clear hE hB HE HB
   go_wp2
   go_ret
   exact ⟨_,rfl,HR.out,hbw⟩
theorem teachTab {x:List Tab} (h:Sl eTab w F A n c x) (hn:x.length<=1000) (hok:∀ y∈x,qeh y):Calls Tryz.prog 73 #[.slice A n c,.func (.func 67) #[] #[]] w (Copied eTab 120 x w):=(teachTabT h hn hok).mono fun _ _ h=>h.copied
theorem qpv {x:Tab} (h:eTab.rel w F cs x) (hok:qeh x):Calls Tryz.prog 102 #[.agg cs.toArray] w (qfn eTab x w):=by
 obtain ⟨A,n,c,A2,n2,c2,rfl,h1,h2⟩:=qbo h
 have HS1:=zh h1
 have HS2:=zh h2
 have hn1:n<=1000:=by have:=h1.len;have:=hok.1;omega
 have HOK:=zh hok
 clear h h1 h2 hok
 go_enter Tryz.func102,Tryz.ntmps102
 go_wp2_with fail
 obtain ⟨W,hW_,hb1,B1,B2⟩:=al2 w 120 120 #[.string x.1.1,.slice A n c,.int .i64 x.1.2.2.1,.bool x.1.2.2.2,.slice A2 n2 c2] #[.string ⟨#[]⟩,.slice none 0 0,.int .i64 0,.bool false,.slice none 0 0]
 rw [<-hW_]
 clear hW_
 have HF:=zh (copyC (HS1.out.ext hb1) (by omega))
 obtain ⟨g2,hg2⟩:∃ g,w.heap.size+1=g:=⟨_,rfl⟩
 have hg2n:w.heap.size<g2:=by omega
 rw [hg2] at B2 ⊢
 clear hg2 HS1
 go_wp2_with fail
 refine HF.out.mono ?_
 rintro e w4 ⟨A4,c4,rfl,hown4,hb4⟩
 clear HF
 have B14:=B1.ext hb4
 have B24:=B2.ext hb4
 have hbw4:=(hb1.tr hb4)
 have hw1:g2<W.heap.size:=B2.lt
 have hWs:=hb4.size
 have hown4s:=hown4.sl (G:=fun b=>W.heap.size<=b) (fun b h _=>Nat.le_trans (zl _) h) (fun b h=>Nat.le_trans (zl _) h.1)
 have HC:=zh hown4s
 clear hown4 hown4s
 clear B1 B2 hb4 hb1
 have q:=B14.cell 1
 have f:=B14.frozen 1
 go_upto_region 2 with fail
 have hk5:=Keep.set (F:=fun b=>W.heap.size<=b) w4 ⟨w.heap.size,1,none⟩ (.slice A4 (List.length x.1.2.1) c4) (show ¬W.heap.size<=w.heap.size by omega)
 have HC5:=zh (HC.out.keep hk5)
 have B15:=B14.set_ 1 (.slice A4 (List.length x.1.2.1) c4)
 have B25:=Blk.keep (F:=fun b=>b≠w.heap.size) B24 (Keep.grown (qac w4 w.heap.size 1 (.slice A4 (List.length x.1.2.1) c4)) (fun g hg h=>by injection hg with hg;omega)) (by omega)
 have hbw5:=hbw4.grown (qac w4 w.heap.size 1 (.slice A4 (List.length x.1.2.1) c4)) (Nat.le_of_lt B14.lt) (fun k hk=>by injection hk with hk;omega)
 have hWs5:W.heap.size<=(w4.setCell ⟨w.heap.size,1,none⟩ (.slice A4 (List.length x.1.2.1) c4)).heap.size:=Nat.le_trans hWs (qac w4 w.heap.size 1 (.slice A4 (List.length x.1.2.1) c4)).size
 obtain ⟨W5,hW5⟩:∃ W,W=w4.setCell ⟨w.heap.size,1,none⟩ (.slice A4 (List.length x.1.2.1) c4):=⟨_,rfl⟩
 rw [<-hW5] at HC5 B15 B25 hbw5 hWs5 ⊢
 clear hW5 hk5 B14 B24 HC hbw4 q f hWs
 have B14:=B15
 have B24:=B25
 have hWs:=hWs5
 have HC:=HC5
 have hbw4:=hbw5
 clear B15 B25 hbw5 hWs5 HC5
 have HF:=zh (seachRow (HS2.out.ext hbw4) HOK.out.2.1 HOK.out.2.2)
 have q:W5.cell? ⟨w.heap.size,4,none⟩=some (.slice A2 n2 c2):=B14.cell 4
 go_wp2_with fail
 refine HF.out.mono ?_
 rintro e w6 ⟨A5,c5,rfl,hown4,hb4⟩
 clear HF q
 have HFI:=zh hown4.fine
 have HC6:=zh (HC.out.ext hb4)
 have B16:=B14.ext hb4
 have B26:=B24.ext hb4
 have hbw6:=(hbw4.tr hb4)
 have hWs6:=Nat.le_trans hWs hb4.size
 have hown4s:=hown4.sl (G:=fun b=>W.heap.size<=b) (fun b h _=>Nat.le_trans hWs h) (fun b h=>Nat.le_trans hWs h.1)
 have HD:=zh hown4s
 clear hown4 hown4s
 clear B14 B24 hb4 hbw4 HC hWs
 have B14:=B16
 have B24:=B26
 have hbw4:=hbw6
 have HC:=HC6
 have hWs:=hWs6
 clear B16 B26 hbw6 HC6 hWs6
 clear W5
 have q:=B14.cell 4
 have f:=B14.frozen 4
 go_upto_region 3 with fail
 have hk5:=Keep.set (F:=fun b=>W.heap.size<=b) w6 ⟨w.heap.size,4,none⟩ (.slice A5 (List.length x.2) c5) (show ¬W.heap.size<=w.heap.size by omega)
 have HC5:=zh (HC.out.keep hk5)
 have HD5:=zh (HD.out.keep hk5)
 have B15:=B14.set_ 4 (.slice A5 (List.length x.2) c5)
 have B25:=Blk.keep (F:=fun b=>b≠w.heap.size) B24 (Keep.grown (qac w6 w.heap.size 4 (.slice A5 (List.length x.2) c5)) (fun g hg h=>by injection hg with hg;omega)) (by omega)
 have hbw5:=hbw4.grown (qac w6 w.heap.size 4 (.slice A5 (List.length x.2) c5)) (Nat.le_of_lt B14.lt) (fun k hk=>by injection hk with hk;omega)
 have hWs5:W.heap.size<=(w6.setCell ⟨w.heap.size,4,none⟩ (.slice A5 (List.length x.2) c5)).heap.size:=Nat.le_trans hWs (qac w6 w.heap.size 4 (.slice A5 (List.length x.2) c5)).size
 obtain ⟨W5,hW5⟩:∃ W,W=w6.setCell ⟨w.heap.size,4,none⟩ (.slice A5 (List.length x.2) c5):=⟨_,rfl⟩
 rw [<-hW5] at HC5 HD5 B15 B25 hbw5 hWs5 ⊢
 clear hW5 hk5 B14 B24 HC HD hbw4 q f hWs
 have B14:=B15
 have B24:=B25
 have hWs:=hWs5
 have HC:=HC5
 have HD:=HD5
 have hbw4:=hbw5
 clear B15 B25 hbw5 hWs5 HC5 HD5
 have HR:=zh (qho (x:=x) HC.out HD.out HFI.out)
 clear HC HD
 obtain ⟨cz,hcz⟩:∃ z,z=([.string x.1.1,.slice A4 x.1.2.1.length c4,.int .i64 x.1.2.2.1,.bool x.1.2.2.2,.slice A5 x.2.length c5]:List Value):=⟨_,rfl⟩
 have hczl:cz.length=5:=by rw [hcz];rfl
 have hone:∀ u∈cz,u.oneCell'=true:=HR.out |> fun h=>by rw [hcz];exact eTab.one h
 have hsz:(Tryz.prog.info? 120).map (·.size)=some cz.length:=by rw [hczl];kernel_rfl
 have hth:=Blk.there (o:=0) (n:=5) B24 (by simp)
 have hrg:W5.rangeAt w.heap.size 0 cz:=by rw [hcz];exact Blk.whole B14
 go_wp2_with (first|((with_reducible refine sT 13 ?_);(refine wpList_load_mid rfl 120 _ rfl w.heap.size 0 rfl cz _ hrg Tryz.underlying120 rfl hsz ?_)) |
  ((with_reducible show wpList _ _ _ (Oper.mk none _ _ _ _ _::_) _ _);(refine wpList_store_mid rfl 120 _ _ rfl g2 0 cz.toArray rfl rfl ?s1 ?s2 (all_oneCell_toArray hone) ?_)))
 case s1=>exact (show cz.toArray.size=5 by simp [hczl]) ▸ hth
 case s2=>exact (show cz.toArray.size=cz.length by simp) ▸ hsz
 obtain ⟨B8,hg8⟩:=Blk.lay cz 0 B24 (by rw [hczl];simp)
 rw [qai _ _ (by rw [hczl];rfl)] at B8
 have hbw8:=hbw4.grown hg8 (Nat.le_of_lt (Nat.lt_of_lt_of_le hg2n (Nat.le_of_lt B24.lt))) (fun k hk=>by injection hk with hk;omega)
 have HR8:=zh (eTab.keep HR.out (Keep.grown hg8 (fun g hg h=>by injection hg with hg;omega)))
 generalize W5.setCells g2 0 cz=w8 at *
 clear hth B14 B24 hg8 hrg HR hbw4
 go_wp2
 refine bodyPost_ret (v:=.agg cz.toArray) (results_cell_row rfl _ _ g2 _ _ (0,0) _ rfl B8 Tryz.underlying120 rfl (by rw [List.size_toArray];exact hsz)) rfl ⟨cz,rfl,by rw [hcz];exact eTab.mono HR8.out (fun b h=>by omega),hbw8⟩
theorem seachTabT {x:List Tab} (h:Sl eTab w F A n c x) (hn:x.length<=1000) (hok:∀ y∈x,qeh y):Calls Tryz.prog 101 #[.slice A n c,.func (.func 102) #[] #[]] w (CopiedT eTab 120 x w):=by
 obtain ⟨i0,hi,hz0,hz1,hz2⟩:=ip Tryz.prog 120 (.agg #[.string ⟨#[]⟩,.slice none 0 0,.int .i64 0,.bool false,.slice none 0 0]) 5 80
 have HS:=zh h
 have HL:=zh h.len
 have hn:n<=1000:=by have:=h.len;omega
 clear h
 have HK:=zh hok
 clear hok
 go_enter Tryz.func101,Tryz.ntmps101
 go_wp2_with (at_make;refine wpList_make_full _ rfl _ _ 25 rfl w.heap.size 120 i0 (.agg #[.string ⟨#[]⟩,.slice none 0 0,.int .i64 0,.bool false,.slice none 0 0]) 5 Tryz.underlying25 hi hz0 hz1 _ _ _ _ n rfl rfl rfl rfl ?b2 ?b3 (zl _) ?_)
 case b2=>rw [hz2];omega
 case b3=>unfold maxLen;omega
 intro w1 hown hgrow
 obtain ⟨Z,BO,hZl⟩:=qct hown
 have hb1:=(zb w.heap.size w).grown hgrow (zl _) (fun k hk=>by cases hk)
 obtain ⟨go,hgo⟩:∃ g,w.heap.size=g:=⟨_,rfl⟩
 have BO0:Blk w1 w.heap.size 120 ((([]:List (List Value)).flatten++Z.drop (0 * 5)).toArray):=by simpa using BO
 have HB0:=zh (za BO0 hb1)
 clear hown hgrow BO BO0 hb1
 rw [hgo] at HB0
 have hgw:go=w.heap.size:=hgo.symm
 rw [hgo]
 clear hgo
 have HGW:=zh hgw
 clear hgw
 go_wp2_with fail
 go_loopw [13] (fun i wr=>∃ (k:Nat) (css:List (List Value)),i=.int .i64 k/\k<=n/\Hid (Els eTab wr (fun b=>go<b) css (x.take k))/\Hid (Blk wr go 120 (css.flatten++Z.drop (k * 5)).toArray/\Below go w wr)) (fun i _=>n - (intOf i).toNat)
 case atStart=>exact ⟨0,[],rfl,Nat.zero_le _,zh (by simpa using Els.nil _ _),HB0⟩
 case round =>
  clear HB0
  obtain ⟨k,css,rfl,hk,HE,HB⟩:=hrel
  rcases Nat.lt_or_ge k n with hlt|hge
  ·have hd:decide ((k:Int)<(n:Int))=true:=by simp;omega
   have hkn:(k:Int)<(n:Int):=by omega
   obtain ⟨y,hy⟩:∃ y,x[k]? = some y:=⟨_,List.getElem?_eq_getElem (by have:=HL.out;omega)⟩
   have HY:=zh hy
   obtain ⟨b0,off,rfl,hnc,hFb,hbl⟩:=HS.out.some_ (by omega)
   have hbw:=HB.out.2
   have hsz:=HB.out.1.lt
   have hS:=HS.out.ext (show Below w.heap.size w wr by rw [<-HGW.out];exact hbw)
   obtain ⟨cs,hcs,hcell⟩:=hS.at_ hy
   have hcl1:cs.length=5:=eTab.len hcs
   have hone:=eTab.one hcs
   have hcz:(Tryz.prog.info? 120).map (·.size)=some cs.length:=by rw [hcl1];kernel_rfl
   have C7:=Blk.new wr 120 (([.string ⟨#[]⟩,.slice none 0 0,.int .i64 0,.bool false,.slice none 0 0]:List Value)).toArray
   have hth7:=Blk.there (o:=0) (n:=5) C7 (by simp)
   obtain ⟨B7,hg7⟩:=Blk.lay cs 0 C7 (by rw [hcl1];simp)
   rw [qai _ _ (by rw [hcl1];rfl)] at B7
   have hb7:Below wr.heap.size wr ((wr.alloc (.cells #[.string ⟨#[]⟩,.slice none 0 0,.int .i64 0,.bool false,.slice none 0 0] 120)).setCells wr.heap.size 0 cs):=((zb _ _).alloc (zl _) _).grown hg7 (by simp) (fun k hk=>by injection hk with hk;omega)
   clear hg7 C7
   have hrg:wr.rangeAt b0 (off+k * 5) cs:=fun j u hu=>hcell j u hu
   have HR:=zh hrg
   clear hrg hcell hS hy
   go_upto_region 5 with (first|((with_reducible refine sT 17 ?_);(refine wpList_load_mid rfl 120 _ rfl b0 (off+k * 5) rfl cs _ HR.out Tryz.underlying120 rfl hcz ?_)) |
    ((with_reducible refine sS 7 ?_);(refine wpList_store_mid rfl 120 _ _ rfl wr.heap.size 0 cs.toArray rfl rfl ?s5 ?s6 (all_oneCell_toArray hone) ?_)))
   case s5=>exact (show cs.toArray.size=5 by simp [hcl1]) ▸ hth7
   case s6=>rw [List.size_toArray];exact hcz
   have HC:=zh (eTab.ext hcs hb7)
   clear hcs
   generalize (wr.alloc (.cells #[.string ⟨#[]⟩,.slice none 0 0,.int .i64 0,.bool false,.slice none 0 0] 120)).setCells wr.heap.size 0 cs=W7 at *
   have HF:=zh (qpv HC.out (HK.out y (List.mem_of_getElem? HY.out)))
   go_wp2_with ((with_reducible refine sT 21 ?_);(refine wpList_load_mid rfl 120 _ rfl wr.heap.size 0 rfl cs _ (Blk.whole B7) Tryz.underlying120 rfl hcz ?_))
   refine HF.out.mono ?_
   rintro e w4 ⟨cs4,rfl,hr4,hb4⟩
   clear HF HC B7
   have hcl4:cs4.length=5:=eTab.len hr4
   have hone4:=eTab.one hr4
   have hcz4:(Tryz.prog.info? 120).map (·.size)=some cs4.length:=by rw [hcl4];kernel_rfl
   have hr4:=eTab.mono hr4 (G:=fun b=>go<b) (fun b h=>by have:=hb7.size;omega)
   have hE4:=Els.snoc ((HE.out.ext hb7).ext hb4) HY.out hr4
   have hfl:css.flatten.length=k * 5:=by have h9:=HE.out.flen;rw [List.length_take,Nat.min_eq_left (by have:=HL.out;omega)] at h9;exact h9
   have B4:=(HB.out.1.ext hb7).ext hb4
   have hbw4:=(hbw.trans (zm hb7 (Nat.le_of_lt hsz))).trans (zm hb4 (Nat.le_trans (Nat.le_of_lt hsz) hb7.size))
   have hkk:(k+1) * 5<=n * 5:=Nat.mul_le_mul_right _ hlt
   have hth:=Blk.there (o:=k * 5) (n:=5) B4 (by rw [List.length_append,List.length_drop,hfl,hZl];omega)
   obtain ⟨B5,hg5⟩:=Blk.lay cs4 (k * 5) B4 (by rw [List.length_append,List.length_drop,hfl,hZl];omega)
   rw [qed css.flatten Z cs4 k 5 hfl hcl4 (by rw [hZl];exact hkk)] at B5
   have hE5:=Els.keep hE4 (Keep.grown hg5 (fun g hg hlt=>by injection hg with hg;omega))
   have hbw5:=hbw4.grown hg5 (Nat.le_of_lt B4.lt) (fun k hk=>by injection hk with hk;omega)
   have HE5:=zh hE5
   have HB5:=zh (show Blk _ go 120 ((css++[cs4]).flatten++Z.drop ((k+1) * 5)).toArray/\Below go w _ from ⟨by rw [List.flatten_append,List.flatten_singleton];exact B5,hbw5⟩)
   clear hE5 hg5 B5 hbw5 hE4 hr4 hfl B4 hbw4 hbw
   go_upto_region 6 with ((with_reducible refine sS 23 ?_);(refine wpList_store_mid rfl 120 _ _ rfl go (k * 5) cs4.toArray rfl rfl ?s7 ?s8 (all_oneCell_toArray hone4) ?_))
   case s7=>exact (show cs4.toArray.size=5 by simp [hcl4]) ▸ hth
   case s8=>rw [List.size_toArray];exact hcz4
   generalize w4.setCells go (k * 5) cs4=W5 at *
   clear hth hone hone4
   go_wp2_with fail
   go_roundw
   case rel=>exact ⟨k+1,_,by go_num,by omega,HE5,HB5⟩
   case measure=>simp [intOf];omega
  ·obtain rfl:k=n:=by omega
   have hd:decide ((k:Int)<(k:Int))=false:=by simp
   have hxk:x.length=k:=HL.out
   subst hxk
   have hE:=HE.out
   rw [List.take_length] at hE
   have hB:=HB.out
   rw [List.drop_eq_nil_of_le (by omega),List.append_nil] at hB
   have HR:=zh (show OwnE eTab 120 wr w.heap.size (fun b=>w.heap.size<=b/\(some ⟨go,0,none⟩:Option Addr)≠some ⟨b,0,none⟩) (some ⟨go,0,none⟩) x.length x.length x from ⟨css,qbz hB.1 hE.flen (by rw [HGW.out];exact zl _) hn,hE.mono (fun b h=>⟨by have:=HGW.out;omega,fun e=>by injection e with e;injection e with e;omega⟩),rfl⟩)
   have hbw:Below w.heap.size w wr:=by rw [<-HGW.out];exact hB.2
   clear hE hB HE HB
   go_wp2
   go_ret
   exact ⟨_,rfl,HR.out,hbw⟩
theorem seachTab {x:List Tab} (h:Sl eTab w F A n c x) (hn:x.length<=1000) (hok:∀ y∈x,qeh y):Calls Tryz.prog 101 #[.slice A n c,.func (.func 102) #[] #[]] w (Copied eTab 120 x w):=(seachTabT h hn hok).mono fun _ _ h=>h.copied
end Go.Proofs.YtdjbpcnhnkemiaaGreat.tp
