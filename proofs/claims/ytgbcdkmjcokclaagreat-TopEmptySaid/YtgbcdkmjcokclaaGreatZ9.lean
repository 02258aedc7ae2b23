/- Laws of its own that the claim's proof needs; no condition beyond those that each states. -/
import Derived.Test.YtgbcdkmjcokclaaGreatZ8
import Derived.Test.YtgbcdkmjcokclaaGreatZ7
import Derived.Shelf.Abstract
import Derived.Test.YtgbcdkmjcokclaaGreatZ5
set_option linter.unusedVariables false
set_option maxRecDepth 1000000
set_option maxHeartbeats 16000000
namespace Go.Proofs.YtgbcdkmjcokclaaGreat.tp
open Go.ChangeShapes Go.WideShapes Go.ChangeAt Go.RowKit Go.Proofs.YtgbcdkmjcokclaaGreat.lib
def hpart (H:List UInt8) (k:Nat):List UInt8:=H.take k++h0.drop k
theorem hpart_len (H:List UInt8) (k:Nat) (hl:H.length=32) (hk:k≤32):(hpart H k).length=32:=by
 simp only [hpart,List.length_append,List.length_take,List.length_drop,h0_len]
 omega
theorem hpart_set (H:List UInt8) (k:Nat) (hl:H.length=32) (hk:k<32) (x:UInt8) (hx:H[k]? = some x):(hpart H k).set k x=hpart H (k+1):=by
 have h1:(H.take k).length=k:=by rw [List.length_take];omega
 unfold hpart
 rw [List.set_append,if_neg (by omega),h1,Nat.sub_self,List.take_add_one,hx]
 have h2:h0.drop k=0::h0.drop (k+1):=by
  have e:h0=List.replicate 32 0:=by unfold h0;rfl
  rw [e,List.drop_replicate,List.drop_replicate,show 32 - k=(32 - (k+1))+1 by omega]
  rfl
 rw [h2]
 simp
theorem cellsB_set (l:List UInt8) (k:Nat) (x:UInt8):(cellsB l).toArray.setIfInBounds k (.int .u8 (x.toNat:Int))=(cellsB (l.set k x)).toArray:=by
 simp [cellsB,List.map_set]
theorem vhash_ {F:Blocks} {w:World} {r:Nat} {H rest:List UInt8} (h:Rd F w r (H++rest)) (hH:H.length=32) (hl:rest.length≤200000) :
  Calls Tryz.prog 82 #[.agg #[.pointer (some ⟨r,0,none⟩)]] w fun e w'=>e=.returned (.agg (cellsB H).toArray)∧Rd F w' r rest∧w.grownBy w' (some r):=by
 have hrl:=h.lt
 have HR:=Lib.hid h.bound
 have hz:=zero32
 have HL:=Lib.hid hH
 clear h hH
 go_enter Tryz.func82,Tryz.ntmps82
 go_upto_region 1 with fail
 obtain ⟨W,hW_,hb1,B1,BR⟩:=al2 w 209 32 #[.pointer (some ⟨r,0,none⟩)] ((cellsB h0).toArray)
 rw [←hW_]
 clear hW_
 obtain ⟨g1,hg1⟩:∃ g,w.heap.size=g:=⟨_,rfl⟩
 obtain ⟨gr,hgr⟩:∃ g,w.heap.size+1=g:=⟨_,rfl⟩
 have hg1w:w.heap.size≤g1:=by omega
 have hgrw:w.heap.size≤gr:=by omega
 have hne:g1≠gr:=by omega
 rw [hgr] at BR ⊢
 rw [hg1] at B1 ⊢
 clear hgr hg1
 have HR1:=Lib.hid (HR.out.ext hb1)
 have HG1:=Lib.hid (Below.grown_by (g:=some r) hb1)
 clear HR hb1
 go_wp2_with fail
 go_loopw [4] (fun i wr=>∃ k:Nat,i=.int .i64 k∧k≤32∧Hid (Rd (fun b=>F b∧b<w.heap.size) wr r (H.drop k++rest))∧Blk wr g1 209 #[.pointer (some ⟨r,0,none⟩)]∧Blk wr gr 32 (cellsB (hpart H k)).toArray∧Hid (w.grownBy wr (some r))) (fun i _=>32 - (intOf i).toNat)
 case atStart=>exact ⟨0,rfl,by omega,HR1,B1,BR,HG1⟩
 case round =>
  clear B1 BR HR1 HG1
  obtain ⟨k,rfl,hk,HRk,B1,BR,HG⟩:=hrel
  rcases Nat.lt_or_ge k 32 with hlt|hge
  ·have hd:decide ((k:Int)<32)=true:=by simp;omega
   have hk32:(k:Int)<32:=by omega
   have hkl:k<H.length:=by rw [HL.out];exact hlt
   obtain ⟨x,hx⟩:∃ x,H[k]? = some x:=⟨_,List.getElem?_eq_getElem hkl⟩
   have hdr:H.drop k=x::H.drop (k+1):=by
    rw [List.drop_eq_getElem_cons hkl]
    rw [List.getElem?_eq_getElem hkl] at hx
    injection hx with hx
    rw [hx]
   have HX:=Lib.hid hx
   have HF:=Lib.hid (rbyte_ x (rest:=H.drop (k+1)++rest) (by have:=HRk.out;rw [hdr] at this;exact this) (by rw [List.length_append,List.length_drop,HL.out];omega))
   have hwr:IntKind.u8.wrap (x.toNat:Int)=(x.toNat:Int):=IntWalk.u8_in _ ⟨by omega,by have:=x.toNat_lt;omega⟩
   have q:=B1.cell 0
   clear hx hdr hkl HRk
   go_wp2_with fail
   refine HF.out.mono ?_
   rintro e w2 ⟨rfl,hR2,hg2⟩
   have B12:=B1.grown hg2 (by intro e;injection e with e;omega)
   have BR2:=BR.grown hg2 (by intro e;injection e with e;omega)
   have HG2:=Lib.hid (grown_trans HG.out hg2)
   have HR2:=Lib.hid hR2
   obtain ⟨u0,hu0⟩:∃ u,(cellsB (hpart H k)).toArray[k]? = some u:=⟨_,Array.getElem?_eq_getElem (by rw [List.size_toArray,lenB,hpart_len H k HL.out hk];exact hlt)⟩
   have q:=(BR2.cell k).trans hu0
   have f:=BR2.frozen k
   have hk0:(k:Int).toNat=k:=by omega
   have HP:=Lib.hid (hpart_set H k HL.out hlt x HX.out)
   have BR3:=BR2.set_ k (.int .u8 (x.toNat:Int))
   rw [cellsB_set,HP.out] at BR3
   have HRk:=Lib.hid (HR2.out.keep (Keep.set w2 ⟨gr,k,none⟩ (.int .u8 (x.toNat:Int)) (fun h=>by have h:=h.2;simp only at h;omega)))
   have B13:=B12.grown (set_grown w2 gr k (.int .u8 (x.toNat:Int))) (by intro e;injection e with e;exact hne e)
   have HGk:=Lib.hid (grown_new HG2.out (set_grown w2 gr k (.int .u8 (x.toNat:Int))) hgrw)
   clear hR2 hg2 hu0 HF BR2 B12 HR2 HG2 BR B1 HG
   go_wp2_with fail
   go_roundw
   case rel=>exact ⟨k+1,by go_num,by omega,HRk,B13,BR3,HGk⟩
   case measure=>simp [intOf];omega
  ·obtain rfl:k=32:=by omega
   have hd:decide (((32:Nat):Int)<32)=false:=by decide
   rw [show hpart H 32=H by rw [hpart,List.take_of_length_le (by rw [HL.out];exact Nat.le_refl _),List.drop_of_length_le (by rw [h0_len];exact Nat.le_refl _),List.append_nil]] at BR
   rw [List.drop_of_length_le (by rw [HL.out];exact Nat.le_refl _),List.nil_append] at HRk
   have hsz:=size32 H HL.out
   have hth:=Blk.there (o:=0) (n:=32) BR (by rw [lenB,HL.out];omega)
   obtain ⟨B9,hg9⟩:=Blk.lay (cellsB H) 0 BR (by omega)
   rw [laid_all _ _ rfl] at B9
   have HE:=Lib.hid (And.intro ((HRk.out.keep (Keep.grown hg9 (fun k hk h=>by injection hk with hk;have:=h.2;omega))).mono (G:=F) (fun b h=>h.1)) (grown_new HG.out hg9 hgrw))
   clear hz hg9 B1 HRk HG
   go_wp2_with (first|((with_reducible show wpList _ _ _ (Oper.mk (some 14) _ _ _ _ _::_) _ _);(refine wpList_load_mid rfl 32 _ rfl gr 0 rfl (cellsB H) _ (Blk.whole BR) Tryz.underlying32 rfl hsz ?_))|((with_reducible show wpList _ _ _ (Oper.mk none (Op.store _ (Operand.tmp 2) _) _ _ _ _::_) _ _);(refine wpList_store_mid rfl 32 _ _ rfl gr 0 (cellsB H).toArray rfl rfl ?h1 ?h2 (all_oneCell_toArray (oneB _)) ?_)))
   case h1=>exact (show (cellsB H).toArray.size=32 by simp [lenB,HL.out]) ▸ hth
   case h2=>exact (show (cellsB H).toArray.size=(cellsB H).length by simp) ▸ hsz
   generalize wr.setCells gr 0 (cellsB H)=w9 at *
   go_wp2
   exact bodyPost_ret (v:=.agg (cellsB H).toArray) (results_cell_row rfl _ _ gr _ _ (0,0) _ rfl B9 Tryz.underlying32 rfl (by rw [List.size_toArray];exact hsz)) rfl ⟨rfl,HE.out⟩
theorem vtruth0_ {F:Blocks} {w:World} {r:Nat} {rest:List UInt8} (h:Rd F w r (b8 0::rest)) (hl:rest.length≤200000) :
  Calls Tryz.prog 151 #[.agg #[.pointer (some ⟨r,0,none⟩)]] w fun e w'=>e=.returned (.bool false)∧Rd F w' r rest∧w.grownBy w' (some r):=by
 have hrl:=h.lt
 have HR:=Lib.hid h
 clear h
 go_enter Tryz.func151,Tryz.ntmps151
 go_upto_region 1 with fail
 obtain ⟨W,hW_,hb1,B1⟩:=al1 w 209 #[.pointer (some ⟨r,0,none⟩)]
 rw [←hW_]
 clear hW_
 have HF:=Lib.hid (rbyte_ (b8 0) (HR.out.ext hb1) (by omega))
 have hG1:=Below.grown_by (g:=some r) hb1
 have q:=B1.cell 0
 go_wp2_with fail
 refine HF.out.mono ?_
 rintro e w2 ⟨rfl,hR2,hg2⟩
 rw [show ((b8 0).toNat:Int)=0 from rfl]
 have HH:=Lib.hid (And.intro hR2 (grown_trans hG1 hg2))
 clear hR2 hg2 HF q hG1 hb1 B1
 go_wp2
 go_ret
 exact ⟨rfl,HH.out⟩
def cB (nm:List UInt8) (N:Nat) (rest:List UInt8):List UInt8:=b8 1::(le 2 nm.length++(nm++(le 2 (rowB [numV N]).length++(rowB [numV N]++rest))))
theorem vchange_ {F:Blocks} {w:World} {r N:Nat} {nm rest:List UInt8} (h:Rd F w r (cB nm N rest)) (hN:N<9223372036854775808) (hnm:nm.length≤100) (hl:rest.length≤100000) :
  Calls Tryz.prog 150 #[.agg #[.pointer (some ⟨r,0,none⟩)]] w fun e w'=>∃ A c,e=.returned (.agg #[.string ⟨nm.toArray⟩,.int .i64 1,.slice A 1 c])∧Sl eVal w' (fun b=>w.heap.size≤b) A 1 c [numV N]∧Rd F w' r rest∧w.grownBy w' (some r):=by
 have hrl:=h.lt
 have HR:=Lib.hid h.bound
 have hrb:(rowB [numV N]).length=10:=by rw [rowB_num];simp [le]
 have HRB:=Lib.hid hrb
 clear h hrb
 go_enter Tryz.func150,Tryz.ntmps150
 go_upto_region 1 with fail
 obtain ⟨W,hW_,hb1,B1,BR⟩:=al2 w 209 155 #[.pointer (some ⟨r,0,none⟩)] #[.string ⟨#[]⟩,.int .i64 0,.slice none 0 0]
 rw [←hW_]
 clear hW_
 obtain ⟨g1,hg1⟩:∃ g,w.heap.size=g:=⟨_,rfl⟩
 obtain ⟨gr,hgr⟩:∃ g,w.heap.size+1=g:=⟨_,rfl⟩
 have hg1w:w.heap.size≤g1:=by omega
 have hgrw:w.heap.size≤gr:=by omega
 have hne:g1≠gr:=by omega
 rw [hgr] at BR ⊢
 rw [hg1] at B1 ⊢
 clear hgr hg1
 have HR1:=Lib.hid (HR.out.ext hb1)
 have HG1:=Lib.hid (Below.grown_by (g:=some r) hb1)
 have hrW:r<W.heap.size:=HR1.out.lt
 have hwW:w.heap.size≤W.heap.size:=hb1.size
 have HB1:=Lib.hid B1
 have HBR:=Lib.hid BR
 clear HR hb1
 have D:=fun w' (hS:Blk w' g1 209 #[.pointer (some ⟨r,0,none⟩)])=>show w'.cell? ⟨g1,0,none⟩=some (.pointer (some ⟨r,0,none⟩)) from hS.cell 0
 refine Code.wp_mono (Q:=fun e a' w'=>e=.normal∧∃ g3,a'=({ tmps:=#[.agg #[.pointer (some ⟨r,0,none⟩)],.pointer (some ⟨g1,0,none⟩),.pointer (some ⟨gr,0,none⟩),.pointer (some ⟨g3,0,none⟩),undef,undef,.pointer (some ⟨g1,0,none⟩),.pointer (some ⟨r,0,none⟩),.int .i64 1,.pointer (some ⟨g1,0,none⟩),.pointer (some ⟨r,0,none⟩),.string ⟨nm.toArray⟩,.agg #[.string ⟨nm.toArray⟩,.int .i64 1,.slice none 0 0],undef,undef,undef,undef,undef,undef,undef,undef,undef,undef,undef,undef,undef,undef,undef,undef,undef,undef,undef,undef,undef,undef,undef,undef,undef,undef],defers:=[] }:Act)∧Blk w' g3 155 #[.string ⟨nm.toArray⟩,.int .i64 1,.slice none 0 0]∧Rd (fun b=>F b∧b<w.heap.size) w' r (le 2 (rowB [numV N]).length++(rowB [numV N]++rest))∧W.grownBy w' (some r)∧W.heap.size≤g3) ?_ ?_
 case refine_2 =>
  refine wp_region_br (S:=fun w'=>Blk w' g1 209 #[.pointer (some ⟨r,0,none⟩)]) (.seq [(0,true),(1,true),(3,true),(4,true)] (.two 2 (.two 5 (.seq [(6,true),(7,false),(8,false)] .fin) 7 (.seq [(5,false),(6,true),(8,false)] .fin)) 7 (.seq [(2,false),(5,false),(6,true),(8,false)] .fin))) (by kernel_rfl) (by kernel_rfl) (Blk.drew B1) ?_
  refine wpBr_seq ?_
  repeat ((with_reducible refine pG ?_);(first|refine pT ?_|refine pF ?_);try go_frame)
  refine wpBr_next ?_
  clear D
  have hd0:=(Below.refl W.heap.size W).drew
  refine wpBr_two ?_ ?_
  ·have HB0:=Lib.hid (Blk.drew HB1.out)
   have HR0:=Lib.hid (HR1.out.ext hd0)
   have HG0:=Lib.hid (Below.grown_by (g:=some r) hd0)
   refine pD fun K hK=>?_;go_simp
   have HF:=Lib.hid (rbyte_ (b8 1) HR0.out (by simp only [List.length_append,le_len,HRB.out];omega))
   refine HF.out.mono ?_
   rintro e v4 ⟨rfl,hR,hg⟩
   rw [show ((b8 1).toNat:Int)=1 from rfl]
   have HBx:=Lib.hid (HB0.out.grown hg (by intro e;injection e with e;omega))
   have HGx:=Lib.hid (grown_trans HG0.out hg)
   have HRx:=Lib.hid hR
   refine hK.out _ _ HBx.out ?_
   clear hK K HF hg hR
   refine wpBr_next ?_
   refine wpBr_two ?_ ?_
   ·refine pD fun K hK=>?_;go_simp
    have HF:=Lib.hid (rtext_ HRx.out (by omega) (by simp only [List.length_append,le_len,HRB.out];omega))
    refine HF.out.mono ?_
    rintro e v7 ⟨rfl,hR,hg⟩
    have HBx:=Lib.hid (HBx.out.grown hg (by intro e;injection e with e;omega))
    have HGx:=Lib.hid (grown_trans HGx.out hg)
    have HRx:=Lib.hid hR
    refine hK.out _ _ HBx.out ?_
    clear hK K HF hg hR
    refine wpBr_next ?_
    refine wpBr_seq ?_
    repeat ((with_reducible refine pG ?_);(first|refine pT ?_|refine pF ?_);try go_frame)
    refine pD fun K hK=>?_;go_simp
    obtain ⟨v8,hn⟩:∃ W',W'=v7.alloc (.cells #[.string ⟨#[]⟩,.int .i64 0,.slice none 0 0] 155):=⟨_,rfl⟩
    have hb:Below v7.heap.size v7 v8:=by rw [hn];exact (Below.refl _ _).alloc (Nat.le_refl _) _
    have hV:Blk v8 v7.heap.size 155 #[.string ⟨#[]⟩,.int .i64 0,.slice none 0 0]:=by rw [hn];exact Blk.new _ _ _
    rw [←hn]
    obtain ⟨g3,hg3⟩:∃ g,v7.heap.size=g:=⟨_,rfl⟩
    have hg3W:W.heap.size≤g3:=by have h1:=HGx.out.size;have h2:W.drew.heap.size=W.heap.size:=rfl;omega
    rw [hg3] at hV ⊢
    have HVx:=Lib.hid hV
    have HBx:=Lib.hid (HBx.out.ext hb)
    have HRx:=Lib.hid (HRx.out.ext hb)
    have HGx:=Lib.hid (grown_ext HGx.out hb)
    refine hK.out _ _ HBx.out ?_
    clear hK K hn hb hV hg3
    have p:=HVx.out.three (Below.refl _ _)
    have f:=HVx.out.free3
    refine pD fun K hK=>?_;go_simp
    have BV9:Blk _ g3 155 #[.string ⟨nm.toArray⟩,.int .i64 1,.slice none 0 0]:=((HVx.out.set_ 0 (.string ⟨nm.toArray⟩)).set_ 1 (.int .i64 1)).set_ 2 (.slice none 0 0)
    have hg9:=grown_trans (grown_trans (set_grown v8 g3 0 (.string ⟨nm.toArray⟩)) (set_grown _ g3 1 (.int .i64 1))) (set_grown _ g3 2 (.slice none 0 0))
    refine hK.out _ _ (HBx.out.grown hg9 (by intro e;injection e with e;have:=HB1.out.lt;omega)) (wpBr_next (wpBr_fin ?_))
    exact ⟨rfl,g3,rfl,BV9,HRx.out.keep (Keep.grown hg9 (fun k hk h=>by injection hk with hk;have:=h.2;omega)),grown_new HGx.out hg9 hg3W,hg3W⟩
   ·refine pD fun K hK=>?_;go_simp
    obtain ⟨v5,hn⟩:∃ W',W'=v4.alloc (.cells #[.string ⟨#[]⟩,.int .i64 0,.slice none 0 0] 155):=⟨_,rfl⟩
    have hb:Below v4.heap.size v4 v5:=by rw [hn];exact (Below.refl _ _).alloc (Nat.le_refl _) _
    have hV:Blk v5 v4.heap.size 155 #[.string ⟨#[]⟩,.int .i64 0,.slice none 0 0]:=by rw [hn];exact Blk.new _ _ _
    rw [←hn]
    obtain ⟨g3,hg3⟩:∃ g,v4.heap.size=g:=⟨_,rfl⟩
    have hg3W:W.heap.size≤g3:=by have h1:=HGx.out.size;have h2:W.drew.heap.size=W.heap.size:=rfl;omega
    rw [hg3] at hV ⊢
    have HVx:=Lib.hid hV
    have HBx:=Lib.hid (HBx.out.ext hb)
    have HRx:=Lib.hid (HRx.out.ext hb)
    have HGx:=Lib.hid (grown_ext HGx.out hb)
    refine hK.out _ _ HBx.out ?_
    clear hK K hn hb hV hg3
    refine wpBr_next ?_
    refine wpBr_seq ?_
    refine pD fun K hK=>?_;go_simp
    have HF:=Lib.hid (rtext_ HRx.out (by omega) (by simp only [List.length_append,le_len,HRB.out];omega))
    refine HF.out.mono ?_
    rintro e v6 ⟨rfl,hR,hg⟩
    have HBx:=Lib.hid (HBx.out.grown hg (by intro e;injection e with e;omega))
    have HVx:=Lib.hid (HVx.out.grown hg (by intro e;injection e with e;omega))
    have HGx:=Lib.hid (grown_trans HGx.out hg)
    have HRx:=Lib.hid hR
    refine hK.out _ _ HBx.out ?_
    clear hK K HF hg hR
    repeat ((with_reducible refine pG ?_);(first|refine pT ?_|refine pF ?_);try go_frame)
    have p:=HVx.out.three (Below.refl _ _)
    have f:=HVx.out.free3
    refine pD fun K hK=>?_;go_simp
    have BV9:Blk _ g3 155 #[.string ⟨nm.toArray⟩,.int .i64 1,.slice none 0 0]:=((HVx.out.set_ 0 (.string ⟨nm.toArray⟩)).set_ 1 (.int .i64 1)).set_ 2 (.slice none 0 0)
    have hg9:=grown_trans (grown_trans (set_grown v6 g3 0 (.string ⟨nm.toArray⟩)) (set_grown _ g3 1 (.int .i64 1))) (set_grown _ g3 2 (.slice none 0 0))
    refine hK.out _ _ (HBx.out.grown hg9 (by intro e;injection e with e;have:=HB1.out.lt;omega)) (wpBr_next (wpBr_fin ?_))
    exact ⟨rfl,g3,rfl,BV9,HRx.out.keep (Keep.grown hg9 (fun k hk h=>by injection hk with hk;have:=h.2;omega)),grown_new HGx.out hg9 hg3W,hg3W⟩
  ·have HB0:=Lib.hid (Blk.drew HB1.out)
   have HR0:=Lib.hid (HR1.out.ext hd0)
   have HG0:=Lib.hid (Below.grown_by (g:=some r) hd0)
   refine pD fun K hK=>?_;go_simp
   obtain ⟨v1,hn⟩:∃ W',W'=(W.alloc (.cells #[.string ⟨#[]⟩,.int .i64 0,.slice none 0 0] 155)).drew:=⟨_,rfl⟩
   have hb:Below W.drew.heap.size W.drew v1:=by rw [hn];exact show Below W.heap.size W.drew (W.drew.alloc _) from (Below.refl W.heap.size W.drew).alloc (Nat.le_refl _) _
   have hV:Blk v1 W.heap.size 155 #[.string ⟨#[]⟩,.int .i64 0,.slice none 0 0]:=by rw [hn];exact Blk.new _ _ _
   rw [←hn]
   obtain ⟨g3,hg3⟩:∃ g,W.heap.size=g:=⟨_,rfl⟩
   have hg3W:W.heap.size≤g3:=by have h1:=HG0.out.size;have h2:W.drew.heap.size=W.heap.size:=rfl;omega
   rw [hg3] at hV ⊢
   have HVx:=Lib.hid hV
   have HBx:=Lib.hid (HB0.out.ext hb)
   have HRx:=Lib.hid (HR0.out.ext hb)
   have HGx:=Lib.hid (grown_ext HG0.out hb)
   refine hK.out _ _ HBx.out ?_
   clear hK K hn hb hV hg3
   refine wpBr_next ?_
   refine wpBr_seq ?_
   refine pD fun K hK=>?_;go_simp
   have HF:=Lib.hid (rbyte_ (b8 1) HRx.out (by simp only [List.length_append,le_len,HRB.out];omega))
   refine HF.out.mono ?_
   rintro e v2 ⟨rfl,hR,hg⟩
   rw [show ((b8 1).toNat:Int)=1 from rfl]
   have HBx:=Lib.hid (HBx.out.grown hg (by intro e;injection e with e;omega))
   have HVx:=Lib.hid (HVx.out.grown hg (by intro e;injection e with e;omega))
   have HGx:=Lib.hid (grown_trans HGx.out hg)
   have HRx:=Lib.hid hR
   refine hK.out _ _ HBx.out ?_
   clear hK K HF hg hR
   refine pD fun K hK=>?_;go_simp
   have HF:=Lib.hid (rtext_ HRx.out (by omega) (by simp only [List.length_append,le_len,HRB.out];omega))
   refine HF.out.mono ?_
   rintro e v3 ⟨rfl,hR,hg⟩
   have HBx:=Lib.hid (HBx.out.grown hg (by intro e;injection e with e;omega))
   have HVx:=Lib.hid (HVx.out.grown hg (by intro e;injection e with e;omega))
   have HGx:=Lib.hid (grown_trans HGx.out hg)
   have HRx:=Lib.hid hR
   refine hK.out _ _ HBx.out ?_
   clear hK K HF hg hR
   repeat ((with_reducible refine pG ?_);(first|refine pT ?_|refine pF ?_);try go_frame)
   have p:=HVx.out.three (Below.refl _ _)
   have f:=HVx.out.free3
   refine pD fun K hK=>?_;go_simp
   have BV9:Blk _ g3 155 #[.string ⟨nm.toArray⟩,.int .i64 1,.slice none 0 0]:=((HVx.out.set_ 0 (.string ⟨nm.toArray⟩)).set_ 1 (.int .i64 1)).set_ 2 (.slice none 0 0)
   have hg9:=grown_trans (grown_trans (set_grown v3 g3 0 (.string ⟨nm.toArray⟩)) (set_grown _ g3 1 (.int .i64 1))) (set_grown _ g3 2 (.slice none 0 0))
   refine hK.out _ _ (HBx.out.grown hg9 (by intro e;injection e with e;have:=HB1.out.lt;omega)) (wpBr_next (wpBr_fin ?_))
   exact ⟨rfl,g3,rfl,BV9,HRx.out.keep (Keep.grown hg9 (fun k hk h=>by injection hk with hk;have:=h.2;omega)),grown_new HGx.out hg9 hg3W,hg3W⟩
 case refine_1 =>
  rintro e a9 w3 ⟨rfl,g3,rfl,BV,hR,hG,hg3⟩
  have HRa:=Lib.hid hR
  have hGw:=grown_trans HG1.out hG
  have BR3:=HBR.out.grown hG (by intro e;injection e with e;omega)
  have B13:=HB1.out.grown hG (by intro e;injection e with e;omega)
  have hgrW:gr<W.heap.size:=HBR.out.lt
  clear hR hG D B1 BR
  have HF:=Lib.hid (rtext_ HRa.out (by rw [HRB.out];omega) (by omega))
  have q:=B13.cell 0
  go_wp2_with fail
  refine HF.out.mono ?_
  rintro e w4 ⟨rfl,hR4,hg4⟩
  have HR4:=Lib.hid hR4
  have BV4:=BV.grown hg4 (by intro e;injection e with e;omega)
  have BR4:=BR3.grown hg4 (by intro e;injection e with e;omega)
  have B14:=B13.grown hg4 (by intro e;injection e with e;omega)
  have hG4:=grown_trans hGw hg4
  clear hR4 hg4 HF q HRa BV BR3 B13 hGw
  obtain ⟨cb,w5,hcv,hby,hb5,_⟩:=conv_bytes ⟨(rowB [numV N]).toArray⟩ w4
  have hsz:(⟨(rowB [numV N]).toArray⟩:ByteArray).size=10:=by show (rowB [numV N]).toArray.size=10;rw [List.size_toArray,HRB.out]
  rw [hsz] at hcv hby
  have HR5:=Lib.hid (HR4.out.ext hb5)
  have BV5:=BV4.ext hb5
  have BR5:=BR4.ext hb5
  have B15:=B14.ext hb5
  have hG5:=grown_ext hG4 hb5
  have HF:=Lib.hid (rparse1_ (N:=N) (w:=w5) (A:=some ⟨w4.heap.size,0,none⟩) (n:=10) (c:=cb) (by have:=hby;simpa using this) hN)
  clear hby HR4 BV4 BR4 B14 hb5 hsz
  go_wp2_with fail
  refine HF.out.mono ?_
  rintro e w6 ⟨A6,c6,rfl,hs6,hb6⟩
  have HS6:=Lib.hid (hs6.mono (G:=fun b=>w.heap.size≤b∧b≠gr∧b≠g3) (fun b h=>by have h1:=hG5.size;have h2:=BR5.lt;have h4:=BV5.lt;have h3:w5.heap.size≤b:=h;exact ⟨by omega,by omega,by omega⟩))
  have BV6:=BV5.ext hb6
  have BR6:=BR5.ext hb6
  have B16:=B15.ext hb6
  have HR6:=Lib.hid (HR5.out.ext hb6)
  have hG6:=grown_ext hG5 hb6
  have hg3r:g3≠gr:=by omega
  have HF:=Lib.hid (fail0_ (w:=w6) r)
  have q:=B16.cell 0
  clear hs6 hb6 hcv BV5 BR5 B15 HR5 hG5
  go_wp2_with fail
  refine HF.out.mono ?_
  rintro e w7 ⟨rfl,hb7⟩
  have BV7:=BV6.ext hb7
  have BR7:=BR6.ext hb7
  have HR7:=Lib.hid (HR6.out.ext hb7)
  have HS7:=Lib.hid (HS6.out.ext hb7)
  have hG7:=grown_ext hG6 hb7
  clear q HF BV6 BR6 B16 HR6 HS6 hG6 hb7
  have p:=BV7.three (Below.refl _ _)
  have f:=BV7.free3
  have pr:=BR7.three (Below.refl _ _)
  have fr:=BR7.free3
  go_wp2
  have BR9:Blk _ gr 155 #[.string ⟨nm.toArray⟩,.int .i64 1,.slice A6 1 c6]:=(((BR7.far (p:=⟨g3,2,none⟩) (Ne.symm hg3r) (.slice A6 1 c6)).set_ 0 (.string ⟨nm.toArray⟩)).set_ 1 (.int .i64 1)).set_ 2 (.slice A6 1 c6)
  have hg3w:w.heap.size≤g3:=Nat.le_trans hwW hg3
  have hg9:=grown_new (grown_new (grown_new (grown_new hG7 (set_grown w7 g3 2 (.slice A6 1 c6)) hg3w) (set_grown _ gr 0 (.string ⟨nm.toArray⟩)) hgrw) (set_grown _ gr 1 (.int .i64 1)) hgrw) (set_grown _ gr 2 (.slice A6 1 c6)) hgrw
  have hk9:Keep (fun b=>b≠g3∧b≠gr) w7 _:=(((Keep.set w7 ⟨g3,2,none⟩ (.slice A6 1 c6) (fun h=>h.1 rfl)).trans (Keep.set _ ⟨gr,0,none⟩ (.string ⟨nm.toArray⟩) (fun h=>h.2 rfl))).trans (Keep.set _ ⟨gr,1,none⟩ (.int .i64 1) (fun h=>h.2 rfl))).trans (Keep.set _ ⟨gr,2,none⟩ (.slice A6 1 c6) (fun h=>h.2 rfl))
  exact bodyPost_ret (v:=.agg #[.string ⟨nm.toArray⟩,.int .i64 1,.slice A6 1 c6]) (results_cell_row rfl _ _ gr _ _ (0,0) _ rfl BR9 Tryz.underlying155 rfl (by kernel_rfl)) rfl ⟨A6,c6,rfl,(HS7.out.keep (hk9.mono (fun b h=>⟨h.2.2,h.2.1⟩))).mono (fun b h=>h.1),(HR7.out.keep (hk9.mono (fun b h=>⟨by have:=h.2;omega,by have:=h.2;omega⟩))).mono (fun b h=>h.1),hg9⟩
def trC (id:Int) (a b:Value) (R:List UInt8) (cl:Bool) (K:List UInt8):List Value:=.int .i64 id::a::b::(cellsB R++(.bool cl::cellsB K))
theorem trC_len (id:Int) (a b:Value) (R:List UInt8) (cl:Bool) (K:List UInt8) (h:R.length=32) (k:K.length=32):(trC id a b R cl K).length=68:=by
 simp [trC,lenB,h,k]
theorem trC_one (id:Int) (a b:Value) (R:List UInt8) (cl:Bool) (K:List UInt8) (ha:a.oneCell'=true) (hb:b.oneCell'=true):∀ u∈trC id a b R cl K,u.oneCell'=true:=by
 intro u hu
 simp only [trC,List.mem_cons,List.mem_append] at hu
 rcases hu with rfl|rfl|rfl|hu|rfl|hu
 ·rfl
 ·exact ha
 ·exact hb
 ·exact oneB _ u hu
 ·rfl
 ·exact oneB _ u hu
theorem trC_set0 (id j:Int) (a b:Value) (R:List UInt8) (cl:Bool) (K:List UInt8):(trC id a b R cl K).toArray.setIfInBounds 0 (.int .i64 j)=(trC j a b R cl K).toArray:=by simp [trC]
theorem trC_set1 (id:Int) (a b c:Value) (R:List UInt8) (cl:Bool) (K:List UInt8):(trC id a b R cl K).toArray.setIfInBounds 1 c=(trC id c b R cl K).toArray:=by simp [trC]
theorem trC_set2 (id:Int) (a b c:Value) (R:List UInt8) (cl:Bool) (K:List UInt8):(trC id a b R cl K).toArray.setIfInBounds 2 c=(trC id a c R cl K).toArray:=by simp [trC]
theorem trC_set35 (id:Int) (a b:Value) (R:List UInt8) (cl dl:Bool) (K:List UInt8) (h:R.length=32):(trC id a b R cl K).toArray.setIfInBounds 35 (.bool dl)=(trC id a b R dl K).toArray:=by
 have e:(35:Nat)=(cellsB R).length+3:=by rw [lenB,h]
 simp only [trC,List.setIfInBounds_toArray,e,List.set_cons_succ]
 rw [List.set_append,if_neg (by omega),Nat.sub_self,List.set_cons_zero]
theorem trC_at35 (id:Int) (a b:Value) (R:List UInt8) (cl:Bool) (K:List UInt8) (h:R.length=32):(trC id a b R cl K).toArray[35]? = some (.bool cl):=by
 have e:(35:Nat)=(cellsB R).length+3:=by rw [lenB,h]
 simp only [trC,List.getElem?_toArray,e,List.getElem?_cons_succ]
 rw [List.getElem?_append_right (Nat.le_refl _),Nat.sub_self]
 rfl
theorem trC_laid (id:Int) (a b:Value) (R S:List UInt8) (cl:Bool) (K:List UInt8) (h:R.length=32) (k:S.length=32):laid (trC id a b R cl K) 3 (cellsB S)=trC id a b S cl K:=by
 have:=laid_mid [.int .i64 id,a,b] (cellsB R) (.bool cl::cellsB K) (cellsB S) (by rw [lenB,lenB,h,k])
 simpa [trC] using this
theorem size_tr (id:Int) (a b:Value) (R:List UInt8) (cl:Bool) (K:List UInt8) (h:R.length=32) (k:K.length=32):(Tryz.prog.info? 127).map (·.size)=some (trC id a b R cl K).length:=by
 rw [trC_len _ _ _ _ _ _ h k];kernel_rfl
theorem zero_tr (w:World):(zeroValue 127).run Tryz.prog w=.ok (.agg (trC 0 (.slice none 0 0) (.slice none 0 0) h0 false h0).toArray) w:=by kernel_rfl
def tB (id:Nat) (nm:List UInt8) (N:Nat) (H R rest:List UInt8):List UInt8:=le 8 id++(b8 1::cB nm N (H++(R++(b8 0::rest))))
theorem hash_rel (w:World) (F:Blocks) (H:List UInt8) (h:H.length=32):eHash.rel w F (cellsB H) H:=⟨rfl,h⟩
theorem vtrans_ {F:Blocks} {w:World} {r id N:Nat} {nm H R rest:List UInt8} (h:Rd F w r (tB id nm N H R rest)) (hid:id<9223372036854775808) (hN:N<9223372036854775808) (hnm:nm.length≤100) (hH:H.length=32) (hR:R.length=32) (hl:rest.length≤1000) :
  Calls Tryz.prog 81 #[.agg #[.pointer (some ⟨r,0,none⟩)]] w fun e w'=>∃ A c B d,e=.returned (.agg (trC id (.slice A 1 c) (.slice B 1 d) R false h0).toArray)∧Sl eChg w' (fun b=>w.heap.size≤b) A 1 c [(⟨nm.toArray⟩,1,[numV N])]∧Sl eHash w' (fun b=>w.heap.size≤b) B 1 d [H]∧Rd F w' r rest∧w.grownBy w' (some r):=by
 have hrl:=h.lt
 have HR:=Lib.hid h.bound
 have HHL:=Lib.hid hH
 have HRL:=Lib.hid hR
 have hrb:(rowB [numV N]).length=10:=by rw [rowB_num];simp [le]
 have hcl:(cB nm N (H++(R++(b8 0::rest)))).length≤5000:=by
  simp only [cB,List.length_cons,List.length_append,le_len,hrb,hH,hR]
  omega
 have HCL:=Lib.hid hcl
 have hz:=zero_tr
 clear h hH hR hrb hcl
 go_enter Tryz.func81,Tryz.ntmps81
 go_upto_region 1 with fail
 obtain ⟨W,hW_,hb1,B1,BR⟩:=al2 w 209 127 #[.pointer (some ⟨r,0,none⟩)] ((trC 0 (.slice none 0 0) (.slice none 0 0) h0 false h0).toArray)
 rw [←hW_]
 clear hW_
 obtain ⟨g1,hg1⟩:∃ g,w.heap.size=g:=⟨_,rfl⟩
 obtain ⟨gr,hgr⟩:∃ g,w.heap.size+1=g:=⟨_,rfl⟩
 have hg1w:w.heap.size≤g1:=by omega
 have hgrw:w.heap.size≤gr:=by omega
 have hne:g1≠gr:=by omega
 rw [hgr] at BR ⊢
 rw [hg1] at B1 ⊢
 clear hgr hg1
 have hG1:=Below.grown_by (g:=some r) hb1
 have HF:=Lib.hid (rint_ id (HR.out.ext hb1) hid (by simp only [List.length_cons];have:=HCL.out;omega))
 have q:=B1.cell 0
 clear HR hb1 hz
 go_wp2_with fail
 refine HF.out.mono ?_
 rintro e w2 ⟨rfl,hR2,hg2⟩
 have B12:=B1.grown hg2 (by intro e;injection e with e;omega)
 have BR2:=BR.grown hg2 (by intro e;injection e with e;omega)
 have hG2:=grown_trans hG1 hg2
 have HR2:=Lib.hid hR2
 have hq0:=BR2.cell 0
 have hf0:=BR2.frozen 0
 clear HF q hR2 hg2 hG1 B1 BR
 go_upto_region 2 with fail
 have BR3:=BR2.set_ 0 (.int .i64 (id:Int))
 rw [trC_set0] at BR3
 have B13:=B12.grown (set_grown w2 gr 0 (.int .i64 (id:Int))) (by intro e;injection e with e;exact hne e)
 have hG3:=grown_new hG2 (set_grown w2 gr 0 (.int .i64 (id:Int))) hgrw
 have HR3:=Lib.hid (HR2.out.keep (Keep.set w2 ⟨gr,0,none⟩ (.int .i64 (id:Int)) (fun h=>by have h:=h.2;simp only at h;omega)))
 clear hq0 hf0 hG2 HR2 B12 BR2
 generalize w2.setCell ⟨gr,0,none⟩ (.int .i64 (id:Int))=w3 at *
 have HF:=Lib.hid (rbyte_ (b8 1) HR3.out (by have:=HCL.out;omega))
 have q:=B13.cell 0
 go_wp2_with fail
 refine HF.out.mono ?_
 rintro e w4 ⟨rfl,hR4,hg4⟩
 rw [show ((b8 1).toNat:Int)=1 from rfl]
 have B14:=B13.grown hg4 (by intro e;injection e with e;omega)
 have BR4:=BR3.grown hg4 (by intro e;injection e with e;omega)
 have hG4:=grown_trans hG3 hg4
 have HR4:=Lib.hid hR4
 clear HF q hR4 hg4 hG3 B13 BR3 HR3
 go_wp2_with fail
 refine wp_loop_rounds 2 ?_
 rw [rounds_succ]
 go_upto_region 4 with fail
 have D:=fun w' (hS:Blk w' gr 127 (trC (id:Int) (.slice none 0 0) (.slice none 0 0) h0 false h0).toArray∧Blk w' g1 209 #[.pointer (some ⟨r,0,none⟩)])=>show w'.cell? ⟨gr,1,none⟩=some (.slice none 0 0)∧w'.cell? ⟨g1,0,none⟩=some (.pointer (some ⟨r,0,none⟩)) from ⟨hS.1.cell 1,hS.2.cell 0⟩
 refine wp_region_tail (S:=fun w'=>Blk w' gr 127 (trC (id:Int) (.slice none 0 0) (.slice none 0 0) h0 false h0).toArray∧Blk w' g1 209 #[.pointer (some ⟨r,0,none⟩)]) [(0,true),(1,true),(2,true),(3,true),(4,false),(5,false),(6,false),(7,true),(8,true)] [(9,false)] (by kernel_rfl) (by kernel_rfl) ⟨Blk.drew BR4,Blk.drew B14⟩ ?_
 repeat ((with_reducible refine pG ?_);(first|refine pT ?_|refine pF ?_);try go_frame)
 have hd0:=(Below.refl w4.heap.size w4).drew
 have HF:=Lib.hid (vchange_ (HR4.out.ext hd0) hN hnm (by simp only [List.length_append,List.length_cons,HHL.out,HRL.out];omega))
 refine pD fun K hK=>?_;go_simp
 refine HF.out.mono ?_
 rintro e w5 ⟨A5,c5,rfl,hs5,hR5,hg5⟩
 have B15:=(Blk.drew B14).grown hg5 (by intro e;injection e with e;omega)
 have BR5:=(Blk.drew BR4).grown hg5 (by intro e;injection e with e;omega)
 have hG5:=grown_trans (grown_ext hG4 hd0) hg5
 have HR5:=Lib.hid hR5
 have hz4:=hG4.size
 have hgrl4:=BR4.lt
 have HS5:=Lib.hid (hs5.mono (G:=fun b=>w.heap.size≤b∧b≠gr) (fun b h=>by have h3:w4.heap.size≤b:=h;exact ⟨by omega,by omega⟩))
 refine hK.out _ _ ⟨BR5,B15⟩ ?_
 clear hK K HF hs5 hR5 hg5 hd0 B14 BR4 HR4 hG4
 refine pD fun K hK=>?_;go_simp
 obtain ⟨Wa,hWa⟩:∃ W,W=w5.alloc (.cells #[.string ⟨nm.toArray⟩,.int .i64 1,.slice A5 1 c5] 155):=⟨_,rfl⟩
 have hba:Below w5.heap.size w5 Wa:=by rw [hWa];exact (Below.refl _ _).alloc (Nat.le_refl _) _
 have BC:Blk Wa w5.heap.size 155 #[.string ⟨nm.toArray⟩,.int .i64 1,.slice A5 1 c5]:=by rw [hWa];exact Blk.new _ _ _
 obtain ⟨gc,hgc⟩:∃ g,w5.heap.size=g:=⟨_,rfl⟩
 rw [←hWa]
 rw [hgc] at BC ⊢
 have BRa:=BR5.ext hba
 have B1a:=B15.ext hba
 refine hK.out _ _ ⟨BRa,B1a⟩ ?_
 clear hK K hWa hgc
 obtain ⟨iC,hci,hc0,hc1,hc2⟩:=info_parts (P:=Tryz.prog) (e:=155) (z:=.agg #[.string ⟨#[]⟩,.int .i64 0,.slice none 0 0]) (size:=3) (bytes:=48) (by kernel_rfl)
 refine wpPerm_do rfl (wanted_free rfl) (fun K hK=>?_)
 refine wp_append_full 19 (.tmp 15) (.tmp 18) 123 rfl rfl 155 iC _ 3 48 Tryz.underlying123 hci hc0 hc1 hc2 rfl (by decide) none 0 0 [] rfl (fun _=>⟨rfl,rfl⟩) rfl (fun b hb j u hu=>by simp at hu) ⟨gc,0,none⟩ 1 1 [.string ⟨nm.toArray⟩,.int .i64 1,.slice A5 1 c5] rfl rfl (fun j u hu=>by rw [Addr.add_mid];exact Blk.whole (cs:=[_,_,_]) BC j u hu) (fun u hu=>by simp at hu;rcases hu with rfl|rfl|rfl <;> rfl) (by omega) (by unfold maxLen;omega) (by omega) ?_
 intro A8 c8 w8 hown hgr8
 have hbc:Below Wa.heap.size Wa w8:=(Below.refl _ _).grown hgr8 (Nat.le_refl _) (fun k hk=>by cases hk)
 have BR8:=BRa.ext hbc
 have B18:=B1a.ext hbc
 refine hK.out _ _ ⟨BR8,B18⟩ ?_
 clear hK K D
 have hbac:=hba.trans (Below.mono hbc hba.size)
 have HR8:=Lib.hid (HR5.out.ext hbac)
 have hG8:=grown_ext hG5 hbac
 have h5a:=hba.size
 have h05:=hG5.size
 have hsl:Sl eChg w8 (fun b=>w.heap.size≤b∧b≠gr) A8 1 c8 [(⟨nm.toArray⟩,1,[numV N])]:=by
  have hE:OwnE eChg 155 w8 Wa.heap.size (fun b=>w.heap.size≤b∧b≠gr) A8 1 c8 [(⟨nm.toArray⟩,1,[numV N])]:=⟨[[.string ⟨nm.toArray⟩,.int .i64 1,.slice A5 1 c5]],by rw [show [[Value.string ⟨nm.toArray⟩,.int .i64 1,.slice A5 1 c5]].flatten=[]++[Value.string ⟨nm.toArray⟩,.int .i64 1,.slice A5 1 c5] by simp];exact hown,Els.one_ (eChg_mk (x:=(⟨nm.toArray⟩,1,[numV N])) (HS5.out.ext hbac)),rfl⟩
  exact hE.slB (fun b e=>⟨by have:=(hE.lt e).1;omega,own_not hown BR8 (by decide) b e⟩) (fun b h=>h)
 have HS8:=Lib.hid hsl
 clear hown hgr8 hbc hbac hba BC BRa B1a BR5 B15 HR5 hG5 HS5 hsl hci hc0 hc1 hc2 iC
 repeat ((with_reducible refine pG ?_);(first|refine pT ?_|refine pF ?_);try go_frame)
 refine wpTail_done ?_
 have q1:=BR8.cell 1
 have f1:=BR8.frozen 1
 refine pD fun K hK=>?_;go_simp
 refine hK.out _ _ trivial (wpPerm_done ?_)
 clear hK K q1 f1
 have BR9:=BR8.set_ 1 (.slice A8 1 c8)
 rw [trC_set1] at BR9
 have hk9:Keep (fun b=>b≠gr) w8 (w8.setCell ⟨gr,1,none⟩ (.slice A8 1 c8)):=Keep.set w8 _ _ (fun h=>h rfl)
 have B19:=Blk.keep B18 hk9 hne
 have hG9:=grown_new hG8 (set_grown w8 gr 1 (.slice A8 1 c8)) hgrw
 have HR9:=Lib.hid (HR8.out.keep (hk9.mono (fun b h=>by have:=h.2;omega)))
 have HS9:=Lib.hid (HS8.out.keep (hk9.mono (fun b h=>h.2)))
 clear hk9 BR8 B18 hG8 HR8 HS8
 generalize w8.setCell ⟨gr,1,none⟩ (.slice A8 1 c8)=w9 at *
 go_upto_region 5 with fail
 have D:=fun w' (hS:Blk w' gr 127 (trC (id:Int) (.slice A8 1 c8) (.slice none 0 0) h0 false h0).toArray∧Blk w' g1 209 #[.pointer (some ⟨r,0,none⟩)])=>show w'.cell? ⟨gr,2,none⟩=some (.slice none 0 0)∧w'.cell? ⟨g1,0,none⟩=some (.pointer (some ⟨r,0,none⟩)) from ⟨hS.1.cell 2,hS.2.cell 0⟩
 refine wp_region_tail (S:=fun w'=>Blk w' gr 127 (trC (id:Int) (.slice A8 1 c8) (.slice none 0 0) h0 false h0).toArray∧Blk w' g1 209 #[.pointer (some ⟨r,0,none⟩)]) [(0,true),(1,true),(2,true),(3,false),(4,false),(5,false),(6,true)] [(7,false)] (by kernel_rfl) (by kernel_rfl) ⟨Blk.drew BR9,Blk.drew B19⟩ ?_
 repeat ((with_reducible refine pG ?_);(first|refine pT ?_|refine pF ?_);try go_frame)
 have hd0:=(Below.refl w9.heap.size w9).drew
 have HF:=Lib.hid (vhash_ (HR9.out.ext hd0) HHL.out (by simp only [List.length_append,List.length_cons,HRL.out];omega))
 refine pD fun K hK=>?_;go_simp
 refine HF.out.mono ?_
 rintro e w10 ⟨rfl,hR10,hg10⟩
 have B110:=(Blk.drew B19).grown hg10 (by intro e;injection e with e;omega)
 have BR10:=(Blk.drew BR9).grown hg10 (by intro e;injection e with e;omega)
 have hG10:=grown_trans (grown_ext hG9 hd0) hg10
 have HR10:=Lib.hid hR10
 have HS10:=Lib.hid ((HS9.out.ext hd0).keep (Keep.grown hg10 (fun k hk h=>by injection hk with hk;have:=h.1;omega)))
 refine hK.out _ _ ⟨BR10,B110⟩ ?_
 clear hK K HF hR10 hg10 hd0 B19 BR9 HR9 hG9 HS9
 obtain ⟨i0,hi0,hy0,hy1,hy2⟩:=info_parts (P:=Tryz.prog) (e:=32) (z:=.agg (cellsB h0).toArray) (size:=32) (bytes:=32) (by kernel_rfl)
 have hzs:(Value.agg (cellsB h0).toArray).cells.size=32:=by kernel_rfl
 refine wpPerm_do rfl (wanted_free rfl) (fun K hK=>?_)
 refine wp_slice1d 26 115 32 (.tmp 25) rfl rfl (cellsB H) rfl i0 _ Tryz.underlying115 hi0 hy0 (by rw [hy1,lenB,HHL.out]) (by rw [lenB,HHL.out];omega) (by rw [lenB,HHL.out];omega) ?_
 obtain ⟨Wb,hWb⟩:∃ W,W=w10.alloc (.cells (cellsB H).toArray 32):=⟨_,rfl⟩
 have hbb:Below w10.heap.size w10 Wb:=by rw [hWb];exact (Below.refl _ _).alloc (Nat.le_refl _) _
 have BH:Blk Wb w10.heap.size 32 (cellsB H).toArray:=by rw [hWb];exact Blk.new _ _ _
 obtain ⟨gh,hgh⟩:∃ g,w10.heap.size=g:=⟨_,rfl⟩
 rw [←hWb]
 rw [hgh] at BH ⊢
 have BRb:=BR10.ext hbb
 have B1b:=B110.ext hbb
 refine hK.out _ _ ⟨BRb,B1b⟩ ?_
 clear hK K hWb hgh
 refine wpPerm_do rfl (wanted_free rfl) (fun K hK=>?_)
 refine wp_append_full 27 (.tmp 23) (.tmp 26) 115 rfl rfl 32 i0 _ 32 32 Tryz.underlying115 hi0 hy0 hy1 hy2 hzs (by decide) none 0 0 [] rfl (fun _=>⟨rfl,rfl⟩) rfl (fun b hb j u hu=>by simp at hu) ⟨gh,0,none⟩ 1 1 (cellsB H) rfl (by rw [lenB,HHL.out]) (fun j u hu=>by rw [Addr.add_mid];exact Blk.whole BH j u hu) (oneB _) (by omega) (by unfold maxLen;omega) (by omega) ?_
 intro A11 c11 w11 hown hgr11
 have hbc:Below Wb.heap.size Wb w11:=(Below.refl _ _).grown hgr11 (Nat.le_refl _) (fun k hk=>by cases hk)
 have BR11:=BRb.ext hbc
 have B111:=B1b.ext hbc
 refine hK.out _ _ ⟨BR11,B111⟩ ?_
 clear hK K D
 have hbbc:=hbb.trans (Below.mono hbc hbb.size)
 have HR11:=Lib.hid (HR10.out.ext hbbc)
 have hG11:=grown_ext hG10 hbbc
 have h10b:=hbb.size
 have h010:=hG10.size
 have hsl:Sl eHash w11 (fun b=>w.heap.size≤b∧b≠gr) A11 1 c11 [H]:=by
  have hE:OwnE eHash 32 w11 Wb.heap.size (fun b=>w.heap.size≤b∧b≠gr) A11 1 c11 [H]:=⟨[cellsB H],by rw [show [cellsB H].flatten=[]++cellsB H by simp];exact hown,Els.one_ (hash_rel _ _ H HHL.out),rfl⟩
  exact hE.slB (fun b e=>⟨by have:=(hE.lt e).1;omega,own_not hown BR11 (by decide) b e⟩) (fun b h=>h)
 have HH11:=Lib.hid hsl
 have HS11:=Lib.hid (HS10.out.ext hbbc)
 clear hown hgr11 hbc hbbc hbb BH BRb B1b BR10 B110 HR10 hG10 HS10 hsl hi0 hy0 hy1 hy2 hzs i0
 repeat ((with_reducible refine pG ?_);(first|refine pT ?_|refine pF ?_);try go_frame)
 refine wpTail_done ?_
 have q1:=BR11.cell 2
 have f1:=BR11.frozen 2
 refine pD fun K hK=>?_;go_simp
 refine hK.out _ _ trivial (wpPerm_done ?_)
 clear hK K q1 f1
 have BR12:=BR11.set_ 2 (.slice A11 1 c11)
 rw [trC_set2] at BR12
 have hk12:Keep (fun b=>b≠gr) w11 (w11.setCell ⟨gr,2,none⟩ (.slice A11 1 c11)):=Keep.set w11 _ _ (fun h=>h rfl)
 have B112:=Blk.keep B111 hk12 hne
 have hG12:=grown_new hG11 (set_grown w11 gr 2 (.slice A11 1 c11)) hgrw
 have HR12:=Lib.hid (HR11.out.keep (hk12.mono (fun b h=>by have:=h.2;omega)))
 have HS12:=Lib.hid (HS11.out.keep (hk12.mono (fun b h=>h.2)))
 have HH12:=Lib.hid (HH11.out.keep (hk12.mono (fun b h=>h.2)))
 clear hk12 BR11 B111 hG11 HR11 HS11 HH11
 generalize w11.setCell ⟨gr,2,none⟩ (.slice A11 1 c11)=w12 at *
 go_wp2_with fail
 rw [rounds_succ]
 have q:=B112.cell 0
 have HF:=Lib.hid (vhash_ HR12.out HRL.out (by simp only [List.length_cons];omega))
 go_wp2_with fail
 refine HF.out.mono ?_
 rintro e w13 ⟨rfl,hR13,hg13⟩
 have B113:=B112.grown hg13 (by intro e;injection e with e;omega)
 have BR13:=BR12.grown hg13 (by intro e;injection e with e;omega)
 have hG13:=grown_trans hG12 hg13
 have hk13:Keep (fun b=>w.heap.size≤b∧b≠gr) w12 w13:=Keep.grown hg13 (fun k hk h=>by injection hk with hk;have:=h.1;omega)
 have HS13:=Lib.hid (HS12.out.keep hk13)
 have HH13:=Lib.hid (HH12.out.keep hk13)
 have HR13:=Lib.hid hR13
 clear q HF hR13 hg13 hk13 B112 BR12 hG12 HS12 HH12 HR12
 have hszR:=size32 R HRL.out
 have hth:=Blk.there (o:=3) (n:=32) BR13 (by rw [trC_len _ _ _ _ _ _ h0_len h0_len];omega)
 obtain ⟨BR14,hg14⟩:=Blk.lay (cellsB R) 3 BR13 (by rw [trC_len _ _ _ _ _ _ h0_len h0_len,lenB,HRL.out];omega)
 rw [trC_laid _ _ _ _ _ _ _ h0_len HRL.out] at BR14
 have hk14:Keep (fun b=>b≠gr) w13 (w13.setCells gr 3 (cellsB R)):=Keep.grown hg14 (fun k hk h=>by injection hk with hk;exact h hk.symm)
 have B114:=Blk.keep B113 hk14 hne
 have hG14:=grown_new hG13 hg14 hgrw
 have HR14:=Lib.hid (HR13.out.keep (hk14.mono (fun b h=>by have:=h.2;omega)))
 have HS14:=Lib.hid (HS13.out.keep (hk14.mono (fun b h=>h.2)))
 have HH14:=Lib.hid (HH13.out.keep (hk14.mono (fun b h=>h.2)))
 clear hk14 hg14 BR13 B113 hG13 HR13 HS13 HH13
 go_upto_region 8 with ((with_reducible show wpList _ _ _ (Oper.mk none (Op.store _ (Operand.tmp 32) _) _ _ _ _::_) _ _);(refine wpList_store_mid rfl 32 _ _ rfl gr 3 (cellsB R).toArray rfl rfl ?h1 ?h2 (all_oneCell_toArray (oneB _)) ?_))
 case h1=>exact (show (cellsB R).toArray.size=32 by simp [lenB,HRL.out]) ▸ hth
 case h2=>exact (show (cellsB R).toArray.size=(cellsB R).length by simp) ▸ hszR
 clear hth hszR
 generalize w13.setCells gr 3 (cellsB R)=w14 at *
 have q:=B114.cell 0
 have HF:=Lib.hid (vtruth0_ HR14.out (by omega))
 go_wp2_with fail
 refine HF.out.mono ?_
 rintro e w15 ⟨rfl,hR15,hg15⟩
 have BR15:=BR14.grown hg15 (by intro e;injection e with e;omega)
 have hG15:=grown_trans hG14 hg15
 have hk15:Keep (fun b=>w.heap.size≤b∧b≠gr) w14 w15:=Keep.grown hg15 (fun k hk h=>by injection hk with hk;have:=h.1;omega)
 have HS15:=Lib.hid (HS14.out.keep hk15)
 have HH15:=Lib.hid (HH14.out.keep hk15)
 have HR15:=Lib.hid hR15
 clear q HF hR15 hg15 hk15 B114 BR14 hG14 HS14 HH14 HR14
 have q:=(BR15.cell 35).trans (trC_at35 _ _ _ _ _ _ HRL.out)
 have f:=BR15.frozen 35
 have BR16:=BR15.set_ 35 (.bool false)
 rw [trC_set35 _ _ _ _ _ _ _ HRL.out] at BR16
 have hk16:Keep (fun b=>b≠gr) w15 (w15.setCell ⟨gr,35,none⟩ (.bool false)):=Keep.set w15 _ _ (fun h=>h rfl)
 have hG16:=grown_new hG15 (set_grown w15 gr 35 (.bool false)) hgrw
 have HR16:=Lib.hid (HR15.out.keep (hk16.mono (fun b h=>by have:=h.2;omega)))
 have HS16:=Lib.hid (HS15.out.keep (hk16.mono (fun b h=>h.2)))
 have HH16:=Lib.hid (HH15.out.keep (hk16.mono (fun b h=>h.2)))
 clear hk16 BR15 hG15 HR15 HS15 HH15
 go_upto_region 11 with fail
 clear q f
 generalize w15.setCell ⟨gr,35,none⟩ (.bool false)=w16 at *
 have htl:=trC_len (id:Int) (.slice A8 1 c8) (.slice A11 1 c11) R false h0 HRL.out h0_len
 have hone:=trC_one (id:Int) (.slice A8 1 c8) (.slice A11 1 c11) R false h0 rfl rfl
 have hsz:=size_tr (id:Int) (.slice A8 1 c8) (.slice A11 1 c11) R false h0 HRL.out h0_len
 obtain ⟨tc,htc⟩:∃ t,t=trC (id:Int) (.slice A8 1 c8) (.slice A11 1 c11) R false h0:=⟨_,rfl⟩
 have HTC:=Lib.hid htc
 rw [←htc] at htl hone hsz BR16
 clear htc
 have hth:=Blk.there (o:=0) (n:=68) BR16 (by omega)
 obtain ⟨B9,hg9⟩:=Blk.lay tc 0 BR16 (by omega)
 rw [laid_all _ _ rfl] at B9
 have hk17:Keep (fun b=>b≠gr) w16 (w16.setCells gr 0 tc):=Keep.grown hg9 (fun k hk h=>by injection hk with hk;exact h hk.symm)
 have HE:=Lib.hid (And.intro ((HS16.out.keep (hk17.mono (fun b h=>h.2))).mono (G:=fun b=>w.heap.size≤b) (fun b h=>h.1)) (And.intro ((HH16.out.keep (hk17.mono (fun b h=>h.2))).mono (G:=fun b=>w.heap.size≤b) (fun b h=>h.1)) (And.intro ((HR16.out.keep (hk17.mono (fun b h=>by have:=h.2;omega))).mono (G:=F) (fun b h=>h.1)) (grown_new hG16 hg9 hgrw))))
 clear hk17 hg9 HR16 hG16 HS16 HH16
 go_wp2_with (first|((with_reducible show wpList _ _ _ (Oper.mk (some 41) _ _ _ _ _::_) _ _);(refine wpList_load_mid rfl 127 _ rfl gr 0 rfl tc _ (Blk.whole BR16) Tryz.underlying127 rfl hsz ?_))|((with_reducible show wpList _ _ _ (Oper.mk none (Op.store _ (Operand.tmp 2) _) _ _ _ _::_) _ _);(refine wpList_store_mid rfl 127 _ _ rfl gr 0 tc.toArray rfl rfl ?h3 ?h4 (all_oneCell_toArray hone) ?_)))
 case h3=>exact (show tc.toArray.size=68 by simp [htl]) ▸ hth
 case h4=>exact (show tc.toArray.size=tc.length by simp) ▸ hsz
 clear hth
 generalize w16.setCells gr 0 tc=w17 at *
 go_wp2
 exact bodyPost_ret (v:=.agg tc.toArray) (results_cell_row rfl _ _ gr _ _ (0,0) _ rfl B9 Tryz.underlying127 rfl (by rw [List.size_toArray];exact hsz)) rfl ⟨A8,c8,A11,c11,by rw [HTC.out],HE.out⟩
def recC (bad:Bool) (k:Int) (S:List Value) (nm:ByteArray) (T:List Value) (n:Int) (H:List UInt8):List Value:=.bool bad::.int .i64 k::(S++(.string nm::(T++(.int .i64 n::cellsB H))))
def sch0:List Value:=[.string ⟨#[]⟩,.slice none 0 0,.int .i64 0,.bool false]
def tr0:List Value:=trC 0 (.slice none 0 0) (.slice none 0 0) h0 false h0
theorem tr0_len:tr0.length=68:=trC_len _ _ _ _ _ _ h0_len h0_len
theorem recC_len (bad:Bool) (k:Int) (S:List Value) (nm:ByteArray) (T:List Value) (n:Int) (H:List UInt8) (hS:S.length=4) (hT:T.length=68) (hH:H.length=32):(recC bad k S nm T n H).length=108:=by
 simp [recC,lenB,hS,hT,hH]
theorem recC_one (bad:Bool) (k:Int) (S:List Value) (nm:ByteArray) (T:List Value) (n:Int) (H:List UInt8) (hS:∀ u∈S,u.oneCell'=true) (hT:∀ u∈T,u.oneCell'=true):∀ u∈recC bad k S nm T n H,u.oneCell'=true:=by
 intro u hu
 simp only [recC,List.mem_cons,List.mem_append] at hu
 rcases hu with rfl|rfl|hu|rfl|hu|rfl|hu
 ·rfl
 ·rfl
 ·exact hS u hu
 ·rfl
 ·exact hT u hu
 ·rfl
 ·exact oneB _ u hu
theorem recC_size (bad:Bool) (k:Int) (S:List Value) (nm:ByteArray) (T:List Value) (n:Int) (H:List UInt8) (hS:S.length=4) (hT:T.length=68) (hH:H.length=32):(Tryz.prog.info? 129).map (·.size)=some (recC bad k S nm T n H).length:=by
 rw [recC_len _ _ _ _ _ _ _ hS hT hH];kernel_rfl
theorem recC_bad (bad b:Bool) (k:Int) (S:List Value) (nm:ByteArray) (T:List Value) (n:Int) (H:List UInt8):(recC bad k S nm T n H).toArray.setIfInBounds 0 (.bool b)=(recC b k S nm T n H).toArray:=by simp [recC]
theorem recC_S (bad:Bool) (k:Int) (S S':List Value) (nm:ByteArray) (T:List Value) (n:Int) (H:List UInt8) (h:S'.length=S.length):laid (recC bad k S nm T n H) 2 S'=recC bad k S' nm T n H:=by
 have:=laid_mid [.bool bad,.int .i64 k] S (.string nm::(T++(.int .i64 n::cellsB H))) S' h
 simpa [recC] using this
theorem recC_T (bad:Bool) (k:Int) (S:List Value) (nm:ByteArray) (T T':List Value) (n:Int) (H:List UInt8) (hS:S.length=4) (h:T'.length=T.length):laid (recC bad k S nm T n H) 7 T'=recC bad k S nm T' n H:=by
 have:=laid_mid (.bool bad::.int .i64 k::(S++[.string nm])) T (.int .i64 n::cellsB H) T' h
 simpa [recC,hS] using this
theorem recC_H (bad:Bool) (k:Int) (S:List Value) (nm:ByteArray) (T:List Value) (n:Int) (H K:List UInt8) (hS:S.length=4) (hT:T.length=68) (h:K.length=H.length):laid (recC bad k S nm T n H) 76 (cellsB K)=recC bad k S nm T n K:=by
 have:=laid_mid (.bool bad::.int .i64 k::(S++(.string nm::(T++[.int .i64 n])))) (cellsB H) [] (cellsB K) (by rw [lenB,lenB,h])
 simpa [recC,hS,hT] using this
theorem set_mid (pre post:List Value) (x y:Value) (m:Nat) (h:pre.length=m):(pre++x::post).toArray.setIfInBounds m y=(pre++y::post).toArray:=by
 subst h
 simp
theorem recC_n (bad:Bool) (k:Int) (S:List Value) (nm:ByteArray) (T:List Value) (n m:Int) (H:List UInt8) (hS:S.length=4) (hT:T.length=68):(recC bad k S nm T n H).toArray.setIfInBounds 75 (.int .i64 m)=(recC bad k S nm T m H).toArray:=by
 have:=set_mid (.bool bad::.int .i64 k::(S++(.string nm::T))) (cellsB H) (.int .i64 n) (.int .i64 m) 75 (by simp [hS,hT])
 simpa [recC] using this
theorem recC_atn (bad:Bool) (k:Int) (S:List Value) (nm:ByteArray) (T:List Value) (n:Int) (H:List UInt8) (hS:S.length=4) (hT:T.length=68):(recC bad k S nm T n H).toArray[75]? = some (.int .i64 n):=by
 have e:recC bad k S nm T n H=(.bool bad::.int .i64 k::(S++(.string nm::T)))++(.int .i64 n::cellsB H):=by simp [recC]
 rw [e,List.getElem?_toArray,List.getElem?_append_right (by simp [hS,hT])]
 simp [hS,hT]
theorem zero_rec (w:World):(zeroValue 129).run Tryz.prog w=.ok (.agg (recC false 0 sch0 ⟨#[]⟩ tr0 0 h0).toArray) w:=by kernel_rfl
theorem built_rec (k:Int):Tryz.prog.built 129 [(1,.int .i64 k)]=some (recC false k sch0 ⟨#[]⟩ tr0 0 h0).toArray:=by kernel_rfl
theorem sch0_one:∀ u∈sch0,u.oneCell'=true:=oneSl _ _ _ _ rfl rfl rfl rfl
theorem tr0_one:∀ u∈tr0,u.oneCell'=true:=trC_one _ _ _ _ _ _ rfl rfl
theorem vread1_ {w:World} {A:Option Addr} {n c:Nat} (h:By w A n c (tabB schX)) :
  Calls Tryz.prog 27 #[.slice A n c] w fun e w'=>∃ A' c',e=.returned (.agg (recC false 1 [.string ⟨#[120]⟩,.slice A' 1 c',.int .i64 0,.bool false] ⟨#[]⟩ tr0 0 h0).toArray)∧Sl eCol w' (fun b=>w.heap.size≤b) A' 1 c' [(⟨#[97]⟩,2,false)]∧Below w.heap.size w w':=by
 have hsl:(schB schX).length=18:=rfl
 rw [show tabB schX=b8 1::(le 2 (schB schX).length++(schB schX++[])) by simp [tabB,txtB]] at h
 have hn:n=21:=by rw [←h.2];simp [le,hsl]
 subst hn
 have HB:=Lib.hid h
 have HBN:=Lib.hid (show 21≤500000 by omega)
 have HSL:=Lib.hid hsl
 have hz:=zero_rec
 clear h hsl
 go_enter Tryz.func27,Tryz.ntmps27
 go_upto_region 1 with fail
 obtain ⟨W,hW_,hb0,BR⟩:=al1 w 129 ((recC false 0 sch0 ⟨#[]⟩ tr0 0 h0).toArray)
 rw [←hW_]
 clear hW_
 obtain ⟨gr,hgr⟩:∃ g,w.heap.size=g:=⟨_,rfl⟩
 have hgrw:w.heap.size≤gr:=by omega
 rw [hgr] at BR ⊢
 clear hgr
 have hgrW:gr<W.heap.size:=BR.lt
 have hwW:w.heap.size≤W.heap.size:=hb0.size
 have HN:=Lib.hid (newr_ _ _ _ _ _ (HB.out.ext hb0) HBN.out)
 go_wp2_with fail
 refine HN.out.mono ?_
 rintro e w1 ⟨r,rfl,hR,hrw,hb1⟩
 have HR:=Lib.hid hR
 have BR1:=BR.ext hb1
 have hbw1:=hb0.trans (Below.mono hb1 hwW)
 have hrl:r<w1.heap.size:=hR.lt
 have hW1:W.heap.size≤w1.heap.size:=hb1.size
 clear hR hb1 hb0 BR HN HB
 go_upto_region 2 with fail
 obtain ⟨W2,hW_,hb2,BY⟩:=al1 w1 209 #[.pointer (some ⟨r,0,none⟩)]
 rw [←hW_]
 clear hW_
 obtain ⟨gy,hgy⟩:∃ g,w1.heap.size=g:=⟨_,rfl⟩
 have hgyw:w1.heap.size≤gy:=by omega
 rw [hgy] at BY ⊢
 clear hgy
 have HF:=Lib.hid (rbyte_ (b8 1) (HR.out.ext hb2) (by simp only [List.length_append,le_len,HSL.out,List.length_nil];omega))
 have BR2:=BR1.ext hb2
 have hbw2:=hbw1.trans (Below.mono hb2 hbw1.size)
 have q:=BY.cell 0
 clear hb2 BR1 hbw1 HR
 go_wp2_with fail
 refine HF.out.mono ?_
 rintro e w3 ⟨rfl,hR3,hg3⟩
 rw [show ((b8 1).toNat:Int)=1 from rfl]
 have BY3:=BY.grown hg3 (by intro e;injection e with e;omega)
 have BR3:=BR2.grown hg3 (by intro e;injection e with e;omega)
 have hbw3:=hbw2.grown hg3 hbw2.size (fun k hk=>by injection hk with hk;omega)
 have HR3:=Lib.hid hR3
 have hy3:gy<w3.heap.size:=BY3.lt
 clear q HF hR3 hg3 BY BR2 hbw2
 have hrl0:=recC_len false 1 sch0 ⟨#[]⟩ tr0 0 h0 rfl tr0_len h0_len
 have hro0:=recC_one false 1 sch0 ⟨#[]⟩ tr0 0 h0 sch0_one tr0_one
 have hrs0:=recC_size false 1 sch0 ⟨#[]⟩ tr0 0 h0 rfl tr0_len h0_len
 obtain ⟨Wq,hWq⟩:∃ W',W'=w3.alloc (.cells (recC false 0 sch0 ⟨#[]⟩ tr0 0 h0).toArray 129):=⟨_,rfl⟩
 have hbq:Below w3.heap.size w3 Wq:=by rw [hWq];exact (Below.refl _ _).alloc (Nat.le_refl _) _
 have BQ0:Blk Wq w3.heap.size 129 (recC false 0 sch0 ⟨#[]⟩ tr0 0 h0).toArray:=by rw [hWq];exact Blk.new _ _ _
 have hthq:=Blk.there (o:=0) (n:=108) BQ0 (by rw [recC_len _ _ _ _ _ _ _ rfl tr0_len h0_len];omega)
 obtain ⟨BQ,hgq⟩:=Blk.lay (recC false 1 sch0 ⟨#[]⟩ tr0 0 h0) 0 BQ0 (by rw [hrl0,recC_len _ _ _ _ _ _ _ rfl tr0_len h0_len];omega)
 rw [laid_all _ _ (by rw [hrl0,recC_len _ _ _ _ _ _ _ rfl tr0_len h0_len])] at BQ
 have hbq5:=hbq.grown hgq hbq.size (fun k hk=>by injection hk with hk;omega)
 have HWq:=Lib.hid hWq
 clear hWq
 go_upto_region 3 with (first|((with_reducible show wpList _ _ _ (Oper.mk (some 13) _ _ _ _ _::_) _ _);(refine wpList_buildP rfl 129 _ rfl (built_rec 1) rfl ?_))|((with_reducible show wpList _ _ _ (Oper.mk none (Op.store _ (Operand.tmp 4) _) _ _ _ _::_) _ _);(rw [←HWq.out]);(refine wpList_store_mid rfl 129 _ _ rfl w3.heap.size 0 (recC false 1 sch0 ⟨#[]⟩ tr0 0 h0).toArray rfl rfl ?h1 ?h2 (all_oneCell_toArray hro0) ?_)))
 case h1=>exact (show (recC false 1 sch0 ⟨#[]⟩ tr0 0 h0).toArray.size=108 by simp [hrl0]) ▸ hthq
 case h2=>exact (show (recC false 1 sch0 ⟨#[]⟩ tr0 0 h0).toArray.size=(recC false 1 sch0 ⟨#[]⟩ tr0 0 h0).length by simp) ▸ hrs0
 obtain ⟨g4,hg4⟩:∃ g,w3.heap.size=g:=⟨_,rfl⟩
 have hg4w:w1.heap.size≤g4:=by have:=hbw3.size;omega
 have hy4:gy<g4:=by omega
 have BY4:=BY3.ext hbq5
 have BR4:=BR3.ext hbq5
 have HR4:=Lib.hid (HR3.out.ext hbq5)
 have hbw4:=hbw3.trans (Below.mono hbq5 hbw3.size)
 rw [hg4] at BQ BY4 BR4 HR4 hbw4 ⊢
 clear hthq hgq hbq BQ0 hrs0 hbq5 hg4 hro0 hrl0 hbw3 BY3 BR3 HR3 hy3 hz
 generalize Wq.setCells g4 0 (recC false 1 sch0 ⟨#[]⟩ tr0 0 h0)=w4 at *
 clear HWq
 have q1:w4.cell? ⟨g4,1,none⟩=some (.int .i64 1):=BQ.cell 1
 have HF:=Lib.hid (rtext_ HR4.out (by rw [HSL.out];omega) (by simp))
 have q:=BY4.cell 0
 go_wp2_with fail
 refine HF.out.mono ?_
 rintro e w5 ⟨rfl,hR5,hg5⟩
 have BQ5:=BQ.grown hg5 (by intro e;injection e with e;omega)
 have BY5:=BY4.grown hg5 (by intro e;injection e with e;omega)
 have BR5:=BR4.grown hg5 (by intro e;injection e with e;omega)
 have hbw5:=hbw4.grown hg5 hbw4.size (fun k hk=>by injection hk with hk;omega)
 have HR5:=Lib.hid hR5
 clear q1 q HF hR5 hg5 BQ BY4 BR4 hbw4 HR4
 obtain ⟨cb,w6,hcv,hby,hb6,_⟩:=conv_bytes ⟨(schB schX).toArray⟩ w5
 have hsz:(⟨(schB schX).toArray⟩:ByteArray).size=18:=by show (schB schX).toArray.size=18;rw [List.size_toArray,HSL.out]
 rw [hsz] at hcv hby
 have BQ6:=BQ5.ext hb6
 have BY6:=BY5.ext hb6
 have BR6:=BR5.ext hb6
 have HR6:=Lib.hid (HR5.out.ext hb6)
 have hbw6:=hbw5.trans (Below.mono hb6 hbw5.size)
 have HF:=Lib.hid (sparse_ (w:=w6) (A:=some ⟨w5.heap.size,0,none⟩) (n:=18) (c:=cb) (by have:=hby;simpa using this))
 clear hby BQ5 BY5 BR5 HR5 hbw5 hb6 hsz
 go_wp2_with fail
 refine HF.out.mono ?_
 rintro e w7 ⟨A7,c7,rfl,hs7,hb7⟩
 have BQ7:=BQ6.ext hb7
 have BY7:=BY6.ext hb7
 have BR7:=BR6.ext hb7
 have HR7:=Lib.hid (HR6.out.ext hb7)
 have hbw7:=hbw6.trans (Below.mono hb7 hbw6.size)
 have HS7:=Lib.hid (hs7.mono (G:=fun b=>w.heap.size≤b∧b≠g4∧b≠gr) (fun b h=>by have h1:=BQ6.lt;have h2:=hbw6.size;have h3:w6.heap.size≤b:=h;have h4:=BR6.lt;exact ⟨by omega,by omega,by omega⟩))
 clear hcv hs7 hb7 HF BQ6 BY6 BR6 HR6 hbw6
 go_upto_region 7 with fail
 obtain ⟨W8,hW_,hb8,BX⟩:=al1 w7 53 #[.string ⟨#[120]⟩,.slice A7 1 c7,.int .i64 0,.bool false]
 rw [←hW_]
 clear hW_
 obtain ⟨gx,hgx⟩:∃ g,w7.heap.size=g:=⟨_,rfl⟩
 rw [hgx] at BX ⊢
 clear hgx
 have BQ8:=BQ7.ext hb8
 have BY8:=BY7.ext hb8
 have BR8:=BR7.ext hb8
 have HR8:=Lib.hid (HR7.out.ext hb8)
 have hbw8:=hbw7.trans (Below.mono hb8 hbw7.size)
 have HS8:=Lib.hid (HS7.out.ext hb8)
 have HF:=Lib.hid (fail0_ (w:=W8) r)
 have q:=BY8.cell 0
 clear hb8 BQ7 BY7 BR7 HR7 hbw7 HS7
 go_wp2_with fail
 refine HF.out.mono ?_
 rintro e w9 ⟨rfl,hb9⟩
 have BQ9:=BQ8.ext hb9
 have BY9:=BY8.ext hb9
 have BR9:=BR8.ext hb9
 have BX9:=BX.ext hb9
 have HR9:=Lib.hid (HR8.out.ext hb9)
 have hbw9:=hbw8.trans (Below.mono hb9 hbw8.size)
 have HS9:=Lib.hid (HS8.out.ext hb9)
 clear q HF hb9 BQ8 BY8 BR8 HR8 hbw8 HS8 BX
 have x:=four BX9 (Below.refl _ _)
 obtain ⟨S7,hS7⟩:∃ S:List Value,S=[.string ⟨#[120]⟩,.slice A7 1 c7,.int .i64 0,.bool false]:=⟨_,rfl⟩
 have hS4:S7.length=4:=by rw [hS7];rfl
 have hSo:∀ u∈S7,u.oneCell'=true:=by rw [hS7];exact oneSl _ _ _ _ rfl rfl rfl rfl
 have hSs:(Tryz.prog.info? 53).map (·.size)=some S7.length:=by rw [hS4];kernel_rfl
 have hth:=Blk.there (o:=2) (n:=4) BQ9 (by rw [recC_len _ _ _ _ _ _ _ rfl tr0_len h0_len];omega)
 obtain ⟨BQ7,hg7⟩:=Blk.lay S7 2 BQ9 (by rw [hS4,recC_len _ _ _ _ _ _ _ rfl tr0_len h0_len];omega)
 rw [recC_S _ _ _ _ _ _ _ _ (by rw [hS4];rfl)] at BQ7
 have hk7:Keep (fun b=>b≠g4) w9 (w9.setCells g4 2 S7):=Keep.grown hg7 (fun k hk h=>by injection hk with hk;exact h hk.symm)
 have BY7:=Blk.keep BY9 hk7 (Nat.ne_of_lt hy4)
 have BR7:=Blk.keep BR9 hk7 (show gr≠g4 by omega)
 have HR7:=Lib.hid (HR9.out.keep (hk7.mono (fun b h=>by have:=h.2;omega)))
 have hbw7:=hbw9.grown hg7 hbw9.size (fun k hk=>by injection hk with hk;omega)
 have HS7:=Lib.hid (HS9.out.keep (hk7.mono (fun b h=>h.2.1)))
 have HS:=Lib.hid hS7
 clear hk7 hg7 BQ9 BY9 BR9 HR9 hbw9 HS9 hS7
 go_upto_region 15 with ((with_reducible show wpList _ _ _ (Oper.mk none (Op.store _ (Operand.tmp 34) _) _ _ _ _::_) _ _);(refine wpList_store_mid rfl 53 _ _ rfl g4 2 S7.toArray rfl (by rw [HS.out];rfl) ?h5 ?h6 (all_oneCell_toArray hSo) ?_))
 case h5=>exact (show S7.toArray.size=4 by simp [hS4]) ▸ hth
 case h6=>exact (show S7.toArray.size=S7.length by simp) ▸ hSs
 clear hth hSs x BX9
 generalize w9.setCells g4 2 S7=w10 at *
 have HF:=Lib.hid (rend_ HR7.out)
 have q:=BY7.cell 0
 have p0:w10.cell? ⟨g4,0,none⟩=some (.bool false):=BQ7.cell 0
 have f0:=BQ7.frozen 0
 go_wp2_with fail
 refine HF.out.mono ?_
 rintro e w' ⟨rfl,rfl⟩
 have BQ8:=BQ7.set_ 0 (.bool false)
 rw [recC_bad] at BQ8
 have hg8:=set_grown w10 g4 0 (.bool false)
 have hk8:Keep (fun b=>b≠g4) w10 (w10.setCell ⟨g4,0,none⟩ (.bool false)):=Keep.set w10 _ _ (fun h=>h rfl)
 have BR8:=Blk.keep BR7 hk8 (show gr≠g4 by omega)
 have hbw8:=hbw7.grown hg8 hbw7.size (fun k hk=>by injection hk with hk;omega)
 have HS7:=Lib.hid (HS7.out.keep (hk8.mono (fun b h=>h.2.1)))
 clear HF hg8 hk8 BQ7 BR7 hbw7 BY7 HR7
 have hrl:=recC_len false 1 (S7) ⟨#[]⟩ (tr0) (0) (h0) hS4 tr0_len h0_len
 have hro:=recC_one false 1 (S7) ⟨#[]⟩ (tr0) (0) (h0) hSo tr0_one
 have hrs:=recC_size false 1 (S7) ⟨#[]⟩ (tr0) (0) (h0) hS4 tr0_len h0_len
 obtain ⟨rc,hrc⟩:∃ x,x=recC false 1 (S7) ⟨#[]⟩ (tr0) (0) (h0):=⟨_,rfl⟩
 have HRC:=Lib.hid hrc
 rw [←hrc] at hrl hro hrs BQ8
 clear hrc
 go_upto_region 16 with fail
 clear q p0 f0
 generalize w10.setCell ⟨g4,0,none⟩ (.bool false)=w8 at *
 have hth:=Blk.there (o:=0) (n:=108) BR8 (by rw [recC_len _ _ _ _ _ _ _ rfl tr0_len h0_len];omega)
 obtain ⟨B9,hg9⟩:=Blk.lay rc 0 BR8 (by rw [hrl,recC_len _ _ _ _ _ _ _ rfl tr0_len h0_len];omega)
 rw [laid_all _ _ (by rw [hrl,recC_len _ _ _ _ _ _ _ rfl tr0_len h0_len])] at B9
 have hk9:Keep (fun b=>b≠gr) w8 (w8.setCells gr 0 rc):=Keep.grown hg9 (fun k hk h=>by injection hk with hk;exact h hk.symm)
 have hbw9:=hbw8.grown hg9 hbw8.size (fun k hk=>by injection hk with hk;omega)
 have HS7:=Lib.hid (HS7.out.keep (hk9.mono (fun b h=>h.2.2)))
 clear hk9 hg9 hbw8 BR8
 go_wp2_with (first|((with_reducible show wpList _ _ _ (Oper.mk (some 60) _ _ _ _ _::_) _ _);(refine wpList_load_mid rfl 129 _ rfl g4 0 rfl rc _ (Blk.whole BQ8) Tryz.underlying129 rfl hrs ?_))|((with_reducible show wpList _ _ _ (Oper.mk none (Op.store _ (Operand.tmp 2) _) _ _ _ _::_) _ _);(refine wpList_store_mid rfl 129 _ _ rfl gr 0 rc.toArray rfl rfl ?h3 ?h4 (all_oneCell_toArray hro) ?_)))
 case h3=>exact (show rc.toArray.size=108 by simp [hrl]) ▸ hth
 case h4=>exact (show rc.toArray.size=rc.length by simp) ▸ hrs
 clear hth
 generalize w8.setCells gr 0 rc=w9 at *
 go_wp2
 exact bodyPost_ret (v:=.agg rc.toArray) (results_cell_row rfl _ _ gr _ _ (0,0) _ rfl B9 Tryz.underlying129 rfl (by rw [List.size_toArray];exact hrs)) rfl ⟨A7,c7,by rw [HRC.out,HS.out],HS7.out.mono (fun b h=>h.1),hbw9⟩
theorem vread3_ {w:World} {A:Option Addr} {n c id N:Nat} {nm:List UInt8} (h:By w A n c (txB id (⟨nm.toArray⟩,1,[numV N]))) (hid:id<9223372036854775808) (hN:N<9223372036854775808) (hnm:nm.length≤100) :
  Calls Tryz.prog 27 #[.slice A n c] w fun e w'=>∃ A' c' B d,e=.returned (.agg (recC false 3 sch0 ⟨#[]⟩ (trC id (.slice A' 1 c') (.slice B 1 d) (rowH id 0 (⟨nm.toArray⟩,1,[numV N])) false h0) 0 h0).toArray)∧Sl eChg w' (fun b=>w.heap.size≤b) A' 1 c' [(⟨nm.toArray⟩,1,[numV N])]∧Sl eHash w' (fun b=>w.heap.size≤b) B 1 d [rowH id 0 (⟨nm.toArray⟩,1,[numV N])]∧Below w.heap.size w w':=by
 obtain ⟨H,hH⟩:∃ H,rowH id 0 (⟨nm.toArray⟩,1,[numV N])=H:=⟨_,rfl⟩
 have hHl:H.length=32:=by rw [←hH];exact shaL_len _
 have HHL:=Lib.hid hHl
 have hrb:(rowB [numV N]).length=10:=by rw [rowB_num];simp [le]
 have hnz:(⟨nm.toArray⟩:ByteArray).data.toList=nm:=by simp
 have hl:(tB id nm N H H []).length≤400:=by
  simp only [tB,cB,List.length_cons,List.length_append,le_len,hrb,hHl,List.length_nil]
  omega
 rw [show txB id (⟨nm.toArray⟩,1,[numV N])=b8 3::tB id nm N H H [] by
  rw [txB,hH]
  simp [chgB,txtB,tB,cB]] at h
 rw [hH]
 have hn:n≤500:=by rw [←h.2,List.length_cons];omega
 have HB:=Lib.hid h
 have HBN:=Lib.hid (show n≤500000 by omega)
 have HTL:=Lib.hid hl
 have hz:=zero_rec
 clear h hl hn hH hrb hnz hHl
 go_enter Tryz.func27,Tryz.ntmps27
 go_upto_region 1 with fail
 obtain ⟨W,hW_,hb0,BR⟩:=al1 w 129 ((recC false 0 sch0 ⟨#[]⟩ tr0 0 h0).toArray)
 rw [←hW_]
 clear hW_
 obtain ⟨gr,hgr⟩:∃ g,w.heap.size=g:=⟨_,rfl⟩
 have hgrw:w.heap.size≤gr:=by omega
 rw [hgr] at BR ⊢
 clear hgr
 have hgrW:gr<W.heap.size:=BR.lt
 have hwW:w.heap.size≤W.heap.size:=hb0.size
 have HN:=Lib.hid (newr_ _ _ _ _ _ (HB.out.ext hb0) HBN.out)
 go_wp2_with fail
 refine HN.out.mono ?_
 rintro e w1 ⟨r,rfl,hR,hrw,hb1⟩
 have HR:=Lib.hid hR
 have BR1:=BR.ext hb1
 have hbw1:=hb0.trans (Below.mono hb1 hwW)
 have hrl:r<w1.heap.size:=hR.lt
 have hW1:W.heap.size≤w1.heap.size:=hb1.size
 clear hR hb1 hb0 BR HN HB
 go_upto_region 2 with fail
 obtain ⟨W2,hW_,hb2,BY⟩:=al1 w1 209 #[.pointer (some ⟨r,0,none⟩)]
 rw [←hW_]
 clear hW_
 obtain ⟨gy,hgy⟩:∃ g,w1.heap.size=g:=⟨_,rfl⟩
 have hgyw:w1.heap.size≤gy:=by omega
 rw [hgy] at BY ⊢
 clear hgy
 have HF:=Lib.hid (rbyte_ (b8 3) (HR.out.ext hb2) (by have:=HTL.out;omega))
 have BR2:=BR1.ext hb2
 have hbw2:=hbw1.trans (Below.mono hb2 hbw1.size)
 have q:=BY.cell 0
 clear hb2 BR1 hbw1 HR
 go_wp2_with fail
 refine HF.out.mono ?_
 rintro e w3 ⟨rfl,hR3,hg3⟩
 rw [show ((b8 3).toNat:Int)=3 from rfl]
 have BY3:=BY.grown hg3 (by intro e;injection e with e;omega)
 have BR3:=BR2.grown hg3 (by intro e;injection e with e;omega)
 have hbw3:=hbw2.grown hg3 hbw2.size (fun k hk=>by injection hk with hk;omega)
 have HR3:=Lib.hid hR3
 have hy3:gy<w3.heap.size:=BY3.lt
 clear q HF hR3 hg3 BY BR2 hbw2
 have hrl0:=recC_len false 3 sch0 ⟨#[]⟩ tr0 0 h0 rfl tr0_len h0_len
 have hro0:=recC_one false 3 sch0 ⟨#[]⟩ tr0 0 h0 sch0_one tr0_one
 have hrs0:=recC_size false 3 sch0 ⟨#[]⟩ tr0 0 h0 rfl tr0_len h0_len
 obtain ⟨Wq,hWq⟩:∃ W',W'=w3.alloc (.cells (recC false 0 sch0 ⟨#[]⟩ tr0 0 h0).toArray 129):=⟨_,rfl⟩
 have hbq:Below w3.heap.size w3 Wq:=by rw [hWq];exact (Below.refl _ _).alloc (Nat.le_refl _) _
 have BQ0:Blk Wq w3.heap.size 129 (recC false 0 sch0 ⟨#[]⟩ tr0 0 h0).toArray:=by rw [hWq];exact Blk.new _ _ _
 have hthq:=Blk.there (o:=0) (n:=108) BQ0 (by rw [recC_len _ _ _ _ _ _ _ rfl tr0_len h0_len];omega)
 obtain ⟨BQ,hgq⟩:=Blk.lay (recC false 3 sch0 ⟨#[]⟩ tr0 0 h0) 0 BQ0 (by rw [hrl0,recC_len _ _ _ _ _ _ _ rfl tr0_len h0_len];omega)
 rw [laid_all _ _ (by rw [hrl0,recC_len _ _ _ _ _ _ _ rfl tr0_len h0_len])] at BQ
 have hbq5:=hbq.grown hgq hbq.size (fun k hk=>by injection hk with hk;omega)
 have HWq:=Lib.hid hWq
 clear hWq
 go_upto_region 3 with (first|((with_reducible show wpList _ _ _ (Oper.mk (some 13) _ _ _ _ _::_) _ _);(refine wpList_buildP rfl 129 _ rfl (built_rec 3) rfl ?_))|((with_reducible show wpList _ _ _ (Oper.mk none (Op.store _ (Operand.tmp 4) _) _ _ _ _::_) _ _);(rw [←HWq.out]);(refine wpList_store_mid rfl 129 _ _ rfl w3.heap.size 0 (recC false 3 sch0 ⟨#[]⟩ tr0 0 h0).toArray rfl rfl ?h1 ?h2 (all_oneCell_toArray hro0) ?_)))
 case h1=>exact (show (recC false 3 sch0 ⟨#[]⟩ tr0 0 h0).toArray.size=108 by simp [hrl0]) ▸ hthq
 case h2=>exact (show (recC false 3 sch0 ⟨#[]⟩ tr0 0 h0).toArray.size=(recC false 3 sch0 ⟨#[]⟩ tr0 0 h0).length by simp) ▸ hrs0
 obtain ⟨g4,hg4⟩:∃ g,w3.heap.size=g:=⟨_,rfl⟩
 have hg4w:w1.heap.size≤g4:=by have:=hbw3.size;omega
 have hy4:gy<g4:=by omega
 have BY4:=BY3.ext hbq5
 have BR4:=BR3.ext hbq5
 have HR4:=Lib.hid (HR3.out.ext hbq5)
 have hbw4:=hbw3.trans (Below.mono hbq5 hbw3.size)
 rw [hg4] at BQ BY4 BR4 HR4 hbw4 ⊢
 clear hthq hgq hbq BQ0 hrs0 hbq5 hg4 hro0 hrl0 hbw3 BY3 BR3 HR3 hy3 hz
 generalize Wq.setCells g4 0 (recC false 3 sch0 ⟨#[]⟩ tr0 0 h0)=w4 at *
 clear HWq
 have q1:w4.cell? ⟨g4,1,none⟩=some (.int .i64 3):=BQ.cell 1
 have HF:=Lib.hid (vtrans_ HR4.out hid hN hnm HHL.out HHL.out (by simp))
 have q:=BY4.cell 0
 go_wp2_with fail
 refine HF.out.mono ?_
 rintro e w5 ⟨A5,c5,B5,d5,rfl,hs5,hh5,hR5,hg5⟩
 have BQ5:=BQ.grown hg5 (by intro e;injection e with e;omega)
 have BY5:=BY4.grown hg5 (by intro e;injection e with e;omega)
 have BR5:=BR4.grown hg5 (by intro e;injection e with e;omega)
 have hbw5:=hbw4.grown hg5 hbw4.size (fun k hk=>by injection hk with hk;omega)
 have HR5:=Lib.hid hR5
 have hF5:∀ b,w4.heap.size≤b→w.heap.size≤b∧b≠g4∧b≠gr:=fun b hb=>by have h1:=BQ.lt;have h2:=hbw4.size;have h4:=BR4.lt;exact ⟨by omega,by omega,by omega⟩
 have HS5:=Lib.hid (hs5.mono hF5)
 have HK5:=Lib.hid (hh5.mono hF5)
 clear q1 q HF hR5 hg5 BQ BY4 BR4 hbw4 HR4 hs5 hh5 hF5
 have hT4:=trC_len (id:Int) (.slice A5 1 c5) (.slice B5 1 d5) H false h0 HHL.out h0_len
 have hTo:=trC_one (id:Int) (.slice A5 1 c5) (.slice B5 1 d5) H false h0 rfl rfl
 have hTs:=size_tr (id:Int) (.slice A5 1 c5) (.slice B5 1 d5) H false h0 HHL.out h0_len
 obtain ⟨T7,hT7⟩:∃ T,T=trC (id:Int) (.slice A5 1 c5) (.slice B5 1 d5) H false h0:=⟨_,rfl⟩
 have HT:=Lib.hid hT7
 rw [←hT7] at hT4 hTo hTs ⊢
 clear hT7
 have hth:=Blk.there (o:=7) (n:=68) BQ5 (by rw [recC_len _ _ _ _ _ _ _ rfl tr0_len h0_len];omega)
 obtain ⟨BQ7,hg7⟩:=Blk.lay T7 7 BQ5 (by rw [hT4,recC_len _ _ _ _ _ _ _ rfl tr0_len h0_len];omega)
 rw [recC_T _ _ _ _ _ _ _ _ rfl (by rw [hT4,tr0_len])] at BQ7
 have hk7:Keep (fun b=>b≠g4) w5 (w5.setCells g4 7 T7):=Keep.grown hg7 (fun k hk h=>by injection hk with hk;exact h hk.symm)
 have BY7:=Blk.keep BY5 hk7 (Nat.ne_of_lt hy4)
 have BR7:=Blk.keep BR5 hk7 (show gr≠g4 by omega)
 have HR7:=Lib.hid (HR5.out.keep (hk7.mono (fun b h=>by have:=h.2;omega)))
 have hbw7:=hbw5.grown hg7 hbw5.size (fun k hk=>by injection hk with hk;omega)
 have HS7:=Lib.hid (HS5.out.keep (hk7.mono (fun b h=>h.2.1)))
 have HK7:=Lib.hid (HK5.out.keep (hk7.mono (fun b h=>h.2.1)))
 clear hk7 hg7 BQ5 BY5 BR5 HR5 hbw5 HS5 HK5
 go_upto_region 15 with ((with_reducible show wpList _ _ _ (Oper.mk none (Op.store _ (Operand.tmp 45) _) _ _ _ _::_) _ _);(refine wpList_store_mid rfl 127 _ _ rfl g4 7 T7.toArray rfl rfl ?h5 ?h6 (all_oneCell_toArray hTo) ?_))
 case h5=>exact (show T7.toArray.size=68 by simp [hT4]) ▸ hth
 case h6=>exact (show T7.toArray.size=T7.length by simp) ▸ hTs
 clear hth hTs
 generalize w5.setCells g4 7 T7=w10 at *
 have HF:=Lib.hid (rend_ HR7.out)
 have q:=BY7.cell 0
 have p0:w10.cell? ⟨g4,0,none⟩=some (.bool false):=BQ7.cell 0
 have f0:=BQ7.frozen 0
 go_wp2_with fail
 refine HF.out.mono ?_
 rintro e w' ⟨rfl,rfl⟩
 have BQ8:=BQ7.set_ 0 (.bool false)
 rw [recC_bad] at BQ8
 have hg8:=set_grown w10 g4 0 (.bool false)
 have hk8:Keep (fun b=>b≠g4) w10 (w10.setCell ⟨g4,0,none⟩ (.bool false)):=Keep.set w10 _ _ (fun h=>h rfl)
 have BR8:=Blk.keep BR7 hk8 (show gr≠g4 by omega)
 have hbw8:=hbw7.grown hg8 hbw7.size (fun k hk=>by injection hk with hk;omega)
 have HS7:=Lib.hid (HS7.out.keep (hk8.mono (fun b h=>h.2.1)))
 have HK7:=Lib.hid (HK7.out.keep (hk8.mono (fun b h=>h.2.1)))
 clear HF hg8 hk8 BQ7 BR7 hbw7 BY7 HR7
 have hrl:=recC_len false 3 (sch0) ⟨#[]⟩ (T7) (0) (h0) rfl hT4 h0_len
 have hro:=recC_one false 3 (sch0) ⟨#[]⟩ (T7) (0) (h0) sch0_one hTo
 have hrs:=recC_size false 3 (sch0) ⟨#[]⟩ (T7) (0) (h0) rfl hT4 h0_len
 obtain ⟨rc,hrc⟩:∃ x,x=recC false 3 (sch0) ⟨#[]⟩ (T7) (0) (h0):=⟨_,rfl⟩
 have HRC:=Lib.hid hrc
 rw [←hrc] at hrl hro hrs BQ8
 clear hrc
 go_upto_region 16 with fail
 clear q p0 f0
 generalize w10.setCell ⟨g4,0,none⟩ (.bool false)=w8 at *
 have hth:=Blk.there (o:=0) (n:=108) BR8 (by rw [recC_len _ _ _ _ _ _ _ rfl tr0_len h0_len];omega)
 obtain ⟨B9,hg9⟩:=Blk.lay rc 0 BR8 (by rw [hrl,recC_len _ _ _ _ _ _ _ rfl tr0_len h0_len];omega)
 rw [laid_all _ _ (by rw [hrl,recC_len _ _ _ _ _ _ _ rfl tr0_len h0_len])] at B9
 have hk9:Keep (fun b=>b≠gr) w8 (w8.setCells gr 0 rc):=Keep.grown hg9 (fun k hk h=>by injection hk with hk;exact h hk.symm)
 have hbw9:=hbw8.grown hg9 hbw8.size (fun k hk=>by injection hk with hk;omega)
 have HS7:=Lib.hid (HS7.out.keep (hk9.mono (fun b h=>h.2.2)))
 have HK7:=Lib.hid (HK7.out.keep (hk9.mono (fun b h=>h.2.2)))
 clear hk9 hg9 hbw8 BR8
 go_wp2_with (first|((with_reducible show wpList _ _ _ (Oper.mk (some 60) _ _ _ _ _::_) _ _);(refine wpList_load_mid rfl 129 _ rfl g4 0 rfl rc _ (Blk.whole BQ8) Tryz.underlying129 rfl hrs ?_))|((with_reducible show wpList _ _ _ (Oper.mk none (Op.store _ (Operand.tmp 2) _) _ _ _ _::_) _ _);(refine wpList_store_mid rfl 129 _ _ rfl gr 0 rc.toArray rfl rfl ?h3 ?h4 (all_oneCell_toArray hro) ?_)))
 case h3=>exact (show rc.toArray.size=108 by simp [hrl]) ▸ hth
 case h4=>exact (show rc.toArray.size=rc.length by simp) ▸ hrs
 clear hth
 generalize w8.setCells gr 0 rc=w9 at *
 go_wp2
 exact bodyPost_ret (v:=.agg rc.toArray) (results_cell_row rfl _ _ gr _ _ (0,0) _ rfl B9 Tryz.underlying129 rfl (by rw [List.size_toArray];exact hrs)) rfl ⟨A5,c5,B5,d5,by rw [HRC.out,HT.out],HS7.out.mono (fun b h=>h.1),HK7.out.mono (fun b h=>h.1),hbw9⟩
theorem vread4_ {w:World} {A:Option Addr} {n c m:Nat} {H:List UInt8} (h:By w A n c (blkB m H)) (hm:m<9223372036854775808) (hH:H.length=32) :
  Calls Tryz.prog 27 #[.slice A n c] w fun e w'=>e=.returned (.agg (recC false 4 sch0 ⟨#[]⟩ tr0 m H).toArray)∧Below w.heap.size w w':=by
 rw [show blkB m H=b8 4::(le 8 m++(H++[])) by simp [blkB]] at h
 have hn:n=41:=by rw [←h.2];simp [le,hH]
 subst hn
 have HB:=Lib.hid h
 have HBN:=Lib.hid (show 41≤500000 by omega)
 have HHL:=Lib.hid hH
 have hz:=zero_rec
 clear h hH
 go_enter Tryz.func27,Tryz.ntmps27
 go_upto_region 1 with fail
 obtain ⟨W,hW_,hb0,BR⟩:=al1 w 129 ((recC false 0 sch0 ⟨#[]⟩ tr0 0 h0).toArray)
 rw [←hW_]
 clear hW_
 obtain ⟨gr,hgr⟩:∃ g,w.heap.size=g:=⟨_,rfl⟩
 have hgrw:w.heap.size≤gr:=by omega
 rw [hgr] at BR ⊢
 clear hgr
 have hgrW:gr<W.heap.size:=BR.lt
 have hwW:w.heap.size≤W.heap.size:=hb0.size
 have HN:=Lib.hid (newr_ _ _ _ _ _ (HB.out.ext hb0) HBN.out)
 go_wp2_with fail
 refine HN.out.mono ?_
 rintro e w1 ⟨r,rfl,hR,hrw,hb1⟩
 have HR:=Lib.hid hR
 have BR1:=BR.ext hb1
 have hbw1:=hb0.trans (Below.mono hb1 hwW)
 have hrl:r<w1.heap.size:=hR.lt
 have hW1:W.heap.size≤w1.heap.size:=hb1.size
 clear hR hb1 hb0 BR HN HB
 go_upto_region 2 with fail
 obtain ⟨W2,hW_,hb2,BY⟩:=al1 w1 209 #[.pointer (some ⟨r,0,none⟩)]
 rw [←hW_]
 clear hW_
 obtain ⟨gy,hgy⟩:∃ g,w1.heap.size=g:=⟨_,rfl⟩
 have hgyw:w1.heap.size≤gy:=by omega
 rw [hgy] at BY ⊢
 clear hgy
 have HF:=Lib.hid (rbyte_ (b8 4) (HR.out.ext hb2) (by simp only [List.length_append,le_len,HHL.out,List.length_nil];omega))
 have BR2:=BR1.ext hb2
 have hbw2:=hbw1.trans (Below.mono hb2 hbw1.size)
 have q:=BY.cell 0
 clear hb2 BR1 hbw1 HR
 go_wp2_with fail
 refine HF.out.mono ?_
 rintro e w3 ⟨rfl,hR3,hg3⟩
 rw [show ((b8 4).toNat:Int)=4 from rfl]
 have BY3:=BY.grown hg3 (by intro e;injection e with e;omega)
 have BR3:=BR2.grown hg3 (by intro e;injection e with e;omega)
 have hbw3:=hbw2.grown hg3 hbw2.size (fun k hk=>by injection hk with hk;omega)
 have HR3:=Lib.hid hR3
 have hy3:gy<w3.heap.size:=BY3.lt
 clear q HF hR3 hg3 BY BR2 hbw2
 have hrl0:=recC_len false 4 sch0 ⟨#[]⟩ tr0 0 h0 rfl tr0_len h0_len
 have hro0:=recC_one false 4 sch0 ⟨#[]⟩ tr0 0 h0 sch0_one tr0_one
 have hrs0:=recC_size false 4 sch0 ⟨#[]⟩ tr0 0 h0 rfl tr0_len h0_len
 obtain ⟨Wq,hWq⟩:∃ W',W'=w3.alloc (.cells (recC false 0 sch0 ⟨#[]⟩ tr0 0 h0).toArray 129):=⟨_,rfl⟩
 have hbq:Below w3.heap.size w3 Wq:=by rw [hWq];exact (Below.refl _ _).alloc (Nat.le_refl _) _
 have BQ0:Blk Wq w3.heap.size 129 (recC false 0 sch0 ⟨#[]⟩ tr0 0 h0).toArray:=by rw [hWq];exact Blk.new _ _ _
 have hthq:=Blk.there (o:=0) (n:=108) BQ0 (by rw [recC_len _ _ _ _ _ _ _ rfl tr0_len h0_len];omega)
 obtain ⟨BQ,hgq⟩:=Blk.lay (recC false 4 sch0 ⟨#[]⟩ tr0 0 h0) 0 BQ0 (by rw [hrl0,recC_len _ _ _ _ _ _ _ rfl tr0_len h0_len];omega)
 rw [laid_all _ _ (by rw [hrl0,recC_len _ _ _ _ _ _ _ rfl tr0_len h0_len])] at BQ
 have hbq5:=hbq.grown hgq hbq.size (fun k hk=>by injection hk with hk;omega)
 have HWq:=Lib.hid hWq
 clear hWq
 go_upto_region 3 with (first|((with_reducible show wpList _ _ _ (Oper.mk (some 13) _ _ _ _ _::_) _ _);(refine wpList_buildP rfl 129 _ rfl (built_rec 4) rfl ?_))|((with_reducible show wpList _ _ _ (Oper.mk none (Op.store _ (Operand.tmp 4) _) _ _ _ _::_) _ _);(rw [←HWq.out]);(refine wpList_store_mid rfl 129 _ _ rfl w3.heap.size 0 (recC false 4 sch0 ⟨#[]⟩ tr0 0 h0).toArray rfl rfl ?h1 ?h2 (all_oneCell_toArray hro0) ?_)))
 case h1=>exact (show (recC false 4 sch0 ⟨#[]⟩ tr0 0 h0).toArray.size=108 by simp [hrl0]) ▸ hthq
 case h2=>exact (show (recC false 4 sch0 ⟨#[]⟩ tr0 0 h0).toArray.size=(recC false 4 sch0 ⟨#[]⟩ tr0 0 h0).length by simp) ▸ hrs0
 obtain ⟨g4,hg4⟩:∃ g,w3.heap.size=g:=⟨_,rfl⟩
 have hg4w:w1.heap.size≤g4:=by have:=hbw3.size;omega
 have hy4:gy<g4:=by omega
 have BY4:=BY3.ext hbq5
 have BR4:=BR3.ext hbq5
 have HR4:=Lib.hid (HR3.out.ext hbq5)
 have hbw4:=hbw3.trans (Below.mono hbq5 hbw3.size)
 rw [hg4] at BQ BY4 BR4 HR4 hbw4 ⊢
 clear hthq hgq hbq BQ0 hrs0 hbq5 hg4 hro0 hrl0 hbw3 BY3 BR3 HR3 hy3 hz
 generalize Wq.setCells g4 0 (recC false 4 sch0 ⟨#[]⟩ tr0 0 h0)=w4 at *
 clear HWq
 have q1:w4.cell? ⟨g4,1,none⟩=some (.int .i64 4):=BQ.cell 1
 go_upto_region 14 with fail
 clear q1
 have D:=fun w' (hS:Blk w' gy 209 #[.pointer (some ⟨r,0,none⟩)])=>show w'.cell? ⟨gy,0,none⟩=some (.pointer (some ⟨r,0,none⟩)) from hS.cell 0
 refine wp_region_oneS (S:=fun w'=>Blk w' gy 209 #[.pointer (some ⟨r,0,none⟩)]) [(0,true),(1,true),(3,true),(2,false),(5,true),(4,false),(6,false),(7,true),(8,false)] (by kernel_rfl) (by kernel_rfl) (by kernel_rfl) (by decide) (Blk.drew BY4) ?_
 repeat ((with_reducible refine pG ?_);(first|refine pT ?_|refine pF ?_);try go_frame)
 have hd0:=(Below.refl w4.heap.size w4).drew
 have HF:=Lib.hid (rint_ m (HR4.out.ext hd0) hm (by simp only [List.length_append,HHL.out,List.length_nil];omega))
 refine pD fun K hK=>?_;go_simp
 refine HF.out.mono ?_
 rintro e w5 ⟨rfl,hR5,hg5⟩
 have BQ5:=(Blk.drew BQ).grown hg5 (by intro e;injection e with e;omega)
 have BY5:=(Blk.drew BY4).grown hg5 (by intro e;injection e with e;omega)
 have BR5:=(Blk.drew BR4).grown hg5 (by intro e;injection e with e;omega)
 have hbw5:=(hbw4.drew).grown hg5 hbw4.size (fun k hk=>by injection hk with hk;omega)
 refine hK.out _ _ BY5 ?_
 clear hK K HF hg5 hd0 BQ BY4 BR4 hbw4 HR4
 repeat ((with_reducible refine pG ?_);(first|refine pT ?_|refine pF ?_);try go_frame)
 have HF:=Lib.hid (vhash_ hR5 HHL.out (by simp))
 refine pD fun K hK=>?_;go_simp
 refine HF.out.mono ?_
 rintro e w6 ⟨rfl,hR6,hg6⟩
 have BQ6:=BQ5.grown hg6 (by intro e;injection e with e;omega)
 have BY6:=BY5.grown hg6 (by intro e;injection e with e;omega)
 have BR6:=BR5.grown hg6 (by intro e;injection e with e;omega)
 have hbw6:=hbw5.grown hg6 hbw5.size (fun k hk=>by injection hk with hk;omega)
 have HR6:=Lib.hid hR6
 refine hK.out _ _ BY6 ?_
 clear hK K HF hg6 hR5 hR6 BQ5 BY5 BR5 hbw5 D
 have p:w6.cell? ⟨g4,75,none⟩=some (.int .i64 0):=(BQ6.cell 75).trans (recC_atn _ _ _ _ _ _ _ rfl tr0_len)
 have f:=BQ6.frozen 75
 have BQ8:=BQ6.set_ 75 (.int .i64 (m:Int))
 rw [recC_n _ _ _ _ _ _ _ _ rfl tr0_len] at BQ8
 have hg8:=set_grown w6 g4 75 (.int .i64 (m:Int))
 have hk8:Keep (fun b=>b≠g4) w6 (w6.setCell ⟨g4,75,none⟩ (.int .i64 (m:Int))):=Keep.set w6 _ _ (fun h=>h rfl)
 have BY8:=Blk.keep BY6 hk8 (Nat.ne_of_lt hy4)
 have BR8:=Blk.keep BR6 hk8 (show gr≠g4 by omega)
 have HR8:=Lib.hid (HR6.out.keep (hk8.mono (fun b h=>by have:=h.2;omega)))
 have hbw8:=hbw6.grown hg8 hbw6.size (fun k hk=>by injection hk with hk;omega)
 refine pD fun K hK=>?_;go_simp
 refine hK.out _ _ BY8 ?_
 clear hK K p f hg8 hk8 BQ6 BY6 BR6 HR6 hbw6
 generalize w6.setCell ⟨g4,75,none⟩ (.int .i64 (m:Int))=w8 at *
 repeat ((with_reducible refine pG ?_);(first|refine pT ?_|refine pF ?_);try go_frame)
 have hsH:=size32 H HHL.out
 have hth:=Blk.there (o:=76) (n:=32) BQ8 (by rw [recC_len _ _ _ _ _ _ _ rfl tr0_len h0_len];omega)
 obtain ⟨BQ7,hg7⟩:=Blk.lay (cellsB H) 76 BQ8 (by rw [lenB,HHL.out,recC_len _ _ _ _ _ _ _ rfl tr0_len h0_len];omega)
 rw [recC_H _ _ _ _ _ _ _ _ rfl tr0_len (by rw [HHL.out,h0_len])] at BQ7
 have hk7:Keep (fun b=>b≠g4) w8 (w8.setCells g4 76 (cellsB H)):=Keep.grown hg7 (fun k hk h=>by injection hk with hk;exact h hk.symm)
 have BY7:=Blk.keep BY8 hk7 (Nat.ne_of_lt hy4)
 have BR7:=Blk.keep BR8 hk7 (show gr≠g4 by omega)
 have HR7:=Lib.hid (HR8.out.keep (hk7.mono (fun b h=>by have:=h.2;omega)))
 have hbw7:=hbw8.grown hg7 hbw8.size (fun k hk=>by injection hk with hk;omega)
 refine wpPerm_do rfl (wanted_free rfl) (fun K hK=>?_)
 refine wp_store_wide 32 (.tmp 54) (.tmp 52) rfl rfl g4 76 (cellsB H) rfl rfl (by rw [lenB,HHL.out];exact hth) hsH (oneB _) ?_
 refine hK.out _ _ BY7 (wpPerm_done ?_)
 clear hK K hth hg7 hk7 hsH BQ8 BY8 BR8 HR8 hbw8
 generalize w8.setCells g4 76 (cellsB H)=w10 at *
 have HF:=Lib.hid (rend_ HR7.out)
 have q:=BY7.cell 0
 have p0:w10.cell? ⟨g4,0,none⟩=some (.bool false):=BQ7.cell 0
 have f0:=BQ7.frozen 0
 go_wp2_with fail
 refine HF.out.mono ?_
 rintro e w' ⟨rfl,rfl⟩
 have BQ8:=BQ7.set_ 0 (.bool false)
 rw [recC_bad] at BQ8
 have hg8:=set_grown w10 g4 0 (.bool false)
 have hk8:Keep (fun b=>b≠g4) w10 (w10.setCell ⟨g4,0,none⟩ (.bool false)):=Keep.set w10 _ _ (fun h=>h rfl)
 have BR8:=Blk.keep BR7 hk8 (show gr≠g4 by omega)
 have hbw8:=hbw7.grown hg8 hbw7.size (fun k hk=>by injection hk with hk;omega)
 clear HF hg8 hk8 BQ7 BR7 hbw7 BY7 HR7
 have hrl:=recC_len false 4 (sch0) ⟨#[]⟩ (tr0) ((m:Int)) (H) rfl tr0_len HHL.out
 have hro:=recC_one false 4 (sch0) ⟨#[]⟩ (tr0) ((m:Int)) (H) sch0_one tr0_one
 have hrs:=recC_size false 4 (sch0) ⟨#[]⟩ (tr0) ((m:Int)) (H) rfl tr0_len HHL.out
 obtain ⟨rc,hrc⟩:∃ x,x=recC false 4 (sch0) ⟨#[]⟩ (tr0) ((m:Int)) (H):=⟨_,rfl⟩
 have HRC:=Lib.hid hrc
 rw [←hrc] at hrl hro hrs BQ8
 clear hrc
 go_upto_region 16 with fail
 clear q p0 f0
 generalize w10.setCell ⟨g4,0,none⟩ (.bool false)=w8 at *
 have hth:=Blk.there (o:=0) (n:=108) BR8 (by rw [recC_len _ _ _ _ _ _ _ rfl tr0_len h0_len];omega)
 obtain ⟨B9,hg9⟩:=Blk.lay rc 0 BR8 (by rw [hrl,recC_len _ _ _ _ _ _ _ rfl tr0_len h0_len];omega)
 rw [laid_all _ _ (by rw [hrl,recC_len _ _ _ _ _ _ _ rfl tr0_len h0_len])] at B9
 have hk9:Keep (fun b=>b≠gr) w8 (w8.setCells gr 0 rc):=Keep.grown hg9 (fun k hk h=>by injection hk with hk;exact h hk.symm)
 have hbw9:=hbw8.grown hg9 hbw8.size (fun k hk=>by injection hk with hk;omega)
 clear hk9 hg9 hbw8 BR8
 go_wp2_with (first|((with_reducible show wpList _ _ _ (Oper.mk (some 60) _ _ _ _ _::_) _ _);(refine wpList_load_mid rfl 129 _ rfl g4 0 rfl rc _ (Blk.whole BQ8) Tryz.underlying129 rfl hrs ?_))|((with_reducible show wpList _ _ _ (Oper.mk none (Op.store _ (Operand.tmp 2) _) _ _ _ _::_) _ _);(refine wpList_store_mid rfl 129 _ _ rfl gr 0 rc.toArray rfl rfl ?h3 ?h4 (all_oneCell_toArray hro) ?_)))
 case h3=>exact (show rc.toArray.size=108 by simp [hrl]) ▸ hth
 case h4=>exact (show rc.toArray.size=rc.length by simp) ▸ hrs
 clear hth
 generalize w8.setCells gr 0 rc=w9 at *
 go_wp2
 exact bodyPost_ret (v:=.agg rc.toArray) (results_cell_row rfl _ _ gr _ _ (0,0) _ rfl B9 Tryz.underlying129 rfl (by rw [List.size_toArray];exact hrs)) rfl ⟨by rw [HRC.out],hbw9⟩
def FG (gf gm:Nat):Blocks:=fun b=>b≠gf∧b≠gm
def fndC (A1 A2 A3 A4:Option Addr) (n1 c1 n2 c2 n3 c3 n4 c4:Nat) (nx:Int) (O:Option Addr) (m c:Nat) (B:Option Addr) (k d gm:Nat):Array Value:=#[.int .u32 0,.int .i32 0,.int .u32 0,.slice none 0 0,.slice A1 n1 c1,.slice A2 n2 c2,.slice A3 n3 c3,.slice A4 n4 c4,.int .i64 nx,.slice O m c,.slice B k d,.map (some gm)]
structure Fnd (w:World) (gf gm:Nat) (D:Blocks) (x:DBd) (nx:Int) (op:List (List UInt8)) (bl:List BlkD) (M:List (Int × Value)):Prop where
 st:∃ (A1 A2 A3 A4:Option Addr) (n1 c1 n2 c2 n3 c3 n4 c4:Nat) (O:Option Addr) (m c:Nat) (B:Option Addr) (k d:Nat),Blk w gf 117 (fndC A1 A2 A3 A4 n1 c1 n2 c2 n3 c3 n4 c4 nx O m c B k d gm)∧eDB.rel w (fun b=>D b∧FG gf gm b) [.slice A1 n1 c1,.slice A2 n2 c2,.slice A3 n3 c3,.slice A4 n4 c4] x∧Sl eHash w (FG gf gm) O m c op∧Sl eBlk w (FG gf gm) B k d bl
 mp:MapI w gm M
 ne:gf≠gm
 nl:(op=[]→w.cell? ⟨gf,9,none⟩=some (.slice none 0 0))∧(bl=[]→w.cell? ⟨gf,10,none⟩=some (.slice none 0 0))
theorem Fnd.ext {w w':World} {gf gm:Nat} {D:Blocks} {x:DBd} {nx:Int} {op:List (List UInt8)} {bl:List BlkD} {M:List (Int × Value)} (h:Fnd w gf gm D x nx op bl M) (hb:Below w.heap.size w w'):Fnd w' gf gm D x nx op bl M:=by
 obtain ⟨A1,A2,A3,A4,n1,c1,n2,c2,n3,c3,n4,c4,O,m,c,B,k,d,h1,h2,h3,h4⟩:=h.st
 exact ⟨⟨A1,A2,A3,A4,n1,c1,n2,c2,n3,c3,n4,c4,O,m,c,B,k,d,h1.ext hb,eDB.ext h2 hb,h3.ext hb,h4.ext hb⟩,h.mp.ext hb,h.ne,fun e=>(hb.cell (p:=⟨gf,9,none⟩) h1.lt).trans (h.nl.1 e),fun e=>(hb.cell (p:=⟨gf,10,none⟩) h1.lt).trans (h.nl.2 e)⟩
theorem Fnd.lt {w:World} {gf gm:Nat} {D:Blocks} {x:DBd} {nx:Int} {op:List (List UInt8)} {bl:List BlkD} {M:List (Int × Value)} (h:Fnd w gf gm D x nx op bl M):gf<w.heap.size∧gm<w.heap.size:=by
 obtain ⟨_,_,_,_,_,_,_,_,_,_,_,_,_,_,_,_,_,_,h1,_⟩:=h.st
 exact ⟨h1.lt,h.mp.lt⟩
theorem vmust_ {w:World} {f:Value} (a b c d:Int):Calls Tryz.prog 26 #[f,.bool true,.agg #[.int .i64 a,.int .i64 b,.int .i64 c,.int .i64 d]] w fun e w'=>e=.returned (.tuple #[])∧Below w.heap.size w w':=by
 go_enter Tryz.func26,Tryz.ntmps26
 go_wp2
 go_end0
 exact ⟨rfl,(Below.refl _ _).alloc (Nat.le_refl _) _⟩
def dbX:DBd:=([(schX,[])],[],[],[])
theorem okdb0:okDB db0:=by
 refine ⟨by simp [db0],fun t ht=>?_,by simp [db0],fun k hk=>?_,by simp [db0],by simp [db0]⟩
 ·simp [db0] at ht
 ·simp [db0] at hk
theorem vat1_ {w:World} {gk:Nat} {a b c d:Value} (hkl:gk<w.heap.size) (hk:w.cell? ⟨gk,0,none⟩=some (.string ⟨#[120]⟩)):Calls Tryz.prog 200 #[.agg #[.string ⟨#[120]⟩,a,b,c,d],.pointer (some ⟨gk,0,none⟩)] w fun e w'=>e=.returned (.bool true)∧Below w.heap.size w w':=by
 have hb:(ByteArray.toList ⟨#[120]⟩ == ByteArray.toList ⟨#[120]⟩)=true:=by simp
 go_enter Tryz.func200,Tryz.ntmps200
 go_upto_region 1 with fail
 obtain ⟨W,hW_,hb1,B1⟩:=al1 w 153 #[.string ⟨#[120]⟩,a,b,c,d]
 rw [←hW_]
 clear hW_
 have q:=(hb1.cell (p:=⟨gk,0,none⟩) hkl).trans hk
 have q1:=B1.cell 0
 go_wp2
 go_ret
 exact ⟨rfl,hb1⟩
theorem vidx_ {w:World} {F:Blocks} {gk c:Nat} {A:Option Addr} {rows:List RowD} (h:Sl eTab w F A 1 c [(schX,rows)]) (hkl:gk<w.heap.size) (hk:w.cell? ⟨gk,0,none⟩=some (.string ⟨#[120]⟩)) :
  Calls Tryz.prog 199 #[.slice A 1 c,.func (.func 200) #[] #[.pointer (some ⟨gk,0,none⟩)]] w fun e w'=>e=.returned (.int .i64 0)∧Below w.heap.size w w':=by
 obtain ⟨b,off,rfl,_,_,hbl⟩:=h.some_ (by omega)
 obtain ⟨cs0,hcs0,hcell0⟩:=h.at_ (show [(schX,rows)][0]? = some (schX,rows) from rfl)
 obtain ⟨A1,n1,c1,A2,n2,c2,rfl,_,_⟩:=eTab_inv hcs0
 simp only [show eTab.k=5 from rfl,Nat.zero_mul,Nat.add_zero] at hcell0
 have p0:=hcell0 0 _ rfl
 have p1:=hcell0 1 _ rfl
 have p2:=hcell0 2 _ rfl
 have p3:=hcell0 3 _ rfl
 have p4:=hcell0 4 _ rfl
 simp only [Nat.add_zero] at p0
 simp only [schX_eq] at p0 p2 p3
 have hent:=enters_of (P:=Tryz.prog) Tryz.func200 (by kernel_rfl) rfl
 have HK:=Lib.hid hk
 clear h hcs0 hcell0 hk
 go_enter Tryz.func199,Tryz.ntmps199
 go_wp2_with fail
 refine wp_loop_rounds 2 ?_
 rw [rounds_succ]
 go_wp2_with fail
 have HF:=fun a b c d=>vat1_ (a:=a) (b:=b) (c:=c) (d:=d) hkl HK.out
 refine (HF _ _ _ _).mono ?_
 rintro e w2 ⟨rfl,hb2⟩
 clear HF p0 p1 p2 p3 p4
 go_wp2
 go_ret
 exact ⟨rfl,hb2⟩
theorem vat_ {w:World} {F:Blocks} {gf c:Nat} {A:Option Addr} {rows:List RowD} (hg:w.cell? ⟨gf,4,none⟩=some (.slice A 1 c)) (hgl:gf<w.heap.size) (h:Sl eTab w F A 1 c [(schX,rows)]) :
  Calls Tryz.prog 158 #[.pointer (some ⟨gf,0,none⟩),.string ⟨#[120]⟩] w fun e w'=>e=.returned (.int .i64 0)∧Below w.heap.size w w':=by
 have HS:=Lib.hid h
 clear h
 go_enter Tryz.func158,Tryz.ntmps158
 go_upto_region 1 with fail
 obtain ⟨W,hW_,hb1,BK⟩:=al1 w 9 #[.string ⟨#[120]⟩]
 rw [←hW_]
 clear hW_
 obtain ⟨gk,hgk⟩:∃ g,w.heap.size=g:=⟨_,rfl⟩
 rw [hgk] at BK ⊢
 clear hgk
 have q:=(hb1.cell (p:=⟨gf,4,none⟩) hgl).trans hg
 have HF:=Lib.hid (vidx_ (HS.out.ext hb1) BK.lt (BK.cell 0))
 go_wp2_with fail
 refine HF.out.mono ?_
 rintro e w2 ⟨rfl,hb2⟩
 have hbw:=hb1.trans (Below.mono hb2 hb1.size)
 clear HF q hb1 hb2 BK
 go_wp2
 go_ret
 exact ⟨rfl,hbw⟩
def DBEO (x:DBd) (er:Int) (w:World) (e:Ending) (w':World):Prop:=∃ cs:List Value,e=.returned (.tuple #[.agg cs.toArray,.int .i64 er])∧eDB.rel w' (fun b=>w.heap.size≤b) cs x∧(∃ A c rest,cs=.slice A x.1.length c::rest∧OwnE eTab 153 w' w.heap.size (fun b=>w.heap.size≤b) A x.1.length c x.1)∧Below w.heap.size w w'
theorem OwnDB.tab {x:DBd} {w w':World} {e:Ending} (h:OwnDB x w e w'):∀ cz:List Value,e=.returned (.agg cz.toArray)→∃ A c rest,cz=.slice A x.1.length c::rest∧OwnE eTab 153 w' w.heap.size (fun b=>w.heap.size≤b) A x.1.length c x.1:=by
 obtain ⟨A,c,A2,c2,A3,c3,A4,c4,h1,⟨h2,h3,h4,h5,_⟩,h6⟩:=h
 intro cz e1
 rw [h1] at e1
 injection e1 with e1
 injection e1 with e1
 have e2:=congrArg Array.toList e1
 simp only at e2
 exact ⟨A,c,_,e2.symm,h2.mono (fun b h=>h.1)⟩
theorem createO_ {w:World} {F FS:Blocks} {cs:List Value} {x:DBd} {A:Option Addr} {c:Nat} {nm:List UInt8} {cols:List pg.Cl} {key:Nat} {only:Bool} (h:eDB.rel w F cs x) (hok:okDB x) (hS:Sl eCol w FS A cols.length c (cols.map colOf)) (hG:GoodS nm cols key)
  (hm:Mono (cmpT ⟨nm.toArray⟩) x.1) (hfree:isG (cmpT ⟨nm.toArray⟩) x.1=false) (hlen:x.1.length<8) (hwk:x.2.1.length=0) :
  Calls Tryz.prog 37 #[.agg cs.toArray,.agg #[.string ⟨nm.toArray⟩,.slice A cols.length c,.int .i64 key,.bool only]] w (DBEO (x.1.take (posG (cmpT ⟨nm.toArray⟩) x.1)++(schOf nm cols key only,[])::x.1.drop (posG (cmpT ⟨nm.toArray⟩) x.1),x.2) 0 w):=by
 have HS:=Lib.hid h
 have HSC:=Lib.hid hS
 have HG:=Lib.hid hG
 have HOK:=Lib.hid hok
 have HM:=Lib.hid hm
 have HFR:=Lib.hid hfree
 obtain ⟨p,hp⟩:∃ p,posG (cmpT ⟨nm.toArray⟩) x.1=p:=⟨_,rfl⟩
 have hpl:p≤x.1.length:=by rw [←hp];exact posG_le _ _
 rw [hp]
 have HP:=Lib.hid hp
 obtain ⟨nc,hnc⟩:∃ n,cols.length=n:=⟨_,rfl⟩
 have HNC:=Lib.hid hnc
 rw [hnc]
 obtain ⟨s,hs⟩:∃ s:ByteArray,s=⟨nm.toArray⟩:=⟨_,rfl⟩
 have HSS:=Lib.hid hs
 rw [←hs]
 obtain ⟨nt,hnt⟩:∃ n,x.1.length=n:=⟨_,rfl⟩
 have HNT:=Lib.hid hnt
 obtain ⟨A1,n1,c1,A2,n2,c2,A3,n3,c3,A4,n4,c4,rfl,h1,h2,h3,h4⟩:=eDB_inv h
 have e1:n1=nt:=by rw [←hnt];exact h1.len.symm
 have e2:n2=0:=by have:=h2.len;omega
 subst e1 e2
 rw [hnt] at hpl hlen
 clear h hS hG hok hm hfree hp hnc hs hnt hwk h1 h2 h3 h4
 go_enter Tryz.func37,Tryz.ntmps37
 go_upto_region 1 with fail
 obtain ⟨W,hW_,hb1,BD,BS,BR⟩:=al3 w 43 53 43 #[.slice A1 n1 c1,.slice A2 0 c2,.slice A3 n3 c3,.slice A4 n4 c4] #[.string s,.slice A nc c,.int .i64 key,.bool only] #[.slice none 0 0,.slice none 0 0,.slice none 0 0,.slice none 0 0]
 rw [←hW_]
 clear hW_
 obtain ⟨gd,hgd⟩:∃ g,w.heap.size=g:=⟨_,rfl⟩
 obtain ⟨gs,hgs⟩:∃ g,w.heap.size+1=g:=⟨_,rfl⟩
 obtain ⟨gr,hgr⟩:∃ g,w.heap.size+1+1=g:=⟨_,rfl⟩
 have HGS:=Lib.hid (show w.heap.size≤gd∧w.heap.size≤gs∧w.heap.size≤gr∧gd<gs∧gs<gr by omega)
 rw [hgr] at BR ⊢
 rw [hgs] at BS ⊢
 rw [hgd] at BD ⊢
 have HF:=Lib.hid (tbegun_ (eDB.ext HS.out hb1) HOK.out)
 have hgrW:gr<W.heap.size:=BR.lt
 have hgsW:gs<W.heap.size:=BS.lt
 have hgdW:gd<W.heap.size:=BD.lt
 have HBD:=Lib.hid BD
 have HBS:=Lib.hid BS
 have HBR:=Lib.hid BR
 have HB1:=Lib.hid hb1
 have qd:=four BD (Below.refl _ _)
 clear hgd hgs hgr BD BS BR hb1
 go_wp2_with fail
 refine HF.out.mono ?_
 rintro e w1 ⟨g,rfl,⟨A5,c5,A6,c6,A7,c7,A8,c8,hC⟩,hb2⟩
 have hgW:W.heap.size≤g:=hC.lo
 have HC:=Lib.hid hC
 have HBD1:=Lib.hid (HBD.out.ext hb2)
 have HBS1:=Lib.hid (HBS.out.ext hb2)
 have HBR1:=Lib.hid (HBR.out.ext hb2)
 have HB2:=Lib.hid (HB1.out.trans (Below.mono hb2 HB1.out.size))
 have HSC1:=Lib.hid (HSC.out.ext HB2.out)
 clear qd hC hb2 HF HBD HBS HBR HB1
 have HK:=checkG_ nm cols key only A c HG.out (w:=w1) (by have:=(cols_row HSC1.out).1;exact this)
 rw [←HSS.out,HNC.out] at HK
 have HK:=Lib.hid HK
 have qs:=four HBS1.out (Below.refl _ _)
 go_wp2_with fail
 refine HK.out.mono ?_
 rintro e w2 ⟨rfl,hb3⟩
 have HC2:=Lib.hid (HC.out.ext hb3)
 have HBD2:=Lib.hid (HBD1.out.ext hb3)
 have HBS2:=Lib.hid (HBS1.out.ext hb3)
 have HBR2:=Lib.hid (HBR1.out.ext hb3)
 have HB3:=Lib.hid (HB2.out.trans (Below.mono hb3 HB2.out.size))
 clear qs hb3 HK HC HBD1 HBS1 HBR1 HB2 HSC1
 go_wp2_with fail
 refine fail_ok.mono ?_
 rintro e w3 ⟨rfl,hb4⟩
 have HC3:=Lib.hid (HC2.out.ext hb4)
 have HBD3:=Lib.hid (HBD2.out.ext hb4)
 have HBS3:=Lib.hid (HBS2.out.ext hb4)
 have HBR3:=Lib.hid (HBR2.out.ext hb4)
 have HB4:=Lib.hid (HB3.out.trans (Below.mono hb4 HB3.out.size))
 clear hb4 HC2 HBD2 HBS2 HBR2 HB3
 have HT:=table_ HC3.out ⟨nm.toArray⟩ HOK.out.1 HM.out
 rw [HFR.out,HP.out,←HSS.out] at HT
 have HT:=Lib.hid HT
 have qs:=four HBS3.out (Below.refl _ _)
 go_wp2_with fail
 refine HT.out.mono ?_
 rintro e w4 ⟨rfl,hb5⟩
 have HC4:=Lib.hid (HC3.out.ext hb5)
 have HBD4:=Lib.hid (HBD3.out.ext hb5)
 have HBS4:=Lib.hid (HBS3.out.ext hb5)
 have HBR4:=Lib.hid (HBR3.out.ext hb5)
 have HB5:=Lib.hid (HB4.out.trans (Below.mono hb5 HB4.out.size))
 clear hb5 HC3 HBD3 HBS3 HBR3 HB4 qs HT
 have qs:=four HBS4.out (Below.refl _ _)
 have qd:=four HBD4.out (Below.refl _ _)
 have q7:=HC4.out.blk.cell 7
 have d1:decide ((8:Int)≤(n1:Int))=false:=by simp;omega
 go_upto_region 12 with fail
 clear qs qd q7 d1
 have BG4:=HC4.out.blk
 rw [HNT.out] at BG4
 have D:=fun w' (hS:Blk w' g 150 #[.slice A5 n1 c5,.slice A6 x.2.1.length c6,.slice A7 x.2.2.1.length c7,.slice A8 x.2.2.2.length c8,.int .u32 0,.int .i32 0,.int .u32 0,.int .i64 0]∧Blk w' gs 53 #[.string s,.slice A nc c,.int .i64 key,.bool only])=>(And.intro (hS.1.cell 0) (four hS.2 (Below.refl _ _)))
 have HSB:=Lib.hid (show ∀ w',Below w4.heap.size w4 w'→(Blk w' g 150 #[.slice A5 n1 c5,.slice A6 x.2.1.length c6,.slice A7 x.2.2.1.length c7,.slice A8 x.2.2.2.length c8,.int .u32 0,.int .i32 0,.int .u32 0,.int .i64 0]∧Blk w' gs 53 #[.string s,.slice A nc c,.int .i64 key,.bool only]) from fun w' h=>⟨BG4.ext h,HBS4.out.ext h⟩)
 clear BG4
 refine wp_region_tail (S:=fun w'=>Blk w' g 150 #[.slice A5 n1 c5,.slice A6 x.2.1.length c6,.slice A7 x.2.2.1.length c7,.slice A8 x.2.2.2.length c8,.int .u32 0,.int .i32 0,.int .u32 0,.int .i64 0]∧Blk w' gs 53 #[.string s,.slice A nc c,.int .i64 key,.bool only]) [(0,true),(1,true),(2,true),(3,true),(4,true),(5,true),(6,true),(7,true),(8,true),(9,false),(10,false),(11,false)] [(12,true),(13,true),(14,true),(15,false)] (by kernel_rfl) (by kernel_rfl) (HSB.out _ (Below.refl _ _).drew) ?_
 repeat ((with_reducible refine pG ?_);(first|refine pT ?_|refine pF ?_);try go_frame)
 clear D
 have HSW:=Lib.hid (show eTab.rel w4.drew FS [.string s,.slice A nc c,.int .i64 key,.bool only,.slice none 0 0] (schOf nm cols key only,[]) from by
  have h:=HSC.out.ext (HB5.out.drew)
  rw [HNC.out] at h
  rw [HSS.out]
  exact eTab_mk (x:=(schOf nm cols key only,[])) h (Sl.nil _ _) (.inl rfl))
 have HOT:=Lib.hid (townTable_ HSW.out (show okTab (schOf nm cols key only,[]) from ⟨by simp [schOf];have:=HG.out.c6;omega,by simp,by simp⟩))
 refine pD fun K hK=>?_;go_simp
 refine HOT.out.mono ?_
 rintro e w5 ⟨ct,rfl,hrt,hb6⟩
 have HRT:=Lib.hid hrt
 refine hK.out _ _ (HSB.out _ ((Below.refl _ _).drew.trans hb6)) ?_
 clear hK K HOT HSW hrt
 have hctl:ct.length=5:=eTab.len HRT.out
 have hcto:=eTab.one HRT.out
 obtain ⟨i0,hi0,hy0,hy1,hy2⟩:=info_parts (P:=Tryz.prog) (e:=153) (z:=.agg #[.string ⟨#[]⟩,.slice none 0 0,.int .i64 0,.bool false,.slice none 0 0]) (size:=5) (bytes:=80) (by kernel_rfl)
 have hd45:Below w4.heap.size w4 w5:=(Below.refl _ _).drew.trans hb6
 refine wpPerm_do rfl (wanted_free rfl) (fun K hK=>?_)
 refine wp_slice1d 61 37 153 (.tmp 60) rfl rfl ct rfl i0 _ Tryz.underlying37 hi0 hy0 (by rw [hy1,hctl]) (by rw [hctl];omega) (by rw [hctl];omega) ?_
 have hb7:Below w5.heap.size w5 (w5.alloc (.cells ct.toArray 153)):=(Below.refl _ _).alloc (Nat.le_refl _) _
 refine hK.out _ _ (HSB.out _ (hd45.trans (Below.mono hb7 hd45.size))) ?_
 clear hK K
 have BV:Blk (w5.alloc (.cells ct.toArray 153)) w5.heap.size 153 ct.toArray:=Blk.new _ _ _
 have hd6:=hd45.trans (Below.mono hb7 hd45.size)
 have hs45:=hd45.size
 generalize w5.alloc (.cells ct.toArray 153)=w6 at *
 have HC6:=Lib.hid (HC4.out.ext hd6)
 have HBR6:=Lib.hid (HBR4.out.ext hd6)
 have HB6:=Lib.hid (HB5.out.trans (Below.mono hd6 HB5.out.size))
 have HRT6:=Lib.hid (eTab.ext HRT.out hb7)
 have hg4:g<w4.heap.size:=HC4.out.blk.lt
 have lA:∀ b,A5=some ⟨b,0,none⟩→b<w4.heap.size:=fun b h=>(HC4.out.tab.lt h).2
 have lA2:∀ b,A6=some ⟨b,0,none⟩→b<w4.heap.size:=fun b h=>(HC4.out.wrk.lt h).2
 have hB4:W.heap.size≤w4.heap.size:=Nat.le_of_lt (Nat.lt_of_le_of_lt hgW hg4)
 have hsd:w4.drew.heap.size=w4.heap.size:=rfl
 have HI:=insT (i:=p) (gv:=w5.heap.size) (t:=(schOf nm cols key only,[])) (cs:=ct) HC6.out.tab (eTab.mono HRT6.out (fun b h=>⟨by omega,by omega,fun e=>by have:=lA b e;omega,fun e=>by have:=lA2 b e;omega⟩)) BV (fun b e=>⟨by have:=lA b e;omega,fun hf=>hf.2.2.1 e⟩) (by rw [HNT.out];exact hpl) (by rw [HNT.out];omega) (Nat.le_trans hB4 (Nat.le_trans hs45 (Nat.le_of_lt BV.lt)))
 rw [HNT.out] at HI
 have HI:=Lib.hid HI
 have HD46:=Lib.hid hd6
 clear HRT HRT6 BV hb6 hb7 hd45 hd6
 refine pD fun K hK=>?_;go_simp
 refine HI.out.mono ?_
 rintro e w7 ⟨A',c',rfl,ho,hg⟩
 have HO:=Lib.hid ho
 have hkA:Keep (fun b=>A5≠some ⟨b,0,none⟩) w6 w7:=Keep.grown hg (fun g' h1 h2=>h2 (HC6.out.tab.row (by rw [HNT.out];exact h1)))
 have hBg:∀ b,(Value.slice A5 n1 c5).ownBlock=some b→W.heap.size≤b:=fun b h=>(HC6.out.tab.lt (HC6.out.tab.row (by rw [HNT.out];exact h))).1
 have hgne:A5≠some ⟨g,0,none⟩:=fun e=>(HC6.out.ne g e).2 rfl
 have hWw:w.heap.size≤W.heap.size:=by have:=HGS.out.2.2.1;omega
 have hbw7:Below w.heap.size w w7:=HB6.out.grown hg HB6.out.size (fun k hk=>Nat.le_trans hWw (hBg k hk))
 have BG7:=Blk.keep HC6.out.blk hkA hgne
 have BR7:=Blk.keep HBR6.out hkA (fun e=>by have:=(HC6.out.tab.lt e).1;omega)
 refine hK.out _ _ ⟨Blk.keep (HSB.out w6 HD46.out).1 hkA hgne,Blk.keep (HSB.out w6 HD46.out).2 hkA (fun e=>by have:=(HC6.out.tab.lt e).1;omega)⟩ (wpTail_done ?_)
 clear hK K hg ho HI HSB
 repeat ((with_reducible refine pG ?_);(first|refine pT ?_|refine pF ?_);try go_frame)
 have f0:=BG7.frozen 0
 have q0:=BG7.cell 0
 refine pD fun K hK=>?_;go_simp
 refine hK.out _ _ trivial (wpPerm_done ?_)
 clear hK K f0 q0
 have hg8:=set_grown w7 g 0 (.slice A' (n1+1) c')
 have hkT:=KeepT.blk hg8 BG7
 have hk8:Keep (fun b=>b≠g) w7 (w7.setCell ⟨g,0,none⟩ (.slice A' (n1+1) c')):=Keep.grown hg8 (fun g' h1 h2=>by injection h1 with h1;exact h2 h1.symm)
 have BG8:=BG7.set_ 0 (.slice A' (n1+1) c')
 have BR8:=Blk.keep BR7 hk8 (by omega)
 have hbw8:=hbw7.grown hg8 hbw7.size (fun k hk=>by injection hk with hk;omega)
 have HT8:=Lib.hid (HO.out.keepX hkT (by decide) (hk8.mono (fun b h=>h.2.1)))
 have HW8:=Lib.hid ((HC6.out.wrk.keep hkA (fun b h h'=>(HC6.out.ne b h').1 h) (fun b h=>h.2.2.1)).keep hk8 (HC6.out.ne2) (fun b h=>h.2.1))
 have HH8:=Lib.hid ((HC6.out.hld.keep (hkA.mono (fun b h=>h.2.2.1))).keep (hk8.mono (fun b h=>h.2.1)))
 have HQ8:=Lib.hid ((HC6.out.wai.keep (hkA.mono (fun b h=>h.2.2.1))).keep (hk8.mono (fun b h=>h.2.1)))
 have hgl8:=BR8.lt
 generalize w7.setCell ⟨g,0,none⟩ (.slice A' (n1+1) c')=w8 at *
 have hxl:(x.1.take p++(schOf nm cols key only,[])::x.1.drop p).length=n1+1:=by simp [HNT.out];omega
 have HDB:=Lib.hid (show eDB.rel w8 (fun _=>True) [.slice A' (n1+1) c',.slice A6 x.2.1.length c6,.slice A7 x.2.2.1.length c7,.slice A8 x.2.2.2.length c8] (x.1.take p++(schOf nm cols key only,[])::x.1.drop p,x.2) from
  eDB_mk (x:=(x.1.take p++(schOf nm cols key only,[])::x.1.drop p,x.2)) (HT8.out.sl (fun _ _ _=>trivial) (fun _ _=>trivial)) (HW8.out.loose.sl (fun _ _ _=>trivial) (fun _ _=>trivial)) (HH8.out.sl.mono (fun _ _=>trivial)) (HQ8.out.sl.mono (fun _ _=>trivial)))
 have HOK':=Lib.hid (show okDB (x.1.take p++(schOf nm cols key only,[])::x.1.drop p,x.2) from ⟨by rw [hxl];omega,fun t ht=>by
   rcases List.mem_append.1 ht with ht|ht
   ·exact HOK.out.2.1 t (List.mem_of_mem_take ht)
   ·rcases List.mem_cons.1 ht with rfl|ht
    ·exact ⟨by simp [schOf];have:=HG.out.c6;omega,by simp,by simp⟩
    ·exact HOK.out.2.1 t (List.mem_of_mem_drop ht),HOK.out.2.2⟩)
 have q:=four_ BG8
 clear HT8 HW8 HH8 HQ8 hk8 hg8 hkT hkA BG7 BR7 HO HC6 HBR6 hbw7 BG8
 go_wp2_with fail
 refine (town_ HDB.out HOK'.out).mono ?_
 rintro e9 w9 hO
 have hT:=hO.tab
 obtain ⟨cz,rfl,hr9,hb9⟩:=hO.owned
 have hT:=hT cz rfl
 clear hO
 have hczl:cz.length=4:=eDB.len hr9
 have hone:=eDB.one hr9
 have hsz9:(Tryz.prog.info? 43).map (·.size)=some cz.length:=by rw [hczl];kernel_rfl
 have BR9:=BR8.ext hb9
 have hth:=Blk.there (o:=0) (n:=4) BR9 (by simp)
 have hrl:gr<w8.heap.size:=hgl8
 have hwr:w.heap.size≤gr:=HGS.out.2.2.1
 have hbz8:=hbw8.trans (Below.mono hb9 hbw8.size)
 have hws:w.heap.size≤w8.heap.size:=hbw8.size
 obtain ⟨B9,hg9⟩:=Blk.lay cz 0 BR9 (by rw [hczl];simp)
 rw [laid_all _ _ (by rw [hczl];rfl)] at B9
 have hbw9:=hbz8.grown hg9 hbz8.size (fun k hk=>by injection hk with hk;omega)
 have HR9:=Lib.hid (eDB.mono (eDB.keep hr9 (Keep.grown hg9 (fun g hg h=>by injection hg with hg;omega))) (G:=fun b=>w.heap.size≤b) (fun b h=>Nat.le_trans hws h))
 obtain ⟨oA,oc,rest,oe1,ot⟩:=hT
 have HT9:=Lib.hid (And.intro oe1 (((ot.keep (G:=fun b=>b≠gr) (Keep.grown hg9 (fun g hg h=>by injection hg with hg;exact h hg.symm)) (fun b e=>by have:=(ot.lt e).1;omega) (fun b (h:w8.heap.size≤b)=>by omega)).base hws).mono (G:=fun b=>w.heap.size≤b) (fun b (h:w8.heap.size≤b)=>Nat.le_trans hws h)))
 clear hr9 hg9 hbz8 oe1 ot
 go_wp2_with ((with_reducible show wpList _ _ _ (Oper.mk none (Op.store _ (Operand.tmp 4) _) _ _ _ _::_) _ _);(refine wpList_store_mid rfl 43 _ _ rfl gr 0 cz.toArray rfl rfl ?zs1 ?zt1 (all_oneCell_toArray hone) ?_))
 case zs1=>exact (show cz.toArray.size=4 by simp [hczl]) ▸ hth
 case zt1=>rw [List.size_toArray];exact hsz9
 clear hth BR9
 generalize w9.setCells gr 0 cz=wz at *
 go_wp2
 refine bodyPost_ret (v:=.tuple #[.agg cz.toArray,.int .i64 0]) (results_row_tmp rfl _ _ gr _ _ (0,0) _ rfl B9 Tryz.underlying43 rfl (by rw [List.size_toArray];exact hsz9) rfl) rfl ⟨cz,rfl,HR9.out,⟨oA,oc,rest,HT9.out.1,HT9.out.2⟩,hbw9⟩
def TH (w:World) (F:Blocks) (A:Option Addr):Prop:=∃ b,A=some ⟨b,0,none⟩∧F b∧w.there b 0 5∧b<w.heap.size
theorem there_same {w w':World} {b o n:Nat} (h:w.there b o n) (hb:w'.heap[b]? = w.heap[b]?):w'.there b o n:=fun j hj=>by
 have:=h j hj
 unfold World.cell? World.frozen? at this ⊢
 simpa [hb] using this
theorem TH.keep {w w':World} {F:Blocks} {A:Option Addr} (h:TH w F A) (k:Keep F w w'):TH w' F A:=by
 obtain ⟨b,h1,h2,h3,h4⟩:=h
 exact ⟨b,h1,h2,there_same h3 (k.block b h2 h4),Nat.lt_of_lt_of_le h4 k.size⟩
theorem TH.ext {w w':World} {F:Blocks} {A:Option Addr} (h:TH w F A) (hb:Below w.heap.size w w'):TH w' F A:=h.keep (Keep.below hb)
theorem TH.mono {w:World} {F G:Blocks} {A:Option Addr} (h:TH w F A) (k:∀ b,F b→G b):TH w G A:=by
 obtain ⟨b,h1,h2,h3⟩:=h
 exact ⟨b,h1,k b h2,h3⟩
theorem TH.of_own {t:TypeId} {w:World} {B c:Nat} {F:Blocks} {A:Option Addr} {x:List Tab} (h:OwnE eTab t w B F A 1 c x):TH w (fun b=>B≤b∧b<w.heap.size) A:=by
 have h0:=h
 obtain ⟨css,h1,h2,h3⟩:=h
 obtain ⟨g,rfl,hB,hg⟩:=own_some1 h1 (by omega)
 exact ⟨g,rfl,⟨hB,hg⟩,by have:=OwnE.there h0 (i:=0) (by omega);rw [Nat.zero_mul] at this;exact this,hg⟩
theorem vmadeO_ {w:World} {gf gm:Nat} {D0:Blocks} {nx:Int} {op:List (List UInt8)} {bl:List BlkD} {M:List (Int × Value)} {FS:Blocks} {A:Option Addr} {cc:Nat} {kk:Int} (h:Fnd w gf gm D0 db0 nx op bl M) (hS:Sl eCol w FS A 1 cc [(⟨#[97]⟩,2,false)]) :
  Calls Tryz.prog 31 #[.pointer (some ⟨gf,0,none⟩),.int .i64 kk,.agg #[.string ⟨#[120]⟩,.slice A 1 cc,.int .i64 0,.bool false]] w fun e w'=>e=.returned (.tuple #[])∧Fnd w' gf gm (fun b=>w.heap.size≤b∧b<w'.heap.size) dbX nx op bl M∧Frm (fun b=>b=gf∨b=gm) w w'∧∃ A c,w'.cell? ⟨gf,4,none⟩=some (.slice A 1 c)∧TH w' (fun b=>w.heap.size≤b) A:=by
 have HH:=Lib.hid h
 have HSC:=Lib.hid hS
 have HK:=Lib.hid (fun (w':World) (F F':Blocks) (cs:List Value) (h1:eDB.rel w' F cs db0) (h2:Sl eCol w' F' A 1 cc [(⟨#[97]⟩,2,false)])=>show Calls Tryz.prog 37 #[.agg cs.toArray,.agg #[.string ⟨#[120]⟩,.slice A 1 cc,.int .i64 0,.bool false]] w' (DBEO dbX 0 w') from createO_ (nm:=nmX) (cols:=colX) (key:=0) (only:=false) h1 okdb0 h2 goodX (fun i j r r' _ hi=>by simp [db0] at hi) rfl (by simp [db0]) rfl)
 have hlt:=h.lt
 obtain ⟨X1,X2,X3,X4,i1,j1,i2,j2,i3,j3,i4,j4,O,m,c,B,k,d,BF,hd,hop,hbl⟩:=h.st
 have HD:=Lib.hid hd
 clear h hS hd hop hbl
 unfold fndC at BF
 go_enter Tryz.func31,Tryz.ntmps31
 go_upto_region 1 with fail
 obtain ⟨W,hW_,hb1,BC⟩:=al1 w 53 #[.string ⟨#[120]⟩,.slice A 1 cc,.int .i64 0,.bool false]
 rw [←hW_]
 clear hW_
 obtain ⟨gc,hgc⟩:∃ g,w.heap.size=g:=⟨_,rfl⟩
 rw [hgc] at BC ⊢
 clear hgc
 have BF1:=BF.ext hb1
 have D:∀ w',Below W.heap.size W.drew w'→(w'.cell? ⟨gf,4,none⟩=some (.slice X1 i1 j1)∧w'.cell? ⟨gf,5,none⟩=some (.slice X2 i2 j2)∧w'.cell? ⟨gf,6,none⟩=some (.slice X3 i3 j3)∧w'.cell? ⟨gf,7,none⟩=some (.slice X4 i4 j4))∧w'.cell? ⟨gc,0,none⟩=some (.string ⟨#[120]⟩)∧w'.cell? ⟨gc,1,none⟩=some (.slice A 1 cc)∧w'.cell? ⟨gc,2,none⟩=some (.int .i64 0)∧w'.cell? ⟨gc,3,none⟩=some (.bool false):=fun w' h=>by
  have b1:=BF1.ext ((Below.refl _ _).drew.trans h)
  have b2:=BC.ext ((Below.refl _ _).drew.trans h)
  exact ⟨⟨b1.cell 4,b1.cell 5,b1.cell 6,b1.cell 7⟩,b2.cell 0,b2.cell 1,b2.cell 2,b2.cell 3⟩
 clear BF
 refine wp_region_br (S:=fun w'=>Below W.heap.size W.drew w') (.seq [(0,true),(1,true),(2,true),(3,true),(4,true)] (.two 5 (.seq [(6,true),(7,true),(8,true),(9,false),(10,false),(11,true)] .fin) 9 (.seq [(5,false),(6,true),(7,true),(8,true),(10,false),(11,true)] .fin))) (by kernel_rfl) (by kernel_rfl) (Below.refl _ _) ?_
 refine wpBr_seq ?_
 repeat ((with_reducible refine pG ?_);(first|refine pT ?_|refine pF ?_);try go_frame)
 clear D
 refine wpBr_next ?_
 refine wpBr_two ?_ ?_
 ·refine pD fun K hK=>?_;go_simp
  have hwI:=hb1.drew.size
  have HF:=Lib.hid (HK.out W.drew _ _ _ (eDB.ext HD.out hb1.drew) (HSC.out.ext hb1.drew))
  refine HF.out.mono ?_
  rintro e w3 ⟨cz,rfl,hr3,⟨tA,tc,trest,te,tow⟩,hb3⟩
  have HR3:=Lib.hid (bnd_db hr3)
  have HTH3:=Lib.hid (TH.of_own tow)
  have HTE:=Lib.hid (show cz=.slice tA 1 tc::trest from te)
  clear te tow
  refine hK.out _ _ hb3 ?_
  clear hK K HF hr3
  refine wpBr_next ?_
  refine wpBr_seq ?_
  repeat ((with_reducible refine pG ?_);(first|refine pT ?_|refine pF ?_);try go_frame)
  refine pD fun K hK=>?_;go_simp
  obtain ⟨w5,hwn⟩:∃ W',W'=w3.alloc (.cells #[.slice none 0 0,.slice none 0 0,.slice none 0 0,.slice none 0 0] 43):=⟨_,rfl⟩
  have hb35:Below w3.heap.size w3 w5:=by rw [hwn];exact (Below.refl _ _).alloc (Nat.le_refl _) _
  have BD5:Blk w5 w3.heap.size 43 #[.slice none 0 0,.slice none 0 0,.slice none 0 0,.slice none 0 0]:=by rw [hwn];exact Blk.new _ _ _
  rw [←hwn]
  obtain ⟨gd,hgd⟩:∃ g,w3.heap.size=g:=⟨_,rfl⟩
  have hgd3:W.heap.size≤gd:=by have:=hb3.size;have h:W.drew.heap.size=W.heap.size:=rfl;omega
  have HR5:=Lib.hid (eDB.mono (eDB.ext HR3.out hb35) (G:=fun b=>w.heap.size≤b∧b≠gd) (fun b h=>⟨Nat.le_trans hwI h.1,by have:=h.2;omega⟩))
  have HTH5:=Lib.hid ((HTH3.out.ext hb35).mono (G:=fun b=>w.heap.size≤b∧b≠gd) (fun b h=>⟨Nat.le_trans hwI h.1,by have:=h.2;omega⟩))
  rw [hgd] at BD5 ⊢
  have hb5:Below W.heap.size W.drew w5:=hb3.trans (Below.mono hb35 hb3.size)
  refine hK.out _ _ hb5 ?_
  clear hK K hwn hb35 hb3 HR3 hgd
  have hczl:cz.length=4:=eDB.len HR5.out
  have hone:=eDB.one HR5.out
  have hszl:(Tryz.prog.info? 43).map (·.size)=some cz.length:=by rw [hczl];kernel_rfl
  have hth:=Blk.there (o:=0) (n:=4) BD5 (by simp)
  refine wpPerm_do rfl (wanted_free rfl) (fun K hK=>?_)
  refine wp_store_wide 43 (.tmp 6) (.tmp 15) rfl rfl gd 0 cz rfl rfl (by rw [hczl];exact hth) hszl hone ?_
  obtain ⟨BD6,hg6⟩:=Blk.lay cz 0 BD5 (by rw [hczl];simp)
  rw [laid_all _ _ (by rw [hczl];rfl)] at BD6
  have hb6:=hb5.grown hg6 hb5.size (fun k hk=>by injection hk with hk;omega)
  have HR6:=Lib.hid (eDB.mono (eDB.keep HR5.out (Keep.grown hg6 (fun g hg h=>by injection hg with hg;exact h.2 hg.symm))) (G:=fun b=>w.heap.size≤b) (fun b h=>h.1))
  have HTH6:=Lib.hid ((HTH5.out.keep (Keep.grown hg6 (fun g hg h=>by injection hg with hg;exact h.2 hg.symm))).mono (G:=fun b=>w.heap.size≤b) (fun b h=>h.1))
  refine hK.out _ _ hb6 ?_
  clear hK K hth hg6 BD5 hb5 HR5 hone hszl hczl
  generalize w5.setCells gd 0 cz=w6 at *
  repeat ((with_reducible refine pG ?_);(first|refine pT ?_|refine pF ?_);try go_frame)
  obtain ⟨Y1,e1,f1,Y2,e2,f2,Y3,e3,f3,Y4,e4,f4,rfl,_,_,_,_⟩:=eDB_inv HR6.out
  obtain ⟨rfl,rfl⟩:Y1=tA∧e1=1:=by
   have te:=HTE.out
   injection te with te _
   injection te with a b c
   exact ⟨a,b⟩
  clear HTE
  have BD6:Blk w6 gd 43 #[.slice Y1 1 f1,.slice Y2 e2 f2,.slice Y3 e3 f3,.slice Y4 e4 f4]:=BD6
  refine wpBr_next (wpBr_fin ?_)
  have hb16:=(Below.refl W.heap.size W).drew.trans hb6
  have HH6:=Lib.hid (HH.out.ext (hb1.trans (Below.mono hb16 hb1.size)))
  have hbw6:=hb1.trans (Below.mono hb16 hb1.size)
  clear hb6 hb16 BF1 BC hb1
  have HF:=fun a b c d=>Lib.hid (vmust_ (w:=w6) (f:=.pointer (some ⟨gf,0,none⟩)) a b c d)
  go_wp2_with fail
  refine (HF _ _ _ _).out.mono ?_
  rintro e w7 ⟨rfl,hb7⟩
  have BD7:=BD6.ext hb7
  have HR7:=Lib.hid (eDB.ext HR6.out hb7)
  have HTH7:=Lib.hid (HTH6.out.ext hb7)
  have hbw7:=hbw6.trans (Below.mono hb7 hbw6.size)
  have HH7:=Lib.hid (HH6.out.ext hb7)
  clear HF hb7 BD6 HR6 hbw6 HH6
  obtain ⟨X1,X2,X3,X4,i1,j1,i2,j2,i3,j3,i4,j4,O,m,c,B,k,d,BF7,_,hop7,hbl7⟩:=HH7.out.st
  have HOP:=Lib.hid (And.intro hop7 hbl7)
  have HMN:=Lib.hid (And.intro HH7.out.mp (And.intro HH7.out.ne HH7.out.nl))
  unfold fndC at BF7
  have p:=four BD7 (Below.refl _ _)
  have q4:=BF7.cell 4
  have q5:=BF7.cell 5
  have q6:=BF7.cell 6
  have q7:=BF7.cell 7
  have z4:=BF7.frozen 4
  have z5:=BF7.frozen 5
  have z6:=BF7.frozen 6
  have z7:=BF7.frozen 7
  clear hop7 hbl7 HH7
  go_wp2
  have BF8:Blk _ gf 117 (fndC Y1 Y2 Y3 Y4 1 f1 e2 f2 e3 f3 e4 f4 nx O m c B k d gm):=(((BF7.set_ 4 (.slice Y1 1 f1)).set_ 5 (.slice Y2 e2 f2)).set_ 6 (.slice Y3 e3 f3)).set_ 7 (.slice Y4 e4 f4)
  have hg8:=grown_trans (grown_trans (set_grown w7 gf 4 (.slice Y1 1 f1)) (set_grown _ gf 5 (.slice Y2 e2 f2))) (grown_trans (set_grown _ gf 6 (.slice Y3 e3 f3)) (set_grown _ gf 7 (.slice Y4 e4 f4)))
  have hk8:Keep (FG gf gm) w7 _:=Keep.grown hg8 (fun x hx h=>by injection hx with hx;exact h.1 hx.symm)
  have hz8:=hg8.size
  go_end0
  exact ⟨rfl,⟨⟨Y1,Y2,Y3,Y4,1,f1,e2,f2,e3,f3,e4,f4,O,m,c,B,k,d,BF8,eDB.keep (eDB.mono (bnd_db HR7.out) (fun b h=>⟨⟨h.1,Nat.lt_of_lt_of_le h.2 hz8⟩,show FG gf gm b from ⟨by have:=h.1;omega,by have:=h.1;omega⟩⟩)) (hk8.mono (fun b h=>h.2)),HOP.out.1.keep hk8,HOP.out.2.keep hk8⟩,HMN.out.1.grown hg8 (by intro e;injection e with e;exact HMN.out.2.1 e.symm),HMN.out.2.1,fun e=>(BF8.cell 9).trans ((BF7.cell 9).symm.trans (HMN.out.2.2.1 e)),fun e=>(BF8.cell 10).trans ((BF7.cell 10).symm.trans (HMN.out.2.2.2 e))⟩,(Frm.below hbw7).trans (Frm.grown hg8 (fun x hx=>by injection hx with hx;exact .inl hx.symm)),Y1,f1,BF8.cell 4,HTH7.out.keep (Keep.grown hg8 (fun x hx h=>by injection hx with hx;omega))⟩
 ·refine pD fun K hK=>?_;go_simp
  obtain ⟨w4,hwn⟩:∃ W',W'=W.drew.alloc (.cells #[.slice none 0 0,.slice none 0 0,.slice none 0 0,.slice none 0 0] 43):=⟨_,rfl⟩
  have hb4:Below W.heap.size W.drew w4:=by rw [hwn];exact show Below W.heap.size W.drew (W.drew.alloc _) from (Below.refl W.heap.size W.drew).alloc (Nat.le_refl _) _
  have BD4:Blk w4 W.heap.size 43 #[.slice none 0 0,.slice none 0 0,.slice none 0 0,.slice none 0 0]:=by rw [hwn];exact Blk.new _ _ _
  have hwn2:w4=(W.alloc (.cells #[.slice none 0 0,.slice none 0 0,.slice none 0 0,.slice none 0 0] 43)).drew:=hwn
  rw [←hwn2]
  obtain ⟨gd,hgd⟩:∃ g,W.heap.size=g:=⟨_,rfl⟩
  have hgd3:W.heap.size≤gd:=by omega
  rw [hgd] at BD4 ⊢
  refine hK.out _ _ hb4 ?_
  clear hK K hwn hwn2 hgd
  refine wpBr_next ?_
  refine wpBr_seq ?_
  have hb14:=hb1.drew.trans (Below.mono hb4 hb1.size)
  refine pD fun K hK=>?_;go_simp
  have hwI:=hb14.size
  have HF:=Lib.hid (HK.out w4 _ _ _ (eDB.ext HD.out hb14) (HSC.out.ext hb14))
  refine HF.out.mono ?_
  rintro e w5 ⟨cz,rfl,hr3,⟨tA,tc,trest,te,tow⟩,hb45⟩
  have BD5:=BD4.ext hb45
  have hgl:=BD4.lt
  have HR5:=Lib.hid (eDB.mono hr3 (G:=fun b=>w.heap.size≤b∧b≠gd) (fun b (h:w4.heap.size≤b)=>⟨Nat.le_trans hwI h,by omega⟩))
  have HTH5:=Lib.hid ((TH.of_own tow).mono (G:=fun b=>w.heap.size≤b∧b≠gd) (fun b h=>⟨Nat.le_trans hwI h.1,by have:=h.1;omega⟩))
  have HTE:=Lib.hid (show cz=.slice tA 1 tc::trest from te)
  clear te tow
  have hb5:=hb4.trans (Below.mono hb45 hb4.size)
  refine hK.out _ _ hb5 ?_
  clear hK K HF hr3 hb45 hb4 BD4 hgl hb14
  repeat ((with_reducible refine pG ?_);(first|refine pT ?_|refine pF ?_);try go_frame)
  have hczl:cz.length=4:=eDB.len HR5.out
  have hone:=eDB.one HR5.out
  have hszl:(Tryz.prog.info? 43).map (·.size)=some cz.length:=by rw [hczl];kernel_rfl
  have hth:=Blk.there (o:=0) (n:=4) BD5 (by simp)
  refine wpPerm_do rfl (wanted_free rfl) (fun K hK=>?_)
  refine wp_store_wide 43 (.tmp 6) (.tmp 15) rfl rfl gd 0 cz rfl rfl (by rw [hczl];exact hth) hszl hone ?_
  obtain ⟨BD6,hg6⟩:=Blk.lay cz 0 BD5 (by rw [hczl];simp)
  rw [laid_all _ _ (by rw [hczl];rfl)] at BD6
  have hb6:=hb5.grown hg6 hb5.size (fun k hk=>by injection hk with hk;omega)
  have HR6:=Lib.hid (eDB.mono (eDB.keep HR5.out (Keep.grown hg6 (fun g hg h=>by injection hg with hg;exact h.2 hg.symm))) (G:=fun b=>w.heap.size≤b) (fun b h=>h.1))
  have HTH6:=Lib.hid ((HTH5.out.keep (Keep.grown hg6 (fun g hg h=>by injection hg with hg;exact h.2 hg.symm))).mono (G:=fun b=>w.heap.size≤b) (fun b h=>h.1))
  refine hK.out _ _ hb6 ?_
  clear hK K hth hg6 BD5 hb5 HR5 hone hszl hczl
  generalize w5.setCells gd 0 cz=w6 at *
  repeat ((with_reducible refine pG ?_);(first|refine pT ?_|refine pF ?_);try go_frame)
  obtain ⟨Y1,e1,f1,Y2,e2,f2,Y3,e3,f3,Y4,e4,f4,rfl,_,_,_,_⟩:=eDB_inv HR6.out
  obtain ⟨rfl,rfl⟩:Y1=tA∧e1=1:=by
   have te:=HTE.out
   injection te with te _
   injection te with a b c
   exact ⟨a,b⟩
  clear HTE
  have BD6:Blk w6 gd 43 #[.slice Y1 1 f1,.slice Y2 e2 f2,.slice Y3 e3 f3,.slice Y4 e4 f4]:=BD6
  refine wpBr_next (wpBr_fin ?_)
  have hb16:=(Below.refl W.heap.size W).drew.trans hb6
  have HH6:=Lib.hid (HH.out.ext (hb1.trans (Below.mono hb16 hb1.size)))
  have hbw6:=hb1.trans (Below.mono hb16 hb1.size)
  clear hb6 hb16 BF1 BC hb1
  have HF:=fun a b c d=>Lib.hid (vmust_ (w:=w6) (f:=.pointer (some ⟨gf,0,none⟩)) a b c d)
  go_wp2_with fail
  refine (HF _ _ _ _).out.mono ?_
  rintro e w7 ⟨rfl,hb7⟩
  have BD7:=BD6.ext hb7
  have HR7:=Lib.hid (eDB.ext HR6.out hb7)
  have HTH7:=Lib.hid (HTH6.out.ext hb7)
  have hbw7:=hbw6.trans (Below.mono hb7 hbw6.size)
  have HH7:=Lib.hid (HH6.out.ext hb7)
  clear HF hb7 BD6 HR6 hbw6 HH6
  obtain ⟨X1,X2,X3,X4,i1,j1,i2,j2,i3,j3,i4,j4,O,m,c,B,k,d,BF7,_,hop7,hbl7⟩:=HH7.out.st
  have HOP:=Lib.hid (And.intro hop7 hbl7)
  have HMN:=Lib.hid (And.intro HH7.out.mp (And.intro HH7.out.ne HH7.out.nl))
  unfold fndC at BF7
  have p:=four BD7 (Below.refl _ _)
  have q4:=BF7.cell 4
  have q5:=BF7.cell 5
  have q6:=BF7.cell 6
  have q7:=BF7.cell 7
  have z4:=BF7.frozen 4
  have z5:=BF7.frozen 5
  have z6:=BF7.frozen 6
  have z7:=BF7.frozen 7
  clear hop7 hbl7 HH7
  go_wp2
  have BF8:Blk _ gf 117 (fndC Y1 Y2 Y3 Y4 1 f1 e2 f2 e3 f3 e4 f4 nx O m c B k d gm):=(((BF7.set_ 4 (.slice Y1 1 f1)).set_ 5 (.slice Y2 e2 f2)).set_ 6 (.slice Y3 e3 f3)).set_ 7 (.slice Y4 e4 f4)
  have hg8:=grown_trans (grown_trans (set_grown w7 gf 4 (.slice Y1 1 f1)) (set_grown _ gf 5 (.slice Y2 e2 f2))) (grown_trans (set_grown _ gf 6 (.slice Y3 e3 f3)) (set_grown _ gf 7 (.slice Y4 e4 f4)))
  have hk8:Keep (FG gf gm) w7 _:=Keep.grown hg8 (fun x hx h=>by injection hx with hx;exact h.1 hx.symm)
  have hz8:=hg8.size
  go_end0
  exact ⟨rfl,⟨⟨Y1,Y2,Y3,Y4,1,f1,e2,f2,e3,f3,e4,f4,O,m,c,B,k,d,BF8,eDB.keep (eDB.mono (bnd_db HR7.out) (fun b h=>⟨⟨h.1,Nat.lt_of_lt_of_le h.2 hz8⟩,show FG gf gm b from ⟨by have:=h.1;omega,by have:=h.1;omega⟩⟩)) (hk8.mono (fun b h=>h.2)),HOP.out.1.keep hk8,HOP.out.2.keep hk8⟩,HMN.out.1.grown hg8 (by intro e;injection e with e;exact HMN.out.2.1 e.symm),HMN.out.2.1,fun e=>(BF8.cell 9).trans ((BF7.cell 9).symm.trans (HMN.out.2.2.1 e)),fun e=>(BF8.cell 10).trans ((BF7.cell 10).symm.trans (HMN.out.2.2.2 e))⟩,(Frm.below hbw7).trans (Frm.grown hg8 (fun x hx=>by injection hx with hx;exact .inl hx.symm)),Y1,f1,BF8.cell 4,HTH7.out.keep (Keep.grown hg8 (fun x hx h=>by injection hx with hx;omega))⟩
def SX:tb.Sch:=⟨⟨#[120]⟩,[⟨⟨#[97]⟩,2,false⟩],0,false⟩
def rX (N:Nat):List val.V:=[⟨2,(N:Int),⟨#[]⟩⟩]
def dbY (N:Nat):DBd:=([(schX,[[numV N]])],[],[],[])
theorem okX:tb.Ok SX.cols SX.key []:=⟨by decide,fun c h=>by injection h with h;subst h;rfl,fun r hr=>(by cases hr),.nil⟩
theorem Sl.zero {α:Type} {E:Enc α} {w w':World} {F:Blocks} {A:Option Addr} {c:Nat} (h:Sl E w F A 0 c []) (hs:w.heap.size≤w'.heap.size):Sl E w' F A 0 c []:=by
 obtain ⟨css,hr,he,_⟩:=h
 have hc:css=[]:=List.length_eq_zero_iff.1 he.1
 subst hc
 refine ⟨[],?_,Els.nil w' F,rfl⟩
 rcases hr with q|q|⟨b,off,e,h1,h2,h3,h4⟩
 ·exact .inl q
 ·exact .inr (.inl q)
 ·exact .inr (.inr ⟨b,off,e,h1,h2,Nat.lt_of_lt_of_le h3 hs,fun i u hu=>by simp at hu⟩)
theorem setCells_grown (g:Nat):∀ (vs:List Value) (o:Nat) (w:World),w.grownBy (w.setCells g o vs) (some g)
 | [],_,w=>grown_refl w _
 | v::vs,o,w=>grown_trans (set_grown w g o v) (setCells_grown g vs (o+1) (w.setCell ⟨g,o,none⟩ v))
theorem vchg_ {w:World} {gf gm N c:Nat} {D G:Blocks} {nx:Int} {M:List (Int × Value)} {A:Option Addr} (h:Fnd w gf gm D dbX nx [] [] M) (hT:∃ A c,w.cell? ⟨gf,4,none⟩=some (.slice A 1 c)∧TH w D A) (hr:Sl eVal w G A 1 c [numV N])
  (hput:tb.putL SX.cols SX.key [] (rX N)=(0,[rX N])) :
  Calls Tryz.prog 87 #[.pointer (some ⟨gf,0,none⟩),.agg #[.string ⟨#[120]⟩,.int .i64 1,.slice A 1 c]] w fun e w'=>e=.returned (.bool true)∧Fnd w' gf gm (fun b=>D b∨(w.heap.size≤b∧b<w'.heap.size)) (dbY N) nx [] [] M∧Frm D w w':=by
 have hlt:=h.lt
 have HR:=Lib.hid hr
 have HP:=Lib.hid hput
 obtain ⟨X1,X2,X3,X4,i1,j1,i2,j2,i3,j3,i4,j4,O,m,oc,B,k,d,BF,hd,hop,hbl⟩:=h.st
 have HOP:=Lib.hid (And.intro hop (And.intro hbl (And.intro h.mp h.ne)))
 have HNL:=Lib.hid (And.intro (h.nl.1 rfl) (h.nl.2 rfl))
 unfold fndC at BF
 obtain ⟨T,tc,hTc,b1,rfl,hDb,hth,hbl1⟩:=hT
 have e1:=(BF.cell 4).symm.trans hTc
 simp only [List.getElem?_toArray,List.getElem?_cons_succ,List.getElem?_cons_zero,Option.some.injEq,Value.slice.injEq] at e1
 obtain ⟨rfl,rfl,rfl⟩:=e1
 have HTH:=Lib.hid (And.intro hDb (And.intro hth hbl1))
 obtain ⟨_,_,_,_,_,_,_,_,_,_,_,_,he,hd1,hd2,hd3,hd4⟩:=eDB_inv hd
 simp only [List.cons.injEq,Value.slice.injEq,and_true] at he
 obtain ⟨⟨rfl,rfl,rfl⟩,⟨rfl,rfl,rfl⟩,⟨rfl,rfl,rfl⟩,⟨rfl,rfl,rfl⟩⟩:=he
 have z2:i2=0:=hd2.len.symm
 have z3:i3=0:=hd3.len.symm
 have z4:i4=0:=hd4.len.symm
 have zm:m=0:=hop.len.symm
 have zk:k=0:=hbl.len.symm
 subst z2 z3 z4 zm zk
 have HD1:=Lib.hid hd1
 have HDS:=Lib.hid (And.intro hd2 (And.intro hd3 hd4))
 obtain ⟨cs0,hcs0,hcell0⟩:=hd1.at_ (show [(schX,[])][0]? = some (schX,([]:List RowD)) from rfl)
 have HC0:=Lib.hid hcs0
 obtain ⟨C1,n1,c1,C2,n2,c2,rfl,_,_⟩:=eTab_inv hcs0
 simp only [show eTab.k=5 from rfl,Nat.zero_mul,Nat.add_zero] at hcell0
 have HCE:=Lib.hid hcell0
 have HBFw:=Lib.hid BF
 clear h hr hput hd hop hbl hTc hDb hth hd1 hd2 hd3 hd4 hcs0 hcell0
 go_enter Tryz.func87,Tryz.ntmps87
 go_upto_region 1 with fail
 obtain ⟨W,hW_,hb1,BC⟩:=al1 w 155 #[.string ⟨#[120]⟩,.int .i64 1,.slice A 1 c]
 rw [←hW_]
 clear hW_
 obtain ⟨gc,hgc⟩:∃ g,w.heap.size=g:=⟨_,rfl⟩
 rw [hgc] at BC ⊢
 clear hgc
 have BF1:=BF.ext hb1
 have HF:=Lib.hid (vat_ (BF1.cell 4) BF1.lt (HD1.out.ext hb1))
 have q:=BC.cell 0
 clear BF
 go_wp2_with fail
 refine HF.out.mono ?_
 rintro e w2 ⟨rfl,hb2⟩
 have BF2:=BF1.ext hb2
 have BC2:=BC.ext hb2
 have hbw2:=hb1.trans (Below.mono hb2 hb1.size)
 have f4:=BF2.cell 4
 have p:∀ (j:Nat) u,[Value.string schX.1,.slice C1 n1 c1,.int .i64 schX.2.2.1,.bool schX.2.2.2,.slice C2 n2 c2][j]? = some u→w2.cell? ⟨b1,0+j,none⟩=some u:=fun j u hu=>(hbw2.cell (p:=⟨b1,0+j,none⟩) hbl1).trans (HCE.out j u hu)
 have p0:=p 0 _ rfl
 have p1:=p 1 _ rfl
 have p2:=p 2 _ rfl
 have p3:=p 3 _ rfl
 have p4:=p 4 _ rfl
 simp only [Nat.zero_add] at p0 p1 p2 p3 p4
 clear HF q hb1 hb2 BF1 BC p
 go_upto_region 5 with fail
 clear p0 p1 p2 p3 p4 f4
 obtain ⟨W3,hW_,hb3,BT⟩:=al1 w2 153 #[.string schX.1,.slice C1 n1 c1,.int .i64 schX.2.2.1,.bool schX.2.2.2,.slice C2 n2 c2]
 rw [←hW_]
 clear hW_
 obtain ⟨gt,hgt⟩:∃ g,w2.heap.size=g:=⟨_,rfl⟩
 rw [hgt] at BT ⊢
 clear hgt
 have hbw3:=hbw2.trans (Below.mono hb3 hbw2.size)
 have BF3:=BF2.ext hb3
 have BC3:=BC2.ext hb3
 have HF:=tput_ (w:=W3) (S:=SX) (rows:=[]) (r:=rX N) (show eTab.rel W3 _ [.string schX.1,.slice C1 n1 c1,.int .i64 schX.2.2.1,.bool schX.2.2.2,.slice C2 n2 c2] (tabTo SX []) from eTab.ext HC0.out hbw3) (show Sl eVal W3 _ A 1 c (rowTo (rX N)) from HR.out.ext hbw3) (fun v hv=>by simp [rX] at hv;subst hv;exact Nat.zero_le _) okX (by decide) (by simp) (by omega)
 rw [HP.out] at HF
 have HF:=Lib.hid HF
 have t0:=BT.cell 0
 have t1:=BT.cell 1
 have t2:=BT.cell 2
 have t3:=BT.cell 3
 have t4:=BT.cell 4
 have qc:=BC3.three (Below.refl _ _)
 clear hb3 hbw2 BF2 BC2
 go_wp2_with fail
 refine HF.out.mono ?_
 rintro e w4 ⟨cz,rfl,hr4,hb4⟩
 have HR4:=Lib.hid (bnd_tab (show eTab.rel w4 (fun b=>W3.heap.size≤b) cz (schX,[[numV N]]) from hr4))
 obtain ⟨E1,m1,d1,E2,m2,d2,rfl,_,_⟩:=eTab_inv HR4.out
 have hbw4:=hbw3.trans (Below.mono hb4 hbw3.size)
 have BF4:=BF3.ext hb4
 have h3w:w.heap.size≤W3.heap.size:=hbw3.size
 clear t0 t1 t2 t3 t4 qc HF hr4 hb4 hbw3 BF3 BC3 BT
 go_upto_region 7 with fail
 obtain ⟨W5,hW_,hb5,BN⟩:=al1 w4 153 #[.string schX.1,.slice E1 m1 d1,.int .i64 schX.2.2.1,.bool schX.2.2.2,.slice E2 m2 d2]
 rw [←hW_]
 clear hW_
 obtain ⟨gn,hgn⟩:∃ g,w4.heap.size=g:=⟨_,rfl⟩
 rw [hgn] at BN ⊢
 clear hgn
 have hbw5:=hbw4.trans (Below.mono hb5 hbw4.size)
 have BF5:=BF4.ext hb5
 have HR5:=Lib.hid (eTab.ext HR4.out hb5)
 have h45:=hb5.size
 clear hb5 hbw4 BF4 HR4
 have D':=fun w' (h:Below W5.heap.size W5.drew w')=>show w'.cell? ⟨gf,4,none⟩=some (.slice (some ⟨b1,0,none⟩) 1 j1)∧w'.cell? ⟨gn,0,none⟩=some (.string schX.1)∧w'.cell? ⟨gn,1,none⟩=some (.slice E1 m1 d1)∧w'.cell? ⟨gn,2,none⟩=some (.int .i64 schX.2.2.1)∧w'.cell? ⟨gn,3,none⟩=some (.bool schX.2.2.2)∧w'.cell? ⟨gn,4,none⟩=some (.slice E2 m2 d2) from by
  have x1:=BF5.ext ((Below.refl _ _).drew.trans h)
  have x2:=BN.ext ((Below.refl _ _).drew.trans h)
  exact ⟨x1.cell 4,x2.cell 0,x2.cell 1,x2.cell 2,x2.cell 3,x2.cell 4⟩
 refine wp_region_tail (S:=fun w'=>Below W5.heap.size W5.drew w') [(0,true),(1,true),(2,true),(3,true),(4,true),(5,true),(6,true),(7,true)] [(8,false)] (by kernel_rfl) (by kernel_rfl) (Below.refl _ _) ?_
 repeat ((with_reducible refine pG ?_);(first|refine pT ?_|refine pF ?_);try go_frame)
 refine wpTail_done ?_
 clear D'
 have hbd:=hbw5.drew
 obtain ⟨tc,htc⟩:∃ t:List Value,t=[.string schX.1,.slice E1 m1 d1,.int .i64 schX.2.2.1,.bool schX.2.2.2,.slice E2 m2 d2]:=⟨_,rfl⟩
 have HTC:=Lib.hid htc
 have htl:tc.length=5:=by rw [htc];rfl
 have hRd:=eTab.ext HR5.out (Below.refl W5.heap.size W5).drew
 have hto:=eTab.one hRd
 rw [←htc] at hRd hto
 have hts:(Tryz.prog.info? 153).map (·.size)=some tc.length:=by rw [htl];kernel_rfl
 have hth6:W5.drew.there b1 0 tc.length:=by rw [htl];exact there_same HTH.out.2.1 (hbd.block b1 HTH.out.2.2)
 have hra:=World.rangeAt_setCells_same W5.drew b1 0 tc hth6
 have hg6:=setCells_grown b1 tc 0 W5.drew
 obtain ⟨bb,oo,ebb,hj,hFb,hbb⟩:=HD1.out.some_ (by omega)
 obtain ⟨rfl,rfl⟩:b1=bb∧0=oo:=by
  injection ebb with ebb
  injection ebb with a b
  exact ⟨a,b⟩
 have hfb:gf≠b1:=fun e=>hFb.2.1 e.symm
 have hmb:gm≠b1:=fun e=>hFb.2.2 e.symm
 clear htc
 refine wpPerm_do rfl (wanted_free rfl) (fun K hK=>?_)
 refine wp_store_wide 153 (.tmp 43) (.tmp 42) rfl rfl b1 0 tc rfl (by rw [HTC.out];rfl) hth6 hts hto ?_
 refine hK.out _ _ trivial (wpPerm_done ?_)
 clear hK K
 have BF6:=(Blk.drew BF5).grown hg6 (by intro e;injection e with e;exact hfb e)
 have hk6:Keep (fun b=>b≠b1) W5.drew (W5.drew.setCells b1 0 tc):=Keep.grown hg6 (fun x hx h=>by injection hx with hx;exact h hx.symm)
 have hb1w:=HTH.out.2.2
 have hs6:=hg6.size
 have hwd:w.heap.size≤W5.drew.heap.size:=hbd.size
 have hE6:eTab.rel (W5.drew.setCells b1 0 tc) (fun b=>(D b∨(w.heap.size≤b∧b<(W5.drew.setCells b1 0 tc).heap.size))∧FG gf gm b) tc (schX,[[numV N]]):=eTab.mono (eTab.keep (F:=fun b=>W3.heap.size≤b∧b<w4.heap.size) hRd (hk6.mono (fun b h=>by have:=h.1;omega))) (fun b h=>by
  have h1:=h.1
  have h2:=h.2
  have h5:W5.drew.heap.size=W5.heap.size:=rfl
  exact ⟨.inr ⟨by omega,by omega⟩,⟨by omega,by omega⟩⟩)
 have hF2:∀ b,(D b∧FG gf gm b)→(D b∨(w.heap.size≤b∧b<(W5.drew.setCells b1 0 tc).heap.size))∧FG gf gm b:=fun b h=>⟨.inl h.1,h.2⟩
 have hz:=Nat.le_trans hwd hs6
 have hDB:eDB.rel (W5.drew.setCells b1 0 tc) (fun b=>(D b∨(w.heap.size≤b∧b<(W5.drew.setCells b1 0 tc).heap.size))∧FG gf gm b) [.slice (some ⟨b1,0,none⟩) 1 j1,.slice X2 0 j2,.slice X3 0 j3,.slice X4 0 j4] (dbY N) :=
  eDB_mk (x:=dbY N) ⟨[tc],.inr (.inr ⟨b1,0,rfl,hj,hF2 b1 hFb,Nat.lt_of_lt_of_le hb1w hz,fun i u hu=>hra i u (by simpa using hu)⟩),Els.one_ hE6,rfl⟩ ((HDS.out.1.zero hz).mono hF2) ((HDS.out.2.1.zero hz).mono hF2) ((HDS.out.2.2.zero hz).mono hF2)
 have BFw:=HBFw.out
 have hMP:=(HOP.out.2.2.1.ext hbd).grown hg6 (by intro e;injection e with e;exact hmb e)
 have hFnd:Fnd (W5.drew.setCells b1 0 tc) gf gm (fun b=>D b∨(w.heap.size≤b∧b<(W5.drew.setCells b1 0 tc).heap.size)) (dbY N) nx [] [] M:=⟨⟨_,_,_,_,_,_,_,_,_,_,_,_,_,_,_,_,_,_,BF6,hDB,HOP.out.1.zero hz,HOP.out.2.1.zero hz⟩,hMP,HOP.out.2.2.2,fun _=>(BF6.cell 9).trans ((BFw.cell 9).symm.trans HNL.out.1),fun _=>(BF6.cell 10).trans ((BFw.cell 10).symm.trans HNL.out.2)⟩
 have hfr:=(Frm.below (G:=D) hbd).trans (Frm.grown hg6 (fun x hx=>by injection hx with hx;rw [←hx];exact HTH.out.1))
 have HE:=Lib.hid (And.intro hFnd hfr)
 clear BFw hFnd hfr hMP hDB hF2 hE6 hk6 BF6 hra hg6 hth6 hto hts hRd hbd BF5 BN hbw5 HR5
 generalize W5.drew.setCells b1 0 tc=w9 at *
 go_wp2
 go_ret
 exact ⟨rfl,HE.out⟩
section
variable {w w':World} {gf gm:Nat} {D:Blocks} {x:DBd} {nx:Int} {op:List (List UInt8)} {bl:List BlkD} {M:List (Int × Value)}
theorem Fnd.frozen (h:Fnd w gf gm D x nx op bl M) (i:Nat):w.frozen? ⟨gf,i,none⟩=false:=by
 obtain ⟨_,_,_,_,_,_,_,_,_,_,_,_,_,_,_,_,_,_,h1,_⟩:=h.st
 exact h1.frozen i
theorem Fnd.nx_ (h:Fnd w gf gm D x nx op bl M):w.cell? ⟨gf,8,none⟩=some (.int .i64 nx):=by
 obtain ⟨_,_,_,_,_,_,_,_,_,_,_,_,_,_,_,_,_,_,h1,_⟩:=h.st
 exact h1.cell 8
theorem Fnd.sums_ (h:Fnd w gf gm D x nx op bl M):w.cell? ⟨gf,11,none⟩=some (.map (some gm)):=by
 obtain ⟨_,_,_,_,_,_,_,_,_,_,_,_,_,_,_,_,_,_,h1,_⟩:=h.st
 exact h1.cell 11
theorem Fnd.found (h:Fnd w gf gm D x nx op bl M):w.cell? ⟨gf,3,none⟩=some (.slice none 0 0):=by
 obtain ⟨_,_,_,_,_,_,_,_,_,_,_,_,_,_,_,_,_,_,h1,_⟩:=h.st
 exact h1.cell 3
theorem Fnd.open_ (h:Fnd w gf gm D x nx op bl M):∃ O c,w.cell? ⟨gf,9,none⟩=some (.slice O op.length c)∧Sl eHash w (FG gf gm) O op.length c op:=by
 obtain ⟨_,_,_,_,_,_,_,_,_,_,_,_,O,m,c,_,_,_,h1,_,h3,_⟩:=h.st
 have e:=h3.len
 subst e
 exact ⟨O,c,h1.cell 9,h3⟩
theorem Fnd.blocks_ (h:Fnd w gf gm D x nx op bl M):∃ B d,w.cell? ⟨gf,10,none⟩=some (.slice B bl.length d)∧Sl eBlk w (FG gf gm) B bl.length d bl:=by
 obtain ⟨_,_,_,_,_,_,_,_,_,_,_,_,_,_,_,B,k,d,h1,_,_,h4⟩:=h.st
 have e:=h4.len
 subst e
 exact ⟨B,d,h1.cell 10,h4⟩
theorem Fnd.setNx (h:Fnd w gf gm D x nx op bl M) (m:Int):Fnd (w.setCell ⟨gf,8,none⟩ (.int .i64 m)) gf gm D x m op bl M:=by
 obtain ⟨A1,A2,A3,A4,n1,c1,n2,c2,n3,c3,n4,c4,O,mm,c,B,k,d,h1,h2,h3,h4⟩:=h.st
 have hk:Keep (FG gf gm) w (w.setCell ⟨gf,8,none⟩ (.int .i64 m)):=Keep.set w _ _ (fun h=>h.1 rfl)
 exact ⟨⟨A1,A2,A3,A4,n1,c1,n2,c2,n3,c3,n4,c4,O,mm,c,B,k,d,h1.set_ 8 _,eDB.keep h2 (hk.mono (fun b h=>h.2)),h3.keep hk,h4.keep hk⟩,h.mp.grown (set_grown w gf 8 _) (by intro e;injection e with e;exact h.ne e.symm),h.ne,fun e=>(World.cell?_setCell_other _ ⟨gf,8,none⟩ ⟨gf,9,none⟩ _ (by simp)).trans (h.nl.1 e),fun e=>(World.cell?_setCell_other _ ⟨gf,8,none⟩ ⟨gf,10,none⟩ _ (by simp)).trans (h.nl.2 e)⟩
theorem Fnd.setOp (h:Fnd w gf gm D x nx op bl M) {O:Option Addr} {m c:Nat} {op':List (List UInt8)} (hn:op'=[]→O=none∧m=0∧c=0) (hs:Sl eHash w (FG gf gm) O m c op'):Fnd (w.setCell ⟨gf,9,none⟩ (.slice O m c)) gf gm D x nx op' bl M:=by
 obtain ⟨A1,A2,A3,A4,n1,c1,n2,c2,n3,c3,n4,c4,O',mm,c',B,k,d,h1,h2,h3,h4⟩:=h.st
 have hk:Keep (FG gf gm) w (w.setCell ⟨gf,9,none⟩ (.slice O m c)):=Keep.set w _ _ (fun h=>h.1 rfl)
 exact ⟨⟨A1,A2,A3,A4,n1,c1,n2,c2,n3,c3,n4,c4,O,m,c,B,k,d,h1.set_ 9 _,eDB.keep h2 (hk.mono (fun b h=>h.2)),hs.keep hk,h4.keep hk⟩,h.mp.grown (set_grown w gf 9 _) (by intro e;injection e with e;exact h.ne e.symm),h.ne,fun e=>by obtain ⟨rfl,rfl,rfl⟩:=hn e;exact (h1.set_ 9 _).cell 9,fun e=>(World.cell?_setCell_other _ ⟨gf,9,none⟩ ⟨gf,10,none⟩ _ (by simp)).trans (h.nl.2 e)⟩
theorem Fnd.setBl (h:Fnd w gf gm D x nx op bl M) {O:Option Addr} {m c:Nat} {bl':List BlkD} (hn:bl'≠[]) (hs:Sl eBlk w (FG gf gm) O m c bl'):Fnd (w.setCell ⟨gf,10,none⟩ (.slice O m c)) gf gm D x nx op bl' M:=by
 obtain ⟨A1,A2,A3,A4,n1,c1,n2,c2,n3,c3,n4,c4,O',mm,c',B,k,d,h1,h2,h3,h4⟩:=h.st
 have hk:Keep (FG gf gm) w (w.setCell ⟨gf,10,none⟩ (.slice O m c)):=Keep.set w _ _ (fun h=>h.1 rfl)
 exact ⟨⟨A1,A2,A3,A4,n1,c1,n2,c2,n3,c3,n4,c4,O',mm,c',O,m,c,h1.set_ 10 _,eDB.keep h2 (hk.mono (fun b h=>h.2)),h3.keep hk,hs.keep hk⟩,h.mp.grown (set_grown w gf 10 _) (by intro e;injection e with e;exact h.ne e.symm),h.ne,fun e=>(World.cell?_setCell_other _ ⟨gf,10,none⟩ ⟨gf,9,none⟩ _ (by simp)).trans (h.nl.1 e),fun e=>absurd e hn⟩
theorem Fnd.setMp (h:Fnd w gf gm D x nx op bl M) {M':List (Int × Value)} (hg:w.grownBy w' (some gm)) (hm:MapI w' gm M'):Fnd w' gf gm D x nx op bl M':=by
 obtain ⟨A1,A2,A3,A4,n1,c1,n2,c2,n3,c3,n4,c4,O',mm,c',B,k,d,h1,h2,h3,h4⟩:=h.st
 have hk:Keep (FG gf gm) w w':=Keep.grown hg (fun x hx h=>by injection hx with hx;exact h.2 hx.symm)
 exact ⟨⟨A1,A2,A3,A4,n1,c1,n2,c2,n3,c3,n4,c4,O',mm,c',B,k,d,h1.grown hg (by intro e;injection e with e;exact h.ne e),eDB.keep h2 (hk.mono (fun b h=>h.2)),h3.keep hk,h4.keep hk⟩,hm,h.ne,fun e=>(World.cell?_of_block (hg.block gf h1.lt (by intro e;injection e with e;exact h.ne e))).trans (h.nl.1 e),fun e=>(World.cell?_of_block (hg.block gf h1.lt (by intro e;injection e with e;exact h.ne e))).trans (h.nl.2 e)⟩
end
def chX (N:Nat):Chg:=(⟨#[120]⟩,1,[numV N])
theorem vtx_ {w:World} {gf gm N c d id:Nat} {D G:Blocks} {M:List (Int × Value)} {A B:Option Addr} (h:Fnd w gf gm D dbX (id:Int) [] [] M) (hT:∃ A c,w.cell? ⟨gf,4,none⟩=some (.slice A 1 c)∧TH w D A)
  (hc:Sl eChg w G A 1 c [chX N]) (hh:Sl eHash w G B 1 d [rowH id 0 (chX N)]) (hG:∀ b,G b→¬D b∧b≠gf) (hD:∀ b,D b→b<w.heap.size) (hok:OkC (chX N)) (hid:id<1000000) (hput:tb.putL SX.cols SX.key [] (rX N)=(0,[rX N])) :
  Calls Tryz.prog 33 #[.pointer (some ⟨gf,0,none⟩),.agg (trC id (.slice A 1 c) (.slice B 1 d) (rowH id 0 (chX N)) false h0).toArray] w fun e w'=>e=.returned (.tuple #[])∧(∃ D',Fnd w' gf gm D' (dbY N) ((id:Int)+1) [entH id (chX N)] [] M)∧Frm (fun b=>b=gf∨D b) w w':=by
 have hlt:=h.lt
 have HH0:=Lib.hid h
 have HT0:=Lib.hid hT
 have HC0:=Lib.hid hc
 have HB0:=Lib.hid hh
 have HOK:=Lib.hid hok
 have HPT:=Lib.hid hput
 obtain ⟨ba,oa,rfl,_,hGa,hbal⟩:=hc.some_ (by omega)
 obtain ⟨bb,ob,rfl,_,hGb,hbbl⟩:=hh.some_ (by omega)
 obtain ⟨H,hH⟩:∃ H,rowH id 0 (chX N)=H:=⟨_,rfl⟩
 have hHl:H.length=32:=by rw [←hH];exact shaL_len _
 have HHH:=Lib.hid hH
 obtain ⟨cs0,hcs0,hcell0⟩:=hc.at_ (show [chX N][0]? = some (chX N) from rfl)
 obtain ⟨A3,n3,c3,rfl,hr3⟩:=eChg_inv hcs0
 have hn3:n3=1:=hr3.len.symm
 subst hn3
 simp only [show eChg.k=3 from rfl,Nat.zero_mul,Nat.add_zero] at hcell0
 have HCE:=Lib.hid (And.intro (hcell0 0 _ rfl) (And.intro (hcell0 1 _ rfl) (hcell0 2 _ rfl)))
 have HCS:=Lib.hid hcs0
 have HR3:=Lib.hid hr3
 obtain ⟨hs0,hhs0,hhcell⟩:=hh.at_ (show [rowH id 0 (chX N)][0]? = some (rowH id 0 (chX N)) from rfl)
 obtain ⟨rfl,_⟩:=hhs0
 simp only [show eHash.k=32 from rfl,Nat.zero_mul,Nat.add_zero] at hhcell
 rw [hH] at hhcell ⊢
 have HHC:=Lib.hid (show w.rangeAt bb ob (cellsB H) from hhcell)
 clear h hT hc hh hH hok hput hcs0 hcell0 hr3 hhcell
 have htl:=trC_len (id:Int) (.slice (some ⟨ba,oa,none⟩) 1 c) (.slice (some ⟨bb,ob,none⟩) 1 d) H false h0 hHl h0_len
 have ht35:=trC_at35 (id:Int) (.slice (some ⟨ba,oa,none⟩) 1 c) (.slice (some ⟨bb,ob,none⟩) 1 d) H false h0 hHl
 have htd:((trC (id:Int) (.slice (some ⟨ba,oa,none⟩) 1 c) (.slice (some ⟨bb,ob,none⟩) 1 d) H false h0).drop 3).take 32=cellsB H:=by
  show (cellsB H++(.bool false::cellsB h0)).take 32=cellsB H
  rw [List.take_append_of_le_length (by rw [lenB,hHl];omega),List.take_of_length_le (by rw [lenB,hHl];omega)]
 obtain ⟨tc,htc⟩:∃ t,t=trC (id:Int) (.slice (some ⟨ba,oa,none⟩) 1 c) (.slice (some ⟨bb,ob,none⟩) 1 d) H false h0:=⟨_,rfl⟩
 have ht0:tc.toArray[0]? = some (.int .i64 (id:Int)):=by rw [htc];rfl
 have ht1:tc.toArray[1]? = some (.slice (some ⟨ba,oa,none⟩) 1 c):=by rw [htc];rfl
 have ht2:tc.toArray[2]? = some (.slice (some ⟨bb,ob,none⟩) 1 d):=by rw [htc];rfl
 rw [←htc] at htl ht35 htd ⊢
 have HTD:=Lib.hid htd
 clear htc htd
 go_enter Tryz.func33,Tryz.ntmps33
 go_upto_region 1 with fail
 obtain ⟨W,hW_,hb1,B3⟩:=al1 w 127 (tc.toArray)
 rw [←hW_]
 clear hW_
 obtain ⟨g3,hg3⟩:∃ g,w.heap.size=g:=⟨_,rfl⟩
 have hg3w:w.heap.size≤g3:=by omega
 rw [hg3] at B3 ⊢
 clear hg3
 have HF1:=Lib.hid (HH0.out.ext hb1)
 obtain ⟨Bk,dk,qb,_⟩:=HF1.out.blocks_
 simp only [List.length_nil] at qb
 go_upto_region 2 with fail
 clear qb
 have D1:=fun w' (h:Below W.heap.size W.drew w')=>And.intro (show w'.cell? ⟨g3,0,none⟩=some (.int .i64 (id:Int)) from ((B3.ext ((Below.refl _ _).drew.trans h)).cell 0).trans ht0) ((HF1.out.ext ((Below.refl _ _).drew.trans h)).nx_)
 refine wp_region_tail (S:=fun w'=>Below W.heap.size W.drew w') [(0,true),(1,true),(2,true),(3,true),(4,true),(5,true),(6,true),(7,true),(8,true),(9,true),(10,true),(11,true),(12,true),(13,true)] [(14,false)] (by kernel_rfl) (by kernel_rfl) (Below.refl _ _) ?_
 repeat ((with_reducible refine pG ?_);(first|refine pT ?_|refine pF ?_);try go_frame)
 refine wpTail_done ?_
 clear D1
 have HM:=Lib.hid (fun a b c d=>vmust_ (w:=W.drew) (f:=.pointer (some ⟨gf,0,none⟩)) a b c d)
 refine pD fun K hK=>?_;go_simp
 refine (HM.out _ _ _ _).mono ?_
 rintro e w2 ⟨rfl,hb2⟩
 refine hK.out _ _ trivial (wpPerm_done ?_)
 clear hK K HM
 have hbW2:=(Below.refl W.heap.size W).drew.trans hb2
 have hbw2:=hb1.trans (Below.mono hbW2 hb1.size)
 have B32:=B3.ext hbW2
 have HF2:=Lib.hid (HF1.out.ext hbW2)
 clear hb1 hb2 hbW2 B3 HF1
 have q8:=HF2.out.nx_
 have f8:=HF2.out.frozen 8
 have t0:=(B32.cell 0).trans ht0
 go_upto_region 4 with fail
 have HF3:=Lib.hid (HF2.out.setNx ((id:Int)+1))
 have hg3f:g3≠gf:=by have:=hlt.1;omega
 have B33:=B32.far (p:=⟨gf,8,none⟩) hg3f (.int .i64 ((id:Int)+1))
 have hk3:Keep (fun b=>¬D b∧b≠gf) w (w2.setCell ⟨gf,8,none⟩ (.int .i64 ((id:Int)+1))):=(Keep.below hbw2).trans (Keep.set w2 _ _ (fun h=>h.2 rfl))
 have hfr3:Frm (fun b=>b=gf∨D b) w (w2.setCell ⟨gf,8,none⟩ (.int .i64 ((id:Int)+1))):=(Frm.below hbw2).trans (Frm.grown (set_grown w2 gf 8 _) (fun x hx=>by injection hx with hx;exact .inl hx.symm))
 have hz3:w.heap.size≤(w2.setCell ⟨gf,8,none⟩ (.int .i64 ((id:Int)+1))).heap.size:=hk3.size
 have HT3:Hid (∃ A c,(w2.setCell ⟨gf,8,none⟩ (.int .i64 ((id:Int)+1))).cell? ⟨gf,4,none⟩=some (.slice A 1 c)∧TH (w2.setCell ⟨gf,8,none⟩ (.int .i64 ((id:Int)+1))) D A):=Lib.hid (by
  obtain ⟨A,c,h1,h2⟩:=HT0.out
  refine ⟨A,c,(World.cell?_setCell_other _ ⟨gf,8,none⟩ ⟨gf,4,none⟩ _ (by simp)).trans ((hbw2.cell (p:=⟨gf,4,none⟩) hlt.1).trans h1),?_⟩
  obtain ⟨b,e,hDb,hth,hbl⟩:=h2.ext hbw2
  exact ⟨b,e,hDb,World.there_setCells hth gf 8 [.int .i64 ((id:Int)+1)],by simpa using hbl⟩)
 clear q8 f8 t0 HF2 B32 hbw2
 generalize w2.setCell ⟨gf,8,none⟩ (.int .i64 ((id:Int)+1))=w3 at *
 have hGk:∀ b,G b→¬D b∧b≠gf:=hG
 have t1:=(B33.cell 1).trans ht1
 have p0:w3.cell? ⟨ba,oa,none⟩=some (.string (chX N).1):=(World.cell?_of_block (hk3.block ba (hG ba hGa) hbal)).trans (by have:=HCE.out.1;simpa using this)
 have p1:w3.cell? ⟨ba,oa+1,none⟩=some (.int .i64 (chX N).2.1):=(World.cell?_of_block (hk3.block ba (hG ba hGa) hbal)).trans HCE.out.2.1
 have p2:w3.cell? ⟨ba,oa+2,none⟩=some (.slice A3 1 c3):=(World.cell?_of_block (hk3.block ba (hG ba hGa) hbal)).trans HCE.out.2.2
 go_wp2_with fail
 refine wp_loop_rounds 2 ?_
 rw [rounds_succ]
 go_upto_region 8 with fail
 clear p0 p1 p2 t1
 obtain ⟨W4,hW_,hb4,BV⟩:=al1 w3 155 #[.string (chX N).1,.int .i64 (chX N).2.1,.slice A3 1 c3]
 rw [←hW_]
 clear hW_
 obtain ⟨g7,hg7⟩:∃ g,w3.heap.size=g:=⟨_,rfl⟩
 have hg7w:w.heap.size≤g7:=by omega
 rw [hg7] at BV ⊢
 clear hg7
 have B34:=B33.ext hb4
 have hk4:=hk3.trans (Keep.below hb4)
 have HF:=Lib.hid (lrow_ (w:=W4) (tx:=id) (seq:=0) (eChg.keep HCS.out (hk4.mono hG)) HOK.out (by omega) (by omega))
 have qv:=BV.three (Below.refl _ _)
 have t0:=(B34.cell 0).trans ht0
 go_wp2_with fail
 refine HF.out.mono ?_
 rintro e w5 ⟨rfl,hb5⟩
 rw [HHH.out]
 have hb35:=hb4.trans (Below.mono hb5 hb4.size)
 have BV5:=BV.ext hb5
 have B35:=B34.ext hb5
 clear HF qv t0 B34 hk4 hb4 hb5 BV B33
 have hsz9:=size32 H hHl
 obtain ⟨Wq,hWq⟩:∃ W',W'=w5.alloc (.cells (cellsB h0).toArray 32):=⟨_,rfl⟩
 have hbq:Below w5.heap.size w5 Wq:=by rw [hWq];exact (Below.refl _ _).alloc (Nat.le_refl _) _
 have BQ0:Blk Wq w5.heap.size 32 (cellsB h0).toArray:=by rw [hWq];exact Blk.new _ _ _
 have hthq:=Blk.there (o:=0) (n:=32) BQ0 (by rw [lenB,h0_len];omega)
 obtain ⟨BQ,hgq⟩:=Blk.lay (cellsB H) 0 BQ0 (by rw [lenB,lenB,h0_len,hHl];omega)
 rw [laid_all _ _ (by rw [lenB,lenB,h0_len,hHl])] at BQ
 have hbq5:=hbq.grown hgq hbq.size (fun k hk=>by injection hk with hk;omega)
 have HWq:=Lib.hid hWq
 have hz:=zero32
 clear hWq
 go_upto_region 9 with ((with_reducible show wpList _ _ _ (Oper.mk none (Op.store _ (Operand.tmp 8) _) _ _ _ _::_) _ _);(rw [←HWq.out]);(refine wpList_store_mid rfl 32 _ _ rfl w5.heap.size 0 (cellsB H).toArray rfl rfl ?h1 ?h2 (all_oneCell_toArray (oneB _)) ?_))
 case h1=>exact (show (cellsB H).toArray.size=32 by simp [lenB,hHl]) ▸ hthq
 case h2=>exact (show (cellsB H).toArray.size=(cellsB H).length by simp) ▸ hsz9
 clear hthq hgq hbq BQ0 hz
 obtain ⟨g8,hg8⟩:∃ g,w5.heap.size=g:=⟨_,rfl⟩
 have hg8w:w3.heap.size≤g8:=by have:=hb35.size;omega
 have BV6:=BV5.ext hbq5
 have B36:=B35.ext hbq5
 have hb36:=hb35.trans (Below.mono hbq5 hb35.size)
 rw [hg8] at BQ BV6 B36 hb36 ⊢
 clear hg8 BV5 B35 hb35 hbq5
 generalize Wq.setCells g8 0 (cellsB H)=w6 at *
 clear HWq
 obtain ⟨i0,hi0,hy0,hy1,hy2⟩:=info_parts (P:=Tryz.prog) (e:=32) (z:=.agg (cellsB h0).toArray) (size:=32) (bytes:=32) (by kernel_rfl)
 have hzs:(Value.agg (cellsB h0).toArray).cells.size=32:=by kernel_rfl
 go_upto_region 10 with (first|((with_reducible show wpList _ _ _ (Oper.mk (some 54) _ _ _ _ _::_) _ _);(refine wpList_load_mid rfl 32 _ rfl g8 0 rfl (cellsB H) _ (Blk.whole BQ) Tryz.underlying32 rfl hsz9 ?_)) |
  ((with_reducible show wpList _ _ _ (Oper.mk (some 55) _ _ _ _ _::_) _ _);(refine wpList_plain rfl fun K hK=>?_);(refine wp_slice1d 55 115 32 (.tmp 54) rfl rfl (cellsB H) rfl i0 _ Tryz.underlying115 hi0 hy0 (by rw [hy1,lenB,hHl]) (by rw [lenB,hHl];omega) (by rw [lenB,hHl];omega) ?_);(refine hK _ _ ?_)) |
  (at_builtin;(refine wpList_append_own _ rfl (.tmp 53) (.tmp 55) 115 rfl w6.heap.size 32 i0 _ 32 32 Tryz.underlying115 hi0 hy0 hy1 hy2 hzs (by decide) _ 0 _ rfl (own_nil _ _ _ _) ⟨w6.heap.size,0,none⟩ 1 1 (cellsB H) rfl ?a1 ?a2 ?a3 ?a4 ?a5 ?a6 ?_)))
 case a1=>rw [lenB,hHl]
 case a2=>exact (Row.of_blk (lo:=0) (Blk.new w6 32 (cellsB H).toArray) (Nat.zero_le _) 1 1 (Nat.le_refl _)).src
 case a3=>exact oneB H
 case a4=>unfold maxLen;omega
 case a5=>omega
 case a6=>simp
 intro v' w7 hown hgrow _
 obtain ⟨A7,c7,rfl⟩:=own_slice hown
 obtain ⟨g9,rfl,hg9lo,hg9hi⟩:=own_some1 hown (by omega)
 have hba:=(Below.refl w6.heap.size w6).alloc (Nat.le_refl _) (.cells (cellsB H).toArray 32)
 have hb7:=hba.grown hgrow hba.size (fun k hk=>by simp [Value.ownBlock] at hk)
 have hrow:=Row.of_own hown
 have HRG:=Lib.hid (show w7.rangeAt g9 0 (cellsB H) from fun j u hu=>hrow.at_ hu)
 have hc7:1≤c7:=hrow.le_
 have BV7:=BV6.ext hb7
 have B37:=B36.ext hb7
 have BQ7:=BQ.ext hb7
 have hb37:=hb36.trans (Below.mono hb7 hb36.size)
 have hg9w:w3.heap.size≤g9:=by have:=hb36.size;omega
 have HF7:=Lib.hid (HF3.out.ext hb37)
 have HT7:Hid (∃ A c,w7.cell? ⟨gf,4,none⟩=some (.slice A 1 c)∧TH w7 D A):=Lib.hid (by
  obtain ⟨A,c,h1,h2⟩:=HT3.out
  exact ⟨A,c,(hb37.cell (p:=⟨gf,4,none⟩) HF3.out.lt.1).trans h1,h2.ext hb37⟩)
 have hk7:=hk3.trans (Keep.below hb37)
 have hfr7:=hfr3.trans (Frm.below hb37)
 have hz7:=Nat.le_trans hz3 hb37.size
 clear hown hgrow hba hb7 hrow BV6 B36 BQ hb36 HF3 HT3 hk3 hfr3
 go_upto_region 10 with fail
 have HRB:=Lib.hid (show w7.rangeAt bb ob (cellsB H) from fun j u hu=>(World.cell?_of_block (hk7.block bb (hG bb hGb) hbbl)).trans (HHC.out j u hu))
 have hbb7:bb<w7.heap.size:=Nat.lt_of_lt_of_le hbbl hz7
 have D1:=fun w' (h:Below w7.heap.size w7.drew w')=>And.intro (show w'.cell? ⟨g3,0,none⟩=some (.int .i64 (id:Int)) from ((B37.ext ((Below.refl _ _).drew.trans h)).cell 0).trans ht0) (show w'.cell? ⟨g3,2,none⟩=some (.slice (some ⟨bb,ob,none⟩) 1 d) from ((B37.ext ((Below.refl _ _).drew.trans h)).cell 2).trans ht2)
 refine wp_region_tail (S:=fun w'=>Below w7.heap.size w7.drew w') [(0,true),(1,true),(2,true),(3,true),(4,true),(5,true),(6,true),(7,true),(8,true),(9,true),(10,true),(11,true),(12,true),(13,true)] [(14,false)] (by kernel_rfl) (by kernel_rfl) (Below.refl _ _) ?_
 ((with_reducible refine pG ?_);(first|refine pT ?_|refine pF ?_);try go_frame)
 refine wpPerm_on rfl rfl (wanted_free rfl) (fun w' hS=>exec_load_mid 32 (.tmp 8) rfl g8 0 rfl (cellsB H) _ (Blk.whole (BQ7.ext ((Below.refl _ _).drew.trans hS))) Tryz.underlying32 rfl hsz9) ?_
 go_frame
 iterate 4 (((with_reducible refine pG ?_);(first|refine pT ?_|refine pF ?_);try go_frame))
 refine wpPerm_on rfl rfl (wanted_free rfl) (fun w' hS=>exec_load_mid 32 (.tmp 62) rfl bb ob rfl (cellsB H) _ (fun j u hu=>(((Below.refl _ _).drew.trans hS).cell (p:=⟨bb,ob+j,none⟩) hbb7).trans (HRB.out j u hu)) Tryz.underlying32 rfl hsz9) ?_
 go_frame
 refine wpPerm_on rfl rfl (wanted_free rfl) (fun w' hS=>exec_eqh (.tmp 58) (.tmp 63) rfl H hHl rfl rfl) ?_
 go_frame
 repeat ((with_reducible refine pG ?_);(first|refine pT ?_|refine pF ?_);try go_frame)
 refine wpTail_done ?_
 clear D1
 have HM:=Lib.hid (fun a b c d=>vmust_ (w:=w7.drew) (f:=.pointer (some ⟨gf,0,none⟩)) a b c d)
 refine pD fun K hK=>?_;go_simp
 refine (HM.out _ _ _ _).mono ?_
 rintro e w8 ⟨rfl,hb8⟩
 refine hK.out _ _ trivial (wpPerm_done ?_)
 clear hK K HM HRB
 have hb78:=(Below.refl w7.heap.size w7).drew.trans hb8
 have BV8:=BV7.ext hb78
 have B38:=B37.ext hb78
 have HF8:=Lib.hid (HF7.out.ext hb78)
 have HT8:Hid (∃ A c,w8.cell? ⟨gf,4,none⟩=some (.slice A 1 c)∧TH w8 D A):=Lib.hid (by
  obtain ⟨A,c,h1,h2⟩:=HT7.out
  exact ⟨A,c,(hb78.cell (p:=⟨gf,4,none⟩) HF7.out.lt.1).trans h1,h2.ext hb78⟩)
 have hk8:=hk7.trans (Keep.below hb78)
 have hfr8:=hfr7.trans (Frm.below hb78)
 have hz8:=Nat.le_trans hz7 hb78.size
 have HRG8:=Lib.hid (show w8.rangeAt g9 0 (cellsB H) from fun j u hu=>(hb78.cell (p:=⟨g9,0+j,none⟩) hg9hi).trans (HRG.out j u hu))
 have hg9l:g9<w8.heap.size:=Nat.lt_of_lt_of_le hg9hi hb78.size
 clear hb8 hb78 BV7 B37 BQ7 HF7 HT7 hk7 hfr7 HRG hb37 hbb7
 go_upto_region 11 with fail
 have hDw:∀ b,w.heap.size≤b→¬D b∧b≠gf:=fun b hb=>⟨fun h=>by have:=hD b h;omega,by have:=hlt.1;omega⟩
 have D1:=fun w' (hS:Blk w' g3 127 tc.toArray∧Blk w' g7 155 #[.string (chX N).1,.int .i64 (chX N).2.1,.slice A3 1 c3])=>And.intro (show w'.cell? ⟨g3,0,none⟩=some (.int .i64 (id:Int)) from (hS.1.cell 0).trans ht0) (hS.2.three (Below.refl _ _))
 refine wp_region_oneS (S:=fun w'=>Blk w' g3 127 tc.toArray∧Blk w' g7 155 #[.string (chX N).1,.int .i64 (chX N).2.1,.slice A3 1 c3]) [(0,true),(1,true),(2,true),(4,true),(5,true),(6,true),(7,true),(8,true),(9,true),(3,false),(10,false)] (by kernel_rfl) (by kernel_rfl) (by kernel_rfl) (by decide) ⟨Blk.drew B38,Blk.drew BV8⟩ ?_
 repeat ((with_reducible refine pG ?_);(first|refine pT ?_|refine pF ?_);try go_frame)
 clear D1
 have hd0:=(Below.refl w8.heap.size w8).drew
 have HF:=Lib.hid (vchg_ (w:=w8.drew) (HF8.out.ext hd0) (by
  obtain ⟨A,c,h1,h2⟩:=HT8.out
  exact ⟨A,c,(hd0.cell (p:=⟨gf,4,none⟩) HF8.out.lt.1).trans h1,h2.ext hd0⟩) (HR3.out.keep ((hk8.trans (Keep.below hd0)).mono hG)) HPT.out)
 refine pD fun K hK=>?_;go_simp
 refine HF.out.mono ?_
 rintro e w9 ⟨rfl,hFn,hfr9⟩
 have hkD:Keep (fun b=>¬D b) w8.drew w9:=hfr9.keep (fun b h _=>h)
 have B39:=Blk.keep (Blk.drew B38) hkD (hDw g3 hg3w).1
 have BV9:=Blk.keep (Blk.drew BV8) hkD (hDw g7 hg7w).1
 have HF9:=Lib.hid hFn
 have hk9:=(hk8.trans (Keep.below hd0)).trans (hkD.mono (fun b h=>h.1))
 have hfr9:=(hfr8.trans (Frm.below hd0)).trans (hfr9.mono (fun b h=>.inr h))
 have hz9:=Nat.le_trans hz8 (Nat.le_trans hd0.size hkD.size)
 have HRG9:=Lib.hid (show w9.rangeAt g9 0 (cellsB H) from fun j u hu=>(World.cell?_of_block (hkD.block g9 (hDw g9 (by omega)).1 (by exact hg9l))).trans ((hd0.cell (p:=⟨g9,0+j,none⟩) hg9l).trans (HRG8.out j u hu)))
 have hg9l9:g9<w9.heap.size:=Nat.lt_of_lt_of_le hg9l hkD.size
 refine hK.out _ _ ⟨B39,BV9⟩ ?_
 clear hK K HF hd0 hFn hkD B38 BV8 HF8 HT8 hk8 hfr8 HRG8 hg9l
 have HM:=Lib.hid (fun a b c d=>vmust_ (w:=w9) (f:=.pointer (some ⟨gf,0,none⟩)) a b c d)
 refine pD fun K hK=>?_;go_simp
 refine (HM.out _ _ _ _).mono ?_
 rintro e w10 ⟨rfl,hb10⟩
 have B310:=B39.ext hb10
 refine hK.out _ _ ⟨B310,BV9.ext hb10⟩ (wpPerm_done ?_)
 clear hK K HM
 obtain ⟨D9,hD9⟩:∃ D9:Blocks,D9=fun b=>D b∨(w8.drew.heap.size≤b∧b<w9.heap.size):=⟨_,rfl⟩
 have HF10:=Lib.hid (show Fnd w10 gf gm D9 (dbY N) ((id:Int)+1) [] [] M from hD9 ▸ HF9.out.ext hb10)
 have hk10:=hk9.trans (Keep.below hb10)
 have hfr10:=hfr9.trans (Frm.below hb10)
 have hz10:=Nat.le_trans hz9 hb10.size
 have HRG10:=Lib.hid (show w10.rangeAt g9 0 (cellsB H) from fun j u hu=>(hb10.cell (p:=⟨g9,0+j,none⟩) hg9l9).trans (HRG9.out j u hu))
 have hg9l:=Nat.lt_of_lt_of_le hg9l9 hb10.size
 clear hb10 B39 BV9 HF9 hk9 hfr9 hz9 HRG9 hg9l9 hD9 hg7w
 go_wp2_with fail
 rw [rounds_succ]
 go_upto_region 13 with fail
 have D1:=fun w' (h:Below w10.heap.size w10.drew w')=>show w'.cell? ⟨g3,0,none⟩=some (.int .i64 (id:Int)) from ((B310.ext ((Below.refl _ _).drew.trans h)).cell 0).trans ht0
 refine wp_region_tail (S:=fun w'=>Below w10.heap.size w10.drew w') [(0,true),(1,true),(3,true),(4,true),(6,true),(7,true),(8,true),(9,true),(10,true),(2,false),(5,true)] [(11,false)] (by kernel_rfl) (by kernel_rfl) (Below.refl _ _) ?_
 iterate 3 (((with_reducible refine pG ?_);(first|refine pT ?_|refine pF ?_);try go_frame))
 refine wpPerm_on rfl rfl (wanted_free rfl) (fun w' hS=>exec_load_mid 32 (.tmp 87) rfl g3 3 rfl (cellsB H) _ (Blk.range (B310.ext ((Below.refl _ _).drew.trans hS)) (by rw [lenB,hHl];exact HTD.out)) Tryz.underlying32 rfl hsz9) ?_
 go_frame
 iterate 5 (((with_reducible refine pG ?_);(first|refine pT ?_|refine pF ?_);try go_frame))
 clear D1
 have hd0:=(Below.refl w10.heap.size w10).drew
 have HF:=Lib.hid (root1_ hHl (show w10.drew.rangeAt g9 0 (cellsB H) from fun j u hu=>(hd0.cell (p:=⟨g9,0+j,none⟩) hg9l).trans (HRG10.out j u hu)) (by exact hg9l) hc7)
 refine pD fun K hK=>?_;go_simp
 refine HF.out.mono ?_
 rintro e w11 ⟨rfl,hb11⟩
 refine hK.out _ _ hb11 ?_
 clear hK K HF
 refine wpPerm_on rfl rfl (wanted_free rfl) (fun w' hS=>exec_eqh (.tmp 86) (.tmp 88) rfl H hHl rfl rfl) ?_
 go_frame
 refine wpTail_done ?_
 have HM:=Lib.hid (fun a b c d=>vmust_ (w:=w11) (f:=.pointer (some ⟨gf,0,none⟩)) a b c d)
 refine pD fun K hK=>?_;go_simp
 refine (HM.out _ _ _ _).mono ?_
 rintro e w12 ⟨rfl,hb12⟩
 refine hK.out _ _ trivial (wpPerm_done ?_)
 clear hK K HM HRG10
 have hb1012:=(hd0.trans hb11).trans (Below.mono hb12 (hd0.trans hb11).size)
 have B312:=B310.ext hb1012
 have HF12:=Lib.hid (HF10.out.ext hb1012)
 have hk12:=hk10.trans (Keep.below hb1012)
 have hfr12:=hfr10.trans (Frm.below hb1012)
 have hz12:=Nat.le_trans hz10 hb1012.size
 clear hb11 hb12 hb1012 hd0 B310 HF10 hk10 hfr10 hz10 hg9l
 go_upto_region 14 with fail
 have qo:=HF12.out.nl.1 rfl
 have hof:gf<w12.heap.size:=HF12.out.lt.1
 have D1:=fun w' (h:Below w12.heap.size w12.drew w')=>And.intro (show w'.cell? ⟨g3,0,none⟩=some (.int .i64 (id:Int)) from ((B312.ext ((Below.refl _ _).drew.trans h)).cell 0).trans ht0) (And.intro (show w'.cell? ⟨g3,1,none⟩=some (.slice (some ⟨ba,oa,none⟩) 1 c) from ((B312.ext ((Below.refl _ _).drew.trans h)).cell 1).trans ht1) ((((Below.refl _ _).drew.trans h).cell (p:=⟨gf,9,none⟩) hof).trans qo))
 refine wp_region_tail (S:=fun w'=>Below w12.heap.size w12.drew w') [(0,true),(1,true),(2,true),(3,true),(4,true),(5,true),(6,true),(7,false),(8,false),(9,false),(10,true),(11,true)] [(12,false)] (by kernel_rfl) (by kernel_rfl) (Below.refl _ _) ?_
 repeat ((with_reducible refine pG ?_);(first|refine pT ?_|refine pF ?_);try go_frame)
 have hd0:=(Below.refl w12.heap.size w12).drew
 have HF:=Lib.hid (entry_ (w:=w12.drew) (eTx_mk (x:=((id:Int),[chX N])) (HC0.out.keep ((hk12.trans (Keep.below hd0)).mono hG))) HOK.out (by omega))
 refine pD fun K hK=>?_;go_simp
 refine HF.out.mono ?_
 rintro e w13 ⟨rfl,hb13⟩
 obtain ⟨J,hJ⟩:∃ J,entH id (chX N)=J:=⟨_,rfl⟩
 have hJl:J.length=32:=by rw [←hJ];exact shaL_len _
 have HJ:=Lib.hid hJ
 rw [hJ]
 refine hK.out _ _ hb13 ?_
 clear hK K HF hJ
 refine wpPerm_do rfl (wanted_free rfl) (fun K hK=>?_)
 refine wp_slice1d 104 115 32 (.tmp 103) rfl rfl (cellsB J) rfl i0 _ Tryz.underlying115 hi0 hy0 (by rw [hy1,lenB,hJl]) (by rw [lenB,hJl];omega) (by rw [lenB,hJl];omega) ?_
 obtain ⟨Wb,hWb⟩:∃ W,W=w13.alloc (.cells (cellsB J).toArray 32):=⟨_,rfl⟩
 have hbb:Below w13.heap.size w13 Wb:=by rw [hWb];exact (Below.refl _ _).alloc (Nat.le_refl _) _
 have BH:Blk Wb w13.heap.size 32 (cellsB J).toArray:=by rw [hWb];exact Blk.new _ _ _
 obtain ⟨gh,hgh⟩:∃ g,w13.heap.size=g:=⟨_,rfl⟩
 rw [←hWb]
 rw [hgh] at BH ⊢
 have hdb:=hb13.trans (Below.mono hbb hb13.size)
 refine hK.out _ _ hdb ?_
 clear hK K hWb hgh
 refine wpPerm_do rfl (wanted_free rfl) (fun K hK=>?_)
 refine wp_append_full 105 (.tmp 100) (.tmp 104) 115 rfl rfl 32 i0 _ 32 32 Tryz.underlying115 hi0 hy0 hy1 hy2 hzs (by decide) none 0 0 [] rfl (fun _=>⟨rfl,rfl⟩) rfl (fun b hb j u hu=>by simp at hu) ⟨gh,0,none⟩ 1 1 (cellsB J) rfl (by rw [lenB,hJl]) (fun j u hu=>by rw [Addr.add_mid];exact Blk.whole BH j u hu) (oneB _) (by omega) (by unfold maxLen;omega) (by omega) ?_
 intro A14 c14 w14 hown hgr14
 have hbc:Below Wb.heap.size Wb w14:=(Below.refl _ _).grown hgr14 (Nat.le_refl _) (fun k hk=>by cases hk)
 have hd14:=hdb.trans (Below.mono hbc hdb.size)
 refine hK.out _ _ hd14 ?_
 clear hK K D1
 have hb1214:=hd0.trans hd14
 have HF14:=Lib.hid (HF12.out.ext hb1214)
 have B314:=B312.ext hb1214
 have hfr14:=hfr12.trans (Frm.below hb1214)
 have hWb:w12.heap.size≤Wb.heap.size:=hdb.size
 have hsl:Sl eHash w14 (FG gf gm) A14 1 c14 [J]:=by
  have hE:OwnE eHash 32 w14 Wb.heap.size (FG gf gm) A14 1 c14 [J]:=⟨[cellsB J],by rw [show [cellsB J].flatten=[]++cellsB J by simp];exact hown,Els.one_ (hash_rel _ _ J hJl),rfl⟩
  exact hE.slB (fun b e=>by have:=(hE.lt e).1;exact ⟨by omega,by have:=hlt.2;omega⟩) (fun b h=>h)
 have HS14:=Lib.hid hsl
 clear hown hgr14 hbc hd14 hb1214 hdb hbb BH hb13 hd0 HF12 B312 hfr12 hsl hWb hi0 hy0 hy1 hy2 hzs i0 qo hof
 repeat ((with_reducible refine pG ?_);(first|refine pT ?_|refine pF ?_);try go_frame)
 refine wpTail_done ?_
 obtain ⟨O9,oc9,q9,_⟩:=HF14.out.open_
 simp only [List.length_nil] at q9
 have f9:=HF14.out.frozen 9
 refine pD fun K hK=>?_;go_simp
 refine hK.out _ _ trivial (wpPerm_done ?_)
 clear hK K q9 f9
 have HF15:=Lib.hid (HF14.out.setOp (fun e=>by cases e) HS14.out)
 have B315:=B314.far (p:=⟨gf,9,none⟩) hg3f (.slice A14 1 c14)
 have hfr15:=hfr14.trans (Frm.grown (set_grown w14 gf 9 (.slice A14 1 c14)) (fun x hx=>by injection hx with hx;exact .inl hx.symm))
 clear HF14 B314 hfr14 HS14
 generalize w14.setCell ⟨gf,9,none⟩ (.slice A14 1 c14)=w15 at *
 obtain ⟨O9,oc9,q9,_⟩:=HF15.out.open_
 simp only [List.length_singleton] at q9
 have t35:=(B315.cell 35).trans ht35
 have HM:=Lib.hid (fun a b c d=>vmust_ (w:=w15) (f:=.pointer (some ⟨gf,0,none⟩)) a b c d)
 go_wp2_with fail
 refine (HM.out _ _ _ _).mono ?_
 rintro e w16 ⟨rfl,hb16⟩
 have t35:=((B315.ext hb16).cell 35).trans ht35
 have HE:=Lib.hid (And.intro (HF15.out.ext hb16) (hfr15.trans (Frm.below hb16)))
 clear HM q9 B315 HF15 hfr15 hb16
 go_wp2
 go_end0
 exact ⟨rfl,⟨D9,by rw [HJ.out];exact HE.out.1⟩,HE.out.2⟩
end Go.Proofs.YtgbcdkmjcokclaaGreat.tp
