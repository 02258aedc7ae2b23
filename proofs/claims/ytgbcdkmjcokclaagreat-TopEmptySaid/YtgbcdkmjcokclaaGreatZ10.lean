/- Laws of its own that the claim's proof needs; no condition beyond those that each states. -/
import Derived.Test.YtgbcdkmjcokclaaGreatZ9
import Derived.WalkMore
set_option linter.unusedVariables false
set_option maxRecDepth 1000000
set_option maxHeartbeats 16000000
namespace Go.Proofs.YtgbcdkmjcokclaaGreat.tp
open Go.ChangeShapes Go.WideShapes Go.ChangeAt Go.RowKit Go.Proofs.YtgbcdkmjcokclaaGreat.lib
theorem blkC_laid1 (n:Int) (p q r:List UInt8) (c:Int) (hp:p.length=32) (hq:q.length=32):laid (blkC n p r c) 1 (cellsB q)=blkC n q r c:=by
 have:=laid_mid [.int .i64 n] (cellsB p) (cellsB r++[.int .i64 c]) (cellsB q) (by rw [lenB,lenB,hp,hq])
 simpa [blkC] using this
theorem vclose_ {w:World} {gf gm:Nat} {D:Blocks} {x:DBd} {nx:Int} {E H:List UInt8} (h:Fnd w gf gm D x nx [E] [] []) (hE:E.length=32) (hH:shaL (blkT 1 h0 E 1)=H) (hDw:∀ b,D b→b<w.heap.size) :
  Calls Tryz.prog 90 #[.pointer (some ⟨gf,0,none⟩),.agg (cellsB H).toArray] w fun e w'=>e=.returned (.tuple #[])∧Fnd w' gf gm D x nx [] [(1,h0,E,1)] [(1,.agg (cellsB H).toArray)]∧Frm (fun b=>b=gf∨b=gm) w w':=by
 have hlt:=h.lt
 have hHl:H.length=32:=by rw [←hH];exact shaL_len _
 have HH:=Lib.hid hH
 have HF0:=Lib.hid h
 obtain ⟨O,oc,qo,hso⟩:=h.open_
 simp only [List.length_singleton] at qo hso
 obtain ⟨bo,oo,rfl,hoc,_,hbol⟩:=hso.some_ (by omega)
 obtain ⟨es0,hes0,hecell⟩:=hso.at_ (show [E][0]? = some E from rfl)
 obtain ⟨rfl,_⟩:=hes0
 simp only [show eHash.k=32 from rfl,Nat.zero_mul,Nat.add_zero] at hecell
 have HRE:=Lib.hid (show w.rangeAt bo oo (cellsB E) from hecell)
 clear h hH hso hecell
 go_enter Tryz.func90,Tryz.ntmps90
 go_upto_region 1 with fail
 obtain ⟨W,hW_,hb1,B3⟩:=al1 w 32 ((cellsB H).toArray)
 rw [←hW_]
 clear hW_
 obtain ⟨g3,hg3⟩:∃ g,w.heap.size=g:=⟨_,rfl⟩
 have hg3w:w.heap.size≤g3:=by omega
 rw [hg3] at B3 ⊢
 clear hg3
 have hHs:=size32 H hHl
 have HF1:=Lib.hid (HF0.out.ext hb1)
 have qo1:=(hb1.cell (p:=⟨gf,9,none⟩) hlt.1).trans qo
 have hboW:bo<W.heap.size:=Nat.lt_of_lt_of_le hbol hb1.size
 have hzb:=zero_blk
 have D1:∀ w',Below W.heap.size W.drew w'→w'.cell? ⟨gf,9,none⟩=some (.slice (some ⟨bo,oo,none⟩) 1 oc)∧w'.cell? ⟨gf,10,none⟩=some (.slice none 0 0):=fun w' h=>⟨(((Below.refl _ _).drew.trans h).cell (p:=⟨gf,9,none⟩) HF1.out.lt.1).trans qo1,(HF1.out.ext ((Below.refl _ _).drew.trans h)).nl.2 rfl⟩
 refine wp_region_mix1 ⟨17,4,fun g=>.pointer (some ⟨g,0,none⟩),.cells (blkC 0 h0 h0 0).toArray 190⟩
  [(0,true),(1,true),(2,true),(3,true),(4,true),(5,true),(6,true),(7,true),(8,true),(9,true),(11,true),(12,true),(13,true),(14,true),(15,true)] [(10,false),(16,true)] [(18,false)] (by kernel_rfl) (by kernel_rfl) ?_
 repeat ((with_reducible refine iG ?_);(first|refine iT ?_|refine iF ?_);try go_frame)
 refine wpI_done ⟨?_,?_⟩
 ·intro y hy
  simp only [List.mem_cons,List.not_mem_nil,or_false] at hy
  subst hy
  exact ⟨_,rfl,rfl,wanted_free rfl,fun w=>by go_simp⟩
 clear D1 hzb
 refine iD fun wI hI hSI K hK=>?_;go_simp
 have hbI:=(Below.refl W.heap.size W).drew.trans hI
 have hwI:=hb1.trans (Below.mono hbI hb1.size)
 have HF:=Lib.hid (root1_ hE (show wI.rangeAt bo oo (cellsB E) from fun j u hu=>(hwI.cell (p:=⟨bo,oo+j,none⟩) hbol).trans (HRE.out j u hu)) (Nat.lt_of_lt_of_le hbol hwI.size) hoc)
 refine HF.out.mono ?_
 rintro e w5 ⟨rfl,hb5⟩
 refine hK.out _ _ hb5 ?_
 clear hK K HF hI hSI hbI hb5 hwI
 refine wpI_on rfl rfl (wanted_free rfl) (fun w' hS=>exec_build (ps:=[(0,.int .i64 1),(2,.agg (cellsB E).toArray),(3,.int .i64 1)]) 190 _ rfl shape_blk_ rfl (fill_blk 1 E 1 hE)) ?_
 go_frame
 refine wpI_done ?_
 intro g4 wf he hb hlo1 hhi1 hat1
 try simp only [List.setIfInBounds_toArray,List.set_cons_zero,List.set_cons_succ]
 have B5:Blk wf g4 190 (blkC 0 h0 h0 0).toArray:=hat1
 clear hat1 he
 have hkl:=blkC_len 1 h0 E 1 h0_len hE
 have hone:=blkC_one 1 h0 E 1
 have hsz:=size_blk_ 1 h0 E 1 h0_len hE
 have hld:=blkC_laid1 1 h0 h0 E 1 h0_len h0_len
 have hb0:(blkC 1 h0 E 1).toArray[0]? = some (.int .i64 1):=rfl
 obtain ⟨bc,hbc⟩:∃ z,z=blkC 1 h0 E 1:=⟨_,rfl⟩
 rw [←hbc] at hkl hone hsz hld hb0 ⊢
 have HLD:=Lib.hid hld
 have HBC:=Lib.hid hbc
 have hth:=Blk.there (o:=0) (n:=66) B5 (by rw [blkC_len _ _ _ _ h0_len h0_len];omega)
 refine wpPerm_do rfl (wanted_free rfl) (fun K hK=>?_)
 refine wp_store_wide 190 (.tmp 4) (.tmp 21) rfl rfl g4 0 bc rfl rfl (by rw [hkl];exact hth) hsz hone ?_
 obtain ⟨B6,hg6⟩:=Blk.lay bc 0 B5 (by rw [hkl,blkC_len _ _ _ _ h0_len h0_len];omega)
 rw [laid_all _ _ (by rw [hkl,blkC_len _ _ _ _ h0_len h0_len])] at B6
 have hwf:W.heap.size≤wf.heap.size:=hb.size
 have hb6:=hb.grown hg6 hwf (fun k hk=>by injection hk with hk;omega)
 refine hK.out _ _ hb6 (wpPerm_done ?_)
 clear hK K hth B5 hb hbc hld
 have hb16:=(Below.refl W.heap.size W).drew.trans hb6
 have B36:=B3.ext hb16
 have HF6:=Lib.hid (HF1.out.ext hb16)
 have hbw6:=hb1.trans (Below.mono hb16 hb1.size)
 have hg4w:w.heap.size≤g4:=Nat.le_trans hb1.size hlo1
 have hg34:g3≠g4:=by have:=B3.lt;omega
 clear hb6 hb16 hg6 HF1 B3 hb1 qo1 hboW hwf hhi1
 generalize wf.setCells g4 0 bc=w6 at *
 go_upto_region 2 with fail
 have hgf6:gf<w6.heap.size:=HF6.out.lt.1
 have D1:=fun w' (h:Below w6.heap.size w6.drew w')=>And.intro (show w'.cell? ⟨gf,11,none⟩=some (.map (some gm)) from (HF6.out.ext ((Below.refl _ _).drew.trans h)).sums_) (show w'.cell? ⟨g4,0,none⟩=some (.int .i64 1) from ((B6.ext ((Below.refl _ _).drew.trans h)).cell 0).trans hb0)
 refine wp_region_tail (S:=fun w'=>Below w6.heap.size w6.drew w') [(0,true),(1,true),(2,true),(3,true),(4,true),(5,true),(6,true),(7,false),(8,true)] [(9,false)] (by kernel_rfl) (by kernel_rfl) (Below.refl _ _) ?_
 iterate 7 (((with_reducible refine pG ?_);(first|refine pT ?_|refine pF ?_);try go_frame))
 have hd0:=(Below.refl w6.heap.size w6).drew
 refine wpPerm_do rfl (wanted_free rfl) (fun K hK=>?_)
 refine wp_look_d 29 rfl (.tmp 25) (.tmp 28) 107 false rfl 3 32 Tryz.underlying107 Tryz.underlying3 (.agg (cellsB h0).toArray) zero32 gm [] rfl (HF6.out.mp.ext hd0) 0 rfl (.agg (cellsB h0).toArray) rfl ?_
 go_frame
 refine hK.out _ _ (Below.refl _ _) ?_
 clear hK K D1
 repeat ((with_reducible refine pG ?_);(first|refine pT ?_|refine pF ?_);try go_frame)
 refine wpTail_done ?_
 have hsz0:=size32 h0 h0_len
 have B6d:=Blk.drew B6
 have hth:=Blk.there (o:=1) (n:=32) B6d (by omega)
 obtain ⟨B7,hg7⟩:=Blk.lay (cellsB h0) 1 B6d (by rw [lenB,h0_len];omega)
 rw [HLD.out] at B7
 refine wpPerm_do rfl (wanted_free rfl) (fun K hK=>?_)
 refine wp_store_wide 32 (.tmp 30) (.tmp 29) rfl rfl g4 1 (cellsB h0) rfl rfl (by rw [lenB,h0_len];exact hth) hsz0 (oneB _) ?_
 refine hK.out _ _ trivial (wpPerm_done ?_)
 clear hK K hth hsz0
 have hbw7:=hbw6.drew.grown hg7 hbw6.size (fun k hk=>by injection hk with hk;omega)
 have B37:=(Blk.drew B36).grown hg7 (by intro e;injection e with e;exact hg34 e)
 have HF7:=Lib.hid (HF0.out.ext hbw7)
 clear hg7 B6d hd0 HF6 hgf6 B36 B6 hbw6
 generalize w6.drew.setCells g4 1 (cellsB h0)=w7 at *
 go_upto_region 3 with fail
 obtain ⟨iB,hbi,hbz0,hbz1,hbz2⟩:=info_parts (P:=Tryz.prog) (e:=190) (z:=.agg (blkC 0 h0 h0 0).toArray) (size:=66) (bytes:=80) (by kernel_rfl)
 have hbz:(Value.agg (blkC 0 h0 h0 0).toArray).cells.size=66:=by kernel_rfl
 have hgf7:gf<w7.heap.size:=HF7.out.lt.1
 refine wp_region_br (S:=fun w'=>Blk w' g4 190 bc.toArray) (.seq [(0,true),(1,true),(2,true),(3,true),(4,true),(6,true)] (.two 5 (.seq [(7,false),(8,false),(9,true),(10,true),(11,false),(12,true),(13,true),(14,false)] .fin) 7 (.seq [(5,false),(8,false),(9,true),(10,true),(11,false),(12,true),(13,true),(14,false)] .fin))) (by kernel_rfl) (by kernel_rfl) (Blk.drew B7) ?_
 refine wpBr_seq ?_
 iterate 5 (((with_reducible refine pG ?_);(first|refine pT ?_|refine pF ?_);try go_frame))
 refine wpPerm_on rfl rfl (wanted_free rfl) (fun w' hS=>exec_load_mid 190 (.tmp 4) rfl g4 0 rfl bc _ (Blk.whole hS) Tryz.underlying190 rfl hsz) ?_
 go_frame
 refine wpBr_next ?_
 refine wpBr_two ?_ ?_
 ·have q10:=(HF7.out.ext (Below.refl w7.heap.size w7).drew).nl.2 rfl
  refine pD fun K hK=>?_;go_simp
  refine hK.out _ _ (Blk.drew B7) ?_
  clear hK K q10
  refine wpBr_next ?_
  refine wpBr_seq ?_
  refine wpPerm_do rfl (wanted_free rfl) (fun K hK=>?_)
  refine wp_slice1d 38 84 190 (.tmp 37) rfl rfl bc rfl iB _ Tryz.underlying84 hbi hbz0 (by rw [hbz1,hkl]) (by rw [hkl];omega) (by rw [hkl];omega) ?_
  go_frame
  have hda:Below w7.heap.size w7 (w7.drew.alloc (.cells bc.toArray 190)):=(Below.refl w7.heap.size w7).drew.alloc (Nat.le_refl _) _
  have C8:Blk (w7.drew.alloc (.cells bc.toArray 190)) w7.drew.heap.size 190 bc.toArray:=Blk.new _ _ _
  refine hK.out _ _ (B7.ext hda) ?_
  clear hK K
  obtain ⟨g8,hg8⟩:∃ g,w7.drew.heap.size=g:=⟨_,rfl⟩
  generalize w7.drew.alloc (.cells bc.toArray 190)=w8 at *
  rw [hg8] at C8 ⊢
  clear hg8
  refine wpPerm_do rfl (wanted_free rfl) (fun K hK=>?_)
  refine wp_append_full 39 (.tmp 36) (.tmp 38) 84 rfl rfl 190 iB _ 66 80 Tryz.underlying84 hbi hbz0 hbz1 hbz2 hbz (by decide) none 0 0 [] rfl (fun _=>⟨rfl,rfl⟩) rfl (fun b hb j u hu=>by simp at hu) ⟨g8,0,none⟩ 1 1 bc rfl (by rw [hkl]) (fun j u hu=>by rw [Addr.add_mid];exact Blk.whole C8 j u hu) hone (by omega) (by unfold maxLen;omega) (by omega) ?_
  intro A9 c9 w9 hown hgr9
  have hbc:Below w8.heap.size w8 w9:=(Below.refl _ _).grown hgr9 (Nat.le_refl _) (fun k hk=>by cases hk)
  have hb79:=hda.trans (Below.mono hbc hda.size)
  have B9:=B7.ext hb79
  refine hK.out _ _ B9 ?_
  clear hK K
  have B39:=B37.ext hb79
  have hbw9:=hbw7.trans (Below.mono hb79 hbw7.size)
  have HF9:=Lib.hid (HF0.out.ext hbw9)
  have h78:w7.heap.size≤w8.heap.size:=hda.size
  have hw7:=hbw7.size
  have hsl:Sl eBlk w9 (FG gf gm) A9 1 c9 [(1,h0,E,1)]:=by
   have hE9:OwnE eBlk 190 w9 w8.heap.size (FG gf gm) A9 1 c9 [(1,h0,E,1)]:=⟨[bc],by rw [show [bc].flatten=[]++bc by simp];exact hown,Els.one_ (by rw [HBC.out];exact blkC_rel _ _ _ _ _ _ h0_len hE),rfl⟩
   exact hE9.slB (fun b e=>by have:=(hE9.lt e).1;exact ⟨by omega,by have:=hlt.2;omega⟩) (fun b h=>h)
  have HS9:=Lib.hid hsl
  clear hown hgr9 hbc hb79 hda C8 hsl hbi hbz0 hbz1 hbz2 hbz iB HF7 B37 B7 hbw7 hgf7 h78
  repeat ((with_reducible refine pG ?_);(first|refine pT ?_|refine pF ?_);try go_frame)
  have q10:=HF9.out.nl.2 rfl
  have f10:=HF9.out.frozen 10
  refine pD fun K hK=>?_;go_simp
  have HF10:=Lib.hid (HF9.out.setBl (by simp) HS9.out)
  have B310:=B39.far (p:=⟨gf,10,none⟩) (by show g3≠gf;have:=hlt.1;omega) (.slice A9 1 c9)
  have B10:=B9.far (p:=⟨gf,10,none⟩) (by show g4≠gf;have:=hlt.1;omega) (.slice A9 1 c9)
  have hfr10:Frm (fun b=>b=gf∨b=gm) w _:=(Frm.below hbw9).trans (Frm.grown (set_grown w9 gf 10 (.slice A9 1 c9)) (fun x hx=>by injection hx with hx;exact .inl hx.symm))
  refine hK.out _ _ B10 ?_
  clear hK K q10 f10 HF9 B39 B9 hbw9 HS9
  generalize w9.setCell ⟨gf,10,none⟩ (.slice A9 1 c9)=w10 at *
  repeat ((with_reducible refine pG ?_);(first|refine pT ?_|refine pF ?_);try go_frame)
  obtain ⟨O9,oc9,q9,_⟩:=HF10.out.open_
  simp only [List.length_singleton] at q9
  have f9:=HF10.out.frozen 9
  refine pD fun K hK=>?_;go_simp
  have HF11:=Lib.hid (HF10.out.setOp (O:=none) (m:=0) (c:=0) (op':=[]) (fun _=>⟨rfl,rfl,rfl⟩) (Sl.nil _ _))
  have B311:=B310.far (p:=⟨gf,9,none⟩) (by show g3≠gf;have:=hlt.1;omega) (.slice none 0 0)
  have B11:=B10.far (p:=⟨gf,9,none⟩) (by show g4≠gf;have:=hlt.1;omega) (.slice none 0 0)
  have hfr11:=hfr10.trans (Frm.grown (set_grown w10 gf 9 (.slice none 0 0)) (fun x hx=>by injection hx with hx;exact .inl hx.symm))
  refine hK.out _ _ B11 (wpBr_next (wpBr_fin ?_))
  clear hK K q9 f9 HF10 B310 B10 hfr10
  generalize w10.setCell ⟨gf,9,none⟩ (.slice none 0 0)=w11 at *
  go_upto_region 4 with fail
  have D1:=fun w' (h:Below w11.heap.size w11.drew w')=>And.intro (show w'.cell? ⟨gf,11,none⟩=some (.map (some gm)) from (HF11.out.ext ((Below.refl _ _).drew.trans h)).sums_) (show w'.cell? ⟨g4,0,none⟩=some (.int .i64 1) from ((B11.ext ((Below.refl _ _).drew.trans h)).cell 0).trans hb0)
  refine wp_region_tail (S:=fun w'=>Below w11.heap.size w11.drew w') [(0,true),(1,true),(2,true),(3,true),(4,true),(5,true),(6,true),(7,false)] [(8,false)] (by kernel_rfl) (by kernel_rfl) (Below.refl _ _) ?_
  iterate 6 (((with_reducible refine pG ?_);(first|refine pT ?_|refine pF ?_);try go_frame))
  refine wpPerm_on rfl rfl (wanted_free rfl) (fun w' hS=>exec_load_mid 190 (.tmp 4) rfl g4 0 rfl bc _ (Blk.whole (B11.ext ((Below.refl _ _).drew.trans hS))) Tryz.underlying190 rfl hsz) ?_
  go_frame
  clear D1
  have hd0:=(Below.refl w11.heap.size w11).drew
  have HF:=Lib.hid (hash_ (w:=w11.drew) (cs:=bc) (n:=1) (c:=1) (p:=h0) (r:=E) (show eBlk.rel w11.drew (fun _=>True) bc (((1:Nat):Int),h0,E,((1:Nat):Int)) from by rw [HBC.out];exact blkC_rel _ _ _ _ _ _ h0_len hE) (by omega) (by omega))
  refine pD fun K hK=>?_;go_simp
  refine HF.out.mono ?_
  rintro e w12 ⟨rfl,hb12⟩
  rw [HH.out]
  refine hK.out _ _ hb12 ?_
  clear hK K HF
  refine wpTail_done ?_
  have hb1112:=hd0.trans hb12
  have HF12:=Lib.hid (HF11.out.ext hb1112)
  have B312:=B311.ext hb1112
  have B12:=B11.ext hb1112
  have hfr12:=hfr11.trans (Frm.below hb1112)
  clear hb12 hd0 hb1112 HF11 B311 B11 hfr11
  refine wpPerm_do rfl (wanted_free rfl) (fun K hK=>?_)
  refine wp_put_d rfl (.tmp 47) (.tmp 49) (.tmp 51) 107 rfl 3 32 Tryz.underlying107 Tryz.underlying3 gm [] rfl HF12.out.mp 1 (.agg (cellsB H).toArray) rfl rfl rfl ?_
  intro w13 hm13 hg13
  have hgm4:gm≠g4:=by have:=hlt.2;omega
  have hgm3:gm≠g3:=by have:=hlt.2;omega
  have HF13:=Lib.hid (HF12.out.setMp hg13 hm13)
  have B313:=B312.grown hg13 (by intro e;injection e with e;exact hgm3 e.symm)
  have B13:=B12.grown hg13 (by intro e;injection e with e;exact hgm4 e.symm)
  have hfr13:=hfr12.trans (Frm.grown hg13 (fun x hx=>by injection hx with hx;exact .inr hx.symm))
  refine hK.out _ _ trivial (wpPerm_done ?_)
  clear hK K hm13 hg13 HF12 B312 B12 hfr12
  rw [List.nil_append] at HF13
  go_upto_region 5 with fail
  have D1:=fun w' (h:Below w13.heap.size w13.drew w')=>And.intro (show w'.cell? ⟨gf,11,none⟩=some (.map (some gm)) from (HF13.out.ext ((Below.refl _ _).drew.trans h)).sums_) (show w'.cell? ⟨g4,0,none⟩=some (.int .i64 1) from ((B13.ext ((Below.refl _ _).drew.trans h)).cell 0).trans hb0)
  refine wp_region_tail (S:=fun w'=>Below w13.heap.size w13.drew w') [(0,true),(1,true),(2,true),(3,true),(4,true),(5,true),(6,true),(8,true),(10,true),(11,true),(12,true),(7,false),(9,true)] [(13,false)] (by kernel_rfl) (by kernel_rfl) (Below.refl _ _) ?_
  iterate 7 (((with_reducible refine pG ?_);(first|refine pT ?_|refine pF ?_);try go_frame))
  refine wpPerm_on rfl rfl (wanted_free rfl) (fun w' hS=>exec_load_mid 32 (.tmp 3) rfl g3 0 rfl (cellsB H) _ (Blk.whole (B313.ext ((Below.refl _ _).drew.trans hS))) Tryz.underlying32 rfl hHs) ?_
  go_frame
  iterate 3 (((with_reducible refine pG ?_);(first|refine pT ?_|refine pF ?_);try go_frame))
  clear D1
  have hd0:=(Below.refl w13.heap.size w13).drew
  refine wpPerm_do rfl (wanted_free rfl) (fun K hK=>?_)
  refine wp_look_d 59 rfl (.tmp 56) (.tmp 58) 107 false rfl 3 32 Tryz.underlying107 Tryz.underlying3 (.agg (cellsB h0).toArray) zero32 gm [(1,.agg (cellsB H).toArray)] rfl (HF13.out.mp.ext hd0) 1 rfl (.agg (cellsB H).toArray) rfl ?_
  go_frame
  refine hK.out _ _ (Below.refl _ _) ?_
  clear hK K
  refine wpPerm_on rfl rfl (wanted_free rfl) (fun w' hS=>exec_eqh (.tmp 59) (.tmp 60) rfl H hHl rfl rfl) ?_
  go_frame
  refine wpTail_done ?_
  have HM:=Lib.hid (fun a b c d=>vmust_ (w:=w13.drew) (f:=.pointer (some ⟨gf,0,none⟩)) a b c d)
  refine pD fun K hK=>?_;go_simp
  refine (HM.out _ _ _ _).mono ?_
  rintro e w14 ⟨rfl,hb14⟩
  refine hK.out _ _ trivial (wpPerm_done ?_)
  have hb1314:=hd0.trans hb14
  have HE:=Lib.hid (And.intro (HF13.out.ext hb1314) (hfr13.trans (Frm.below hb1314)))
  clear hK K HM hb14 hd0 hb1314 HF13 B313 B13 hfr13
  go_wp2
  go_end0
  exact ⟨rfl,HE.out⟩
 ·refine wpPerm_do rfl (wanted_free rfl) (fun K hK=>?_)
  refine wp_slice1d 38 84 190 (.tmp 37) rfl rfl bc rfl iB _ Tryz.underlying84 hbi hbz0 (by rw [hbz1,hkl]) (by rw [hkl];omega) (by rw [hkl];omega) ?_
  go_frame
  have hda:Below w7.heap.size w7 (w7.drew.alloc (.cells bc.toArray 190)):=(Below.refl w7.heap.size w7).drew.alloc (Nat.le_refl _) _
  have C8:Blk (w7.drew.alloc (.cells bc.toArray 190)) w7.drew.heap.size 190 bc.toArray:=Blk.new _ _ _
  refine hK.out _ _ (B7.ext hda) ?_
  clear hK K
  obtain ⟨g8,hg8⟩:∃ g,w7.drew.heap.size=g:=⟨_,rfl⟩
  generalize w7.drew.alloc (.cells bc.toArray 190)=w8 at *
  rw [hg8] at C8 ⊢
  clear hg8
  refine wpBr_next ?_
  refine wpBr_seq ?_
  have q10:=(HF7.out.ext hda).nl.2 rfl
  refine pD fun K hK=>?_;go_simp
  refine hK.out _ _ (B7.ext hda) ?_
  clear hK K q10
  refine wpPerm_do rfl (wanted_free rfl) (fun K hK=>?_)
  refine wp_append_full 39 (.tmp 36) (.tmp 38) 84 rfl rfl 190 iB _ 66 80 Tryz.underlying84 hbi hbz0 hbz1 hbz2 hbz (by decide) none 0 0 [] rfl (fun _=>⟨rfl,rfl⟩) rfl (fun b hb j u hu=>by simp at hu) ⟨g8,0,none⟩ 1 1 bc rfl (by rw [hkl]) (fun j u hu=>by rw [Addr.add_mid];exact Blk.whole C8 j u hu) hone (by omega) (by unfold maxLen;omega) (by omega) ?_
  intro A9 c9 w9 hown hgr9
  have hbc:Below w8.heap.size w8 w9:=(Below.refl _ _).grown hgr9 (Nat.le_refl _) (fun k hk=>by cases hk)
  have hb79:=hda.trans (Below.mono hbc hda.size)
  have B9:=B7.ext hb79
  refine hK.out _ _ B9 ?_
  clear hK K
  have B39:=B37.ext hb79
  have hbw9:=hbw7.trans (Below.mono hb79 hbw7.size)
  have HF9:=Lib.hid (HF0.out.ext hbw9)
  have h78:w7.heap.size≤w8.heap.size:=hda.size
  have hw7:=hbw7.size
  have hsl:Sl eBlk w9 (FG gf gm) A9 1 c9 [(1,h0,E,1)]:=by
   have hE9:OwnE eBlk 190 w9 w8.heap.size (FG gf gm) A9 1 c9 [(1,h0,E,1)]:=⟨[bc],by rw [show [bc].flatten=[]++bc by simp];exact hown,Els.one_ (by rw [HBC.out];exact blkC_rel _ _ _ _ _ _ h0_len hE),rfl⟩
   exact hE9.slB (fun b e=>by have:=(hE9.lt e).1;exact ⟨by omega,by have:=hlt.2;omega⟩) (fun b h=>h)
  have HS9:=Lib.hid hsl
  clear hown hgr9 hbc hb79 hda C8 hsl hbi hbz0 hbz1 hbz2 hbz iB HF7 B37 B7 hbw7 hgf7 h78
  repeat ((with_reducible refine pG ?_);(first|refine pT ?_|refine pF ?_);try go_frame)
  have q10:=HF9.out.nl.2 rfl
  have f10:=HF9.out.frozen 10
  refine pD fun K hK=>?_;go_simp
  have HF10:=Lib.hid (HF9.out.setBl (by simp) HS9.out)
  have B310:=B39.far (p:=⟨gf,10,none⟩) (by show g3≠gf;have:=hlt.1;omega) (.slice A9 1 c9)
  have B10:=B9.far (p:=⟨gf,10,none⟩) (by show g4≠gf;have:=hlt.1;omega) (.slice A9 1 c9)
  have hfr10:Frm (fun b=>b=gf∨b=gm) w _:=(Frm.below hbw9).trans (Frm.grown (set_grown w9 gf 10 (.slice A9 1 c9)) (fun x hx=>by injection hx with hx;exact .inl hx.symm))
  refine hK.out _ _ B10 ?_
  clear hK K q10 f10 HF9 B39 B9 hbw9 HS9
  generalize w9.setCell ⟨gf,10,none⟩ (.slice A9 1 c9)=w10 at *
  repeat ((with_reducible refine pG ?_);(first|refine pT ?_|refine pF ?_);try go_frame)
  obtain ⟨O9,oc9,q9,_⟩:=HF10.out.open_
  simp only [List.length_singleton] at q9
  have f9:=HF10.out.frozen 9
  refine pD fun K hK=>?_;go_simp
  have HF11:=Lib.hid (HF10.out.setOp (O:=none) (m:=0) (c:=0) (op':=[]) (fun _=>⟨rfl,rfl,rfl⟩) (Sl.nil _ _))
  have B311:=B310.far (p:=⟨gf,9,none⟩) (by show g3≠gf;have:=hlt.1;omega) (.slice none 0 0)
  have B11:=B10.far (p:=⟨gf,9,none⟩) (by show g4≠gf;have:=hlt.1;omega) (.slice none 0 0)
  have hfr11:=hfr10.trans (Frm.grown (set_grown w10 gf 9 (.slice none 0 0)) (fun x hx=>by injection hx with hx;exact .inl hx.symm))
  refine hK.out _ _ B11 (wpBr_next (wpBr_fin ?_))
  clear hK K q9 f9 HF10 B310 B10 hfr10
  generalize w10.setCell ⟨gf,9,none⟩ (.slice none 0 0)=w11 at *
  go_upto_region 4 with fail
  have D1:=fun w' (h:Below w11.heap.size w11.drew w')=>And.intro (show w'.cell? ⟨gf,11,none⟩=some (.map (some gm)) from (HF11.out.ext ((Below.refl _ _).drew.trans h)).sums_) (show w'.cell? ⟨g4,0,none⟩=some (.int .i64 1) from ((B11.ext ((Below.refl _ _).drew.trans h)).cell 0).trans hb0)
  refine wp_region_tail (S:=fun w'=>Below w11.heap.size w11.drew w') [(0,true),(1,true),(2,true),(3,true),(4,true),(5,true),(6,true),(7,false)] [(8,false)] (by kernel_rfl) (by kernel_rfl) (Below.refl _ _) ?_
  iterate 6 (((with_reducible refine pG ?_);(first|refine pT ?_|refine pF ?_);try go_frame))
  refine wpPerm_on rfl rfl (wanted_free rfl) (fun w' hS=>exec_load_mid 190 (.tmp 4) rfl g4 0 rfl bc _ (Blk.whole (B11.ext ((Below.refl _ _).drew.trans hS))) Tryz.underlying190 rfl hsz) ?_
  go_frame
  clear D1
  have hd0:=(Below.refl w11.heap.size w11).drew
  have HF:=Lib.hid (hash_ (w:=w11.drew) (cs:=bc) (n:=1) (c:=1) (p:=h0) (r:=E) (show eBlk.rel w11.drew (fun _=>True) bc (((1:Nat):Int),h0,E,((1:Nat):Int)) from by rw [HBC.out];exact blkC_rel _ _ _ _ _ _ h0_len hE) (by omega) (by omega))
  refine pD fun K hK=>?_;go_simp
  refine HF.out.mono ?_
  rintro e w12 ⟨rfl,hb12⟩
  rw [HH.out]
  refine hK.out _ _ hb12 ?_
  clear hK K HF
  refine wpTail_done ?_
  have hb1112:=hd0.trans hb12
  have HF12:=Lib.hid (HF11.out.ext hb1112)
  have B312:=B311.ext hb1112
  have B12:=B11.ext hb1112
  have hfr12:=hfr11.trans (Frm.below hb1112)
  clear hb12 hd0 hb1112 HF11 B311 B11 hfr11
  refine wpPerm_do rfl (wanted_free rfl) (fun K hK=>?_)
  refine wp_put_d rfl (.tmp 47) (.tmp 49) (.tmp 51) 107 rfl 3 32 Tryz.underlying107 Tryz.underlying3 gm [] rfl HF12.out.mp 1 (.agg (cellsB H).toArray) rfl rfl rfl ?_
  intro w13 hm13 hg13
  have hgm4:gm≠g4:=by have:=hlt.2;omega
  have hgm3:gm≠g3:=by have:=hlt.2;omega
  have HF13:=Lib.hid (HF12.out.setMp hg13 hm13)
  have B313:=B312.grown hg13 (by intro e;injection e with e;exact hgm3 e.symm)
  have B13:=B12.grown hg13 (by intro e;injection e with e;exact hgm4 e.symm)
  have hfr13:=hfr12.trans (Frm.grown hg13 (fun x hx=>by injection hx with hx;exact .inr hx.symm))
  refine hK.out _ _ trivial (wpPerm_done ?_)
  clear hK K hm13 hg13 HF12 B312 B12 hfr12
  rw [List.nil_append] at HF13
  go_upto_region 5 with fail
  have D1:=fun w' (h:Below w13.heap.size w13.drew w')=>And.intro (show w'.cell? ⟨gf,11,none⟩=some (.map (some gm)) from (HF13.out.ext ((Below.refl _ _).drew.trans h)).sums_) (show w'.cell? ⟨g4,0,none⟩=some (.int .i64 1) from ((B13.ext ((Below.refl _ _).drew.trans h)).cell 0).trans hb0)
  refine wp_region_tail (S:=fun w'=>Below w13.heap.size w13.drew w') [(0,true),(1,true),(2,true),(3,true),(4,true),(5,true),(6,true),(8,true),(10,true),(11,true),(12,true),(7,false),(9,true)] [(13,false)] (by kernel_rfl) (by kernel_rfl) (Below.refl _ _) ?_
  iterate 7 (((with_reducible refine pG ?_);(first|refine pT ?_|refine pF ?_);try go_frame))
  refine wpPerm_on rfl rfl (wanted_free rfl) (fun w' hS=>exec_load_mid 32 (.tmp 3) rfl g3 0 rfl (cellsB H) _ (Blk.whole (B313.ext ((Below.refl _ _).drew.trans hS))) Tryz.underlying32 rfl hHs) ?_
  go_frame
  iterate 3 (((with_reducible refine pG ?_);(first|refine pT ?_|refine pF ?_);try go_frame))
  clear D1
  have hd0:=(Below.refl w13.heap.size w13).drew
  refine wpPerm_do rfl (wanted_free rfl) (fun K hK=>?_)
  refine wp_look_d 59 rfl (.tmp 56) (.tmp 58) 107 false rfl 3 32 Tryz.underlying107 Tryz.underlying3 (.agg (cellsB h0).toArray) zero32 gm [(1,.agg (cellsB H).toArray)] rfl (HF13.out.mp.ext hd0) 1 rfl (.agg (cellsB H).toArray) rfl ?_
  go_frame
  refine hK.out _ _ (Below.refl _ _) ?_
  clear hK K
  refine wpPerm_on rfl rfl (wanted_free rfl) (fun w' hS=>exec_eqh (.tmp 59) (.tmp 60) rfl H hHl rfl rfl) ?_
  go_frame
  refine wpTail_done ?_
  have HM:=Lib.hid (fun a b c d=>vmust_ (w:=w13.drew) (f:=.pointer (some ⟨gf,0,none⟩)) a b c d)
  refine pD fun K hK=>?_;go_simp
  refine (HM.out _ _ _ _).mono ?_
  rintro e w14 ⟨rfl,hb14⟩
  refine hK.out _ _ trivial (wpPerm_done ?_)
  have hb1314:=hd0.trans hb14
  have HE:=Lib.hid (And.intro (HF13.out.ext hb1314) (hfr13.trans (Frm.below hb1314)))
  clear hK K HM hb14 hd0 hb1314 HF13 B313 B13 hfr13
  go_wp2
  go_end0
  exact ⟨rfl,HE.out⟩
theorem vblock_ {w:World} {gf gm:Nat} {D:Blocks} {x:DBd} {nx:Int} {E H:List UInt8} (h:Fnd w gf gm D x nx [E] [] []) (hE:E.length=32) (hH:shaL (blkT 1 h0 E 1)=H) (hDw:∀ b,D b→b<w.heap.size) :
  Calls Tryz.prog 34 #[.pointer (some ⟨gf,0,none⟩),.int .i64 1,.agg (cellsB H).toArray] w fun e w'=>e=.returned (.tuple #[])∧Fnd w' gf gm D x nx [] [(1,h0,E,1)] [(1,.agg (cellsB H).toArray)]∧Frm (fun b=>b=gf∨b=gm) w w':=by
 have hHl:H.length=32:=by rw [←hH];exact shaL_len _
 have HF0:=Lib.hid h
 have HH:=Lib.hid hH
 have HDW:=Lib.hid hDw
 clear h hH hDw
 go_enter Tryz.func34,Tryz.ntmps34
 go_upto_region 1 with fail
 obtain ⟨W,hW_,hb1,B3⟩:=al1 w 32 ((cellsB H).toArray)
 rw [←hW_]
 clear hW_
 have hHs:=size32 H hHl
 have HF1:=Lib.hid (HF0.out.ext hb1)
 obtain ⟨O,oc,qo,_⟩:=HF1.out.open_
 simp only [List.length_singleton] at qo
 have qb:=HF1.out.nl.2 rfl
 have HF:=Lib.hid (vclose_ (H:=H) HF1.out hE HH.out (fun b hb=>Nat.lt_of_lt_of_le (HDW.out b hb) hb1.size))
 go_wp2_with ((with_reducible show wpList _ _ _ (Oper.mk (some 27) _ _ _ _ _::_) _ _);(refine wpList_load_mid rfl 32 _ rfl w.heap.size 0 rfl (cellsB H) _ (Blk.whole B3) Tryz.underlying32 rfl hHs ?_))
 refine HF.out.mono ?_
 rintro e w2 ⟨rfl,hF2,hfr⟩
 have HE:=Lib.hid (And.intro hF2 ((Frm.below hb1).trans hfr))
 clear qo qb HF hF2 hfr HF1 B3 hb1
 go_wp2
 go_end0
 exact ⟨rfl,HE.out⟩
theorem vdig0_ {w:World} {f:Value}:Calls Tryz.prog 35 #[f,.slice none 0 0] w fun e w'=>e=.returned (.tuple #[])∧w=w':=by
 go_enter Tryz.func35,Tryz.ntmps35
 go_wp2_with fail
 refine wp_loop_rounds 1 ?_
 rw [rounds_succ]
 go_wp2
 go_end0
 exact ⟨rfl,rfl⟩
theorem vdig1_ {w:World} {gf gm b off c:Nat} {D:Blocks} {x:DBd} {nx:Int} {op:List (List UInt8)} {bl:List BlkD} {H:List UInt8} (h:Fnd w gf gm D x nx op bl [(1,.agg (cellsB H).toArray)]) (hH:H.length=32) (hr:w.rangeAt b off (digC 1 H)) (hbl:b<w.heap.size) :
  Calls Tryz.prog 35 #[.pointer (some ⟨gf,0,none⟩),.slice (some ⟨b,off,none⟩) 1 c] w fun e w'=>e=.returned (.tuple #[])∧Below w.heap.size w w':=by
 have HF0:=Lib.hid h
 have HL:=Lib.hid hH
 have hdl:=digC_len 1 H hH
 have hds:=size_dig 1 H hH
 have hdo:=digC_one 1 H
 have hd0:(digC 1 H).toArray[0]? = some (.int .i64 1):=rfl
 have hdd:((digC 1 H).drop 1).take 32=cellsB H:=by show (cellsB H).take 32=cellsB H;exact List.take_of_length_le (by rw [lenB,hH];omega)
 obtain ⟨dc,hdc⟩:∃ d,d=digC 1 H:=⟨_,rfl⟩
 rw [←hdc] at hdl hds hdo hd0 hdd hr
 have HDD:=Lib.hid hdd
 have HR:=Lib.hid hr
 have hHs:=size32 H hH
 clear h hdc hdd hr
 go_enter Tryz.func35,Tryz.ntmps35
 go_wp2_with fail
 refine wp_loop_rounds 2 ?_
 rw [rounds_succ]
 have hz:=zero_dig
 obtain ⟨Wq,hWq⟩:∃ W',W'=w.alloc (.cells (digC 0 h0).toArray 34):=⟨_,rfl⟩
 have hbq:Below w.heap.size w Wq:=by rw [hWq];exact (Below.refl _ _).alloc (Nat.le_refl _) _
 have BQ0:Blk Wq w.heap.size 34 (digC 0 h0).toArray:=by rw [hWq];exact Blk.new _ _ _
 have hthq:=Blk.there (o:=0) (n:=33) BQ0 (by rw [digC_len _ _ h0_len];omega)
 obtain ⟨BQ,hgq⟩:=Blk.lay dc 0 BQ0 (by rw [hdl,digC_len _ _ h0_len];omega)
 rw [laid_all _ _ (by rw [hdl,digC_len _ _ h0_len])] at BQ
 have hbw1:=hbq.grown hgq hbq.size (fun k hk=>by injection hk with hk;omega)
 have HWq:=Lib.hid hWq
 clear hWq
 go_upto_region 3 with (first|((with_reducible show wpList _ _ _ (Oper.mk (some 13) _ _ _ _ _::_) _ _);(refine wpList_load_mid rfl 34 _ rfl b off rfl dc _ HR.out Tryz.underlying34 rfl hds ?_))|((with_reducible show wpList _ _ _ (Oper.mk none (Op.store _ (Operand.tmp 5) _) _ _ _ _::_) _ _);(rw [←HWq.out]);(refine wpList_store_mid rfl 34 _ _ rfl w.heap.size 0 dc.toArray rfl rfl ?h1 ?h2 (all_oneCell_toArray hdo) ?_)))
 case h1=>exact (show dc.toArray.size=33 by simp [hdl]) ▸ hthq
 case h2=>exact (show dc.toArray.size=dc.length by simp) ▸ hds
 obtain ⟨g5,hg5⟩:∃ g,w.heap.size=g:=⟨_,rfl⟩
 have HF1:=Lib.hid (HF0.out.ext hbw1)
 have hbw1':=hbw1
 rw [hg5] at BQ HF1 ⊢
 rw [hg5] at hbw1
 have HBW:=Lib.hid (show Below g5 w _ from hbw1)
 have HG5:=Lib.hid hg5
 clear hthq hgq hbq BQ0 hbw1 hbw1' hg5 hz
 generalize Wq.setCells g5 0 dc=w1 at *
 clear HWq
 have hz32:=zero32
 have D1:=fun w' (h:Below w1.heap.size w1.drew w')=>And.intro (show w'.cell? ⟨gf,11,none⟩=some (.map (some gm)) from (HF1.out.ext ((Below.refl _ _).drew.trans h)).sums_) (show w'.cell? ⟨g5,0,none⟩=some (.int .i64 1) from ((BQ.ext ((Below.refl _ _).drew.trans h)).cell 0).trans hd0)
 refine wp_region_mix1 ⟨10,6,fun g=>.pointer (some ⟨g,0,none⟩),.cells (cellsB h0).toArray 32⟩ [(0,true),(1,true),(2,true),(3,true),(4,true),(5,true)] [(6,false),(7,true),(8,true),(9,true)] [(11,false),(12,true)] (by kernel_rfl) (by kernel_rfl) ?_
 repeat ((with_reducible refine iG ?_);(first|refine iT ?_|refine iF ?_);try go_frame)
 refine wpI_done ⟨?_,?_⟩
 ·intro y hy
  simp only [List.mem_cons,List.not_mem_nil,or_false] at hy
  subst hy
  exact ⟨_,rfl,rfl,wanted_free rfl,fun w=>by go_simp⟩
 clear D1 hz32
 refine wpI_do rfl (wanted_free rfl) (fun wI hI hSI K hK=>?_)
 have hbI:=(Below.refl w1.heap.size w1).drew.trans hI
 refine wp_look_d 21 rfl (.tmp 18) (.tmp 20) 107 true rfl 3 32 Tryz.underlying107 Tryz.underlying3 (.agg (cellsB h0).toArray) zero32 gm [(1,.agg (cellsB H).toArray)] rfl (HF1.out.mp.ext hbI) 1 rfl (.tuple #[.agg (cellsB H).toArray,.bool true]) rfl ?_
 go_frame
 refine hK.out _ _ (Below.refl _ _) ?_
 clear hK K hI hSI hbI
 repeat ((with_reducible refine iG ?_);(first|refine iT ?_|refine iF ?_);try go_frame)
 refine wpI_done ?_
 intro g6 wf he hb hlo1 hhi1 hat1
 try simp only [List.setIfInBounds_toArray,List.set_cons_zero,List.set_cons_succ]
 have B6:Blk wf g6 32 (cellsB h0).toArray:=hat1
 clear hat1 he
 have hth:=Blk.there (o:=0) (n:=32) B6 (by rw [lenB,h0_len];omega)
 refine wpPerm_do rfl (wanted_free rfl) (fun K hK=>?_)
 refine wp_store_wide 32 (.tmp 6) (.tmp 22) rfl rfl g6 0 (cellsB H) rfl rfl (by rw [lenB,HL.out];exact hth) hHs (oneB _) ?_
 obtain ⟨B7,hg7⟩:=Blk.lay (cellsB H) 0 B6 (by rw [lenB,lenB,HL.out,h0_len];omega)
 rw [laid_all _ _ (by rw [lenB,lenB,HL.out,h0_len])] at B7
 have hwf:w1.heap.size≤wf.heap.size:=hb.size
 have hb7:=hb.grown hg7 hwf (fun k hk=>by injection hk with hk;omega)
 refine hK.out _ _ hb7 ?_
 clear hK K hth B6 hb
 have hb17:=(Below.refl w1.heap.size w1).drew.trans hb7
 have BQ7:=BQ.ext hb17
 have HBW7:=Lib.hid (HBW.out.trans (Below.mono hb17 (Nat.le_of_lt BQ.lt)))
 clear hb7 hb17 hg7 HF1 BQ HBW hwf hhi1 hlo1
 generalize wf.setCells g6 0 (cellsB H)=w7 at *
 ((with_reducible refine pG ?_);(first|refine pT ?_|refine pF ?_);try go_frame)
 refine wpPerm_done ?_
 have D1:=fun w' (h:Below w7.heap.size w7.drew w')=>(show w'.cell? ⟨g5,0,none⟩=some (.int .i64 1) from ((BQ7.ext ((Below.refl _ _).drew.trans h)).cell 0).trans hd0)
 go_upto_region 4 with fail
 refine wp_region_tail (S:=fun w'=>Below w7.heap.size w7.drew w') [(0,true),(1,true),(2,true),(3,true),(4,true),(5,true),(6,true),(7,true),(8,true),(9,true),(10,true)] [(11,false)] (by kernel_rfl) (by kernel_rfl) (Below.refl _ _) ?_
 iterate 3 (((with_reducible refine pG ?_);(first|refine pT ?_|refine pF ?_);try go_frame))
 refine wpPerm_on rfl rfl (wanted_yes rfl rfl rfl) (fun w' hS=>exec_load_mid 32 (.tmp 6) rfl g6 0 rfl (cellsB H) _ (Blk.whole (B7.ext ((Below.refl _ _).drew.trans hS))) Tryz.underlying32 rfl hHs) ?_
 go_frame
 ((with_reducible refine pG ?_);(first|refine pT ?_|refine pF ?_);try go_frame)
 refine wpPerm_on rfl rfl (wanted_yes rfl rfl rfl) (fun w' hS=>exec_load_mid 32 (.tmp 28) rfl g5 1 rfl (cellsB H) _ (Blk.range (BQ7.ext ((Below.refl _ _).drew.trans hS)) (by rw [lenB,HL.out];exact HDD.out)) Tryz.underlying32 rfl hHs) ?_
 go_frame
 refine wpPerm_on rfl rfl (wanted_yes rfl rfl rfl) (fun w' hS=>exec_eqh (.tmp 27) (.tmp 29) rfl H HL.out rfl rfl) ?_
 go_frame
 repeat ((with_reducible refine pG ?_);(first|refine pT ?_|refine pF ?_);try go_frame)
 refine wpTail_done ?_
 clear D1
 have HM:=Lib.hid (fun a b c d=>vmust_ (w:=w7.drew) (f:=.pointer (some ⟨gf,0,none⟩)) a b c d)
 have hd0':=(Below.refl w7.heap.size w7).drew
 refine pD fun K hK=>?_;go_simp
 refine (HM.out _ _ _ _).mono ?_
 rintro e w8 ⟨rfl,hb8⟩
 refine hK.out _ _ trivial (wpPerm_done ?_)
 have hb78:=hd0'.trans hb8
 have HE:=Lib.hid (HBW7.out.trans (Below.mono hb78 (Nat.le_of_lt BQ7.lt)))
 clear hK K HM hb8 hd0' hb78 HBW7 BQ7 B7
 go_wp2
 rw [rounds_succ]
 go_wp2
 go_end0
 exact ⟨rfl,by rw [HG5.out];exact HE.out⟩
theorem shape_fnd:shapeOf Tryz.prog 117=some ([.int .u32 0,.int .i32 0,.int .u32 0,.slice none 0 0,.slice none 0 0,.slice none 0 0,.slice none 0 0,.slice none 0 0,.int .i64 0,.slice none 0 0,.slice none 0 0,.map none],[(0,3),(3,1),(4,4),(8,1),(9,1),(10,1),(11,1)]):=by kernel_rfl
theorem fill_fnd (g:Nat):fillL [(0,3),(3,1),(4,4),(8,1),(9,1),(10,1),(11,1)] [.int .u32 0,.int .i32 0,.int .u32 0,.slice none 0 0,.slice none 0 0,.slice none 0 0,.slice none 0 0,.slice none 0 0,.int .i64 0,.slice none 0 0,.slice none 0 0,.map none] [(6,.map (some g))]=some (fndC none none none none 0 0 0 0 0 0 0 0 0 none 0 0 none 0 0 g).toList:=rfl
theorem fnd_new (w W:World) (h:W=(((w.alloc (.map #[] 0)).alloc (.cells (fndC none none none none 0 0 0 0 0 0 0 0 0 none 0 0 none 0 0 w.heap.size) 117)).alloc (.cells #[.pointer (some ⟨w.heap.size+1,0,none⟩)] 106))) :
  Fnd W (w.heap.size+1) w.heap.size (fun _=>False) db0 0 [] [] []∧Blk W (w.heap.size+2) 106 #[.pointer (some ⟨w.heap.size+1,0,none⟩)]∧Below w.heap.size w W:=by
 obtain ⟨w1,h1⟩:∃ z,z=w.alloc (.map #[] 0):=⟨_,rfl⟩
 obtain ⟨w2,h2⟩:∃ z,z=w1.alloc (.cells (fndC none none none none 0 0 0 0 0 0 0 0 0 none 0 0 none 0 0 w.heap.size) 117):=⟨_,rfl⟩
 rw [←h1,←h2] at h
 have s1:w1.heap.size=w.heap.size+1:=by rw [h1];simp
 have s2:w2.heap.size=w.heap.size+2:=by rw [h2];simp [s1]
 have m1:MapI w1 w.heap.size []:=by rw [h1];exact MapI.new w
 have b01:Below w.heap.size w w1:=by rw [h1];exact (Below.refl _ _).alloc (Nat.le_refl _) _
 have b12:Below w1.heap.size w1 w2:=by rw [h2];exact (Below.refl _ _).alloc (Nat.le_refl _) _
 have b23:Below w2.heap.size w2 W:=by rw [h];exact (Below.refl _ _).alloc (Nat.le_refl _) _
 have B2:Blk w2 (w.heap.size+1) 117 (fndC none none none none 0 0 0 0 0 0 0 0 0 none 0 0 none 0 0 w.heap.size):=by rw [h2];exact blk_new_at _ _ _ _ s1
 have B3:Blk W (w.heap.size+2) 106 #[.pointer (some ⟨w.heap.size+1,0,none⟩)]:=by rw [h];exact blk_new_at _ _ _ _ s2
 have B2W:=B2.ext b23
 refine ⟨⟨⟨none,none,none,none,0,0,0,0,0,0,0,0,none,0,0,none,0,0,B2W,eDB_mk (Sl.nil _ _) (Sl.nil _ _) (Sl.nil _ _) (Sl.nil _ _),Sl.nil _ _,Sl.nil _ _⟩,(m1.ext b12).ext b23,by omega,fun _=>B2W.cell 9,fun _=>B2W.cell 10⟩,B3,(b01.trans (Below.mono b12 (by omega))).trans (Below.mono b23 (by omega))⟩
theorem clone0_ {w:World}:Calls Tryz.prog 36 #[.slice none 0 0] w fun e w'=>e=.returned (.slice none 0 0)∧w=w':=by
 go_enter Tryz.func36,Tryz.ntmps36
 have heq:=fun W=>Lib.run_eql_slice_nil (P:=Tryz.prog) W 45 122 none 0 0 0 0 Tryz.underlying45
 go_wp2
 go_ret
 exact ⟨rfl,rfl⟩
theorem verify0_ {w:World} {d gs gn np:Nat} {l:List UInt8} {ws:Value} (h:Dk w d gs gn np l ws) (hl:Logd l np []) :
  Calls Tryz.prog 10 #[.pointer (some ⟨d,0,none⟩),.slice none 0 0] w fun e w'=>e=.returned (.slice none 0 0)∧Below w.heap.size w w':=by
 have HD0:=Lib.hid h
 have HL0:=Lib.hid hl
 clear h hl
 go_enter Tryz.func10,Tryz.ntmps10
 have hmm:=@run_makeMap Tryz.prog
 go_wp2_with fail
 refine wp_scope_straight ?_
 have hbq:∀ g,Tryz.prog.built 117 [(6,.map (some g))]=some (fndC none none none none 0 0 0 0 0 0 0 0 0 none 0 0 none 0 0 g):=fun g=>by rw [built_of shape_fnd (fill_fnd g)]
 go_upto_region 2 with (first|((with_reducible show wpList _ _ _ (Oper.mk (some 12) _ _ _ _ _::_) _ _);(refine wpList_build rfl _ _ rfl (by simp) ?_);go_frame;simp only [List.map_cons,List.map_nil,hbq,Option.getD_some]))
 obtain ⟨W,hW⟩:∃ z,z=(((w.alloc (.map #[] 0)).alloc (.cells #[.int .u32 0,.int .i32 0,.int .u32 0,.slice none 0 0,.slice none 0 0,.slice none 0 0,.slice none 0 0,.slice none 0 0,.int .i64 0,.slice none 0 0,.slice none 0 0,.map (some w.heap.size)] 117)).alloc (.cells #[.pointer (some ⟨w.heap.size+1,0,none⟩)] 106)):=⟨_,rfl⟩
 rw [←hW]
 have HFN:=Lib.hid (fnd_new w W hW)
 clear hW hmm hbq
 have HS:=Lib.hid (scan_ (HD0.out.ext HFN.out.2.2) HL0.out)
 clear HD0 HL0
 have HM:=Lib.hid (fun (w':World) a b c d=>vmust_ (w:=w') (f:=.pointer (some ⟨w.heap.size+1,0,none⟩)) a b c d)
 go_wp2_with fail
 refine HS.out.mono ?_
 rintro e w1 ⟨A,c,rfl,hr,hb1⟩
 clear HS
 have HF1:=Lib.hid (HFN.out.1.ext hb1)
 have HP1:=HFN.out.2.1.ext hb1
 have HB1:=Lib.hid (HFN.out.2.2.trans (Below.mono hb1 HFN.out.2.2.size))
 have q1:=HP1.cell 0
 have hlt:=HP1.lt
 clear hr hb1 HFN HP1
 go_wp2_with fail
 refine (HM.out _ _ _ _ _).mono ?_
 rintro e w2 ⟨rfl,hb2⟩
 have HF2:=Lib.hid (HF1.out.ext hb2)
 have HB2:=Lib.hid (HB1.out.trans (Below.mono hb2 HB1.out.size))
 have q2:=(hb2.cell (p:=⟨w.heap.size+2,0,none⟩) hlt).trans q1
 clear hb2 HF1 HB1 HM q1 hlt
 go_wp2_with fail
 try refine wp_label ?_
 go_wp2_with fail
 have HV:=Lib.hid (fun (w':World)=>vdig0_ (w:=w') (f:=.pointer (some ⟨w.heap.size+1,0,none⟩)))
 have q3:w2.cell? ⟨w.heap.size+1,3,none⟩=some (.slice none 0 0):=by
  obtain ⟨_,_,_,_,_,_,_,_,_,_,_,_,_,_,_,_,_,_,h1,_⟩:=HF2.out.st
  exact h1.cell 3
 clear HF2
 refine wp_loop_rounds 1 ?_
 rw [rounds_succ]
 go_wp2_with fail
 refine (HV.out _).mono ?_
 rintro e w3 ⟨rfl,rfl⟩
 clear HV
 go_wp2_with fail
 refine clone0_.mono ?_
 rintro e w3 ⟨rfl,rfl⟩
 go_wp2
 unfold Exit.noGoto
 go_ret
 exact ⟨rfl,HB2.out⟩
theorem Fnd.bound {w:World} {gf gm:Nat} {D:Blocks} {x:DBd} {nx:Int} {op:List (List UInt8)} {bl:List BlkD} {M:List (Int × Value)} (h:Fnd w gf gm D x nx op bl M):Fnd w gf gm (fun b=>D b∧b<w.heap.size) x nx op bl M:=by
 obtain ⟨A1,A2,A3,A4,n1,c1,n2,c2,n3,c3,n4,c4,O,m,c,B,k,d,h1,h2,h3,h4⟩:=h.st
 exact ⟨⟨A1,A2,A3,A4,n1,c1,n2,c2,n3,c3,n4,c4,O,m,c,B,k,d,h1,eDB.mono (bnd_db h2) (fun b hb=>⟨⟨hb.1.1,hb.2⟩,hb.1.2⟩),h3,h4⟩,h.mp,h.ne,h.nl⟩
theorem Recs.some_ {w:World} {F:Blocks} {A:Option Addr} {n c:Nat} {rs:List (List UInt8)} (h:Recs w F A n c rs) (hn:0<n):∃ b off,A=some ⟨b,off,none⟩∧n≤c∧F b∧b<w.heap.size:=by
 obtain ⟨hs,hr,hl,hl2,_⟩:=h
 rcases hr with ⟨_,h0,_⟩|⟨_,_,h0,_⟩|⟨b,off,e,hnc,hF,hb,_⟩
 ·omega
 ·omega
 ·exact ⟨b,off,e,hnc,hF,hb⟩
theorem verify3_ {w:World} {d gs gn np N b off c:Nat} {l:List UInt8} {ws:Value} (h:Dk w d gs gn np l ws) (hl:Logd l np [tabB schX,txB 0 (chX N),blkB 1 (H1 0 (chX N))])
  (hr:w.rangeAt b off (digC 1 (H1 0 (chX N)))) (hbl:b<w.heap.size) (hok:OkC (chX N)) (hN:N<9223372036854775808) (hput:tb.putL SX.cols SX.key [] (rX N)=(0,[rX N])) :
  Calls Tryz.prog 10 #[.pointer (some ⟨d,0,none⟩),.slice (some ⟨b,off,none⟩) 1 c] w fun e w'=>e=.returned (.slice none 0 0)∧Below w.heap.size w w':=by
 have HD0:=Lib.hid h
 have HL0:=Lib.hid hl
 have HRG:=Lib.hid hr
 have HOK:=Lib.hid hok
 have HPT:=Lib.hid hput
 clear h hl hr hok hput
 go_enter Tryz.func10,Tryz.ntmps10
 have hmm:=@run_makeMap Tryz.prog
 go_wp2_with fail
 refine wp_scope_straight ?_
 have hbq:∀ g,Tryz.prog.built 117 [(6,.map (some g))]=some (fndC none none none none 0 0 0 0 0 0 0 0 0 none 0 0 none 0 0 g):=fun g=>by rw [built_of shape_fnd (fill_fnd g)]
 go_upto_region 2 with (first|((with_reducible show wpList _ _ _ (Oper.mk (some 12) _ _ _ _ _::_) _ _);(refine wpList_build rfl _ _ rfl (by simp) ?_);go_frame;simp only [List.map_cons,List.map_nil,hbq,Option.getD_some]))
 obtain ⟨W,hW⟩:∃ z,z=(((w.alloc (.map #[] 0)).alloc (.cells #[.int .u32 0,.int .i32 0,.int .u32 0,.slice none 0 0,.slice none 0 0,.slice none 0 0,.slice none 0 0,.slice none 0 0,.int .i64 0,.slice none 0 0,.slice none 0 0,.map (some w.heap.size)] 117)).alloc (.cells #[.pointer (some ⟨w.heap.size+1,0,none⟩)] 106)):=⟨_,rfl⟩
 rw [←hW]
 have HFN:=Lib.hid (fnd_new w W hW)
 clear hW hmm hbq
 obtain ⟨gm,hgm⟩:∃ g,w.heap.size=g:=⟨_,rfl⟩
 obtain ⟨gf,hgf⟩:∃ g,w.heap.size+1=g:=⟨_,rfl⟩
 obtain ⟨gp,hgp⟩:∃ g,w.heap.size+2=g:=⟨_,rfl⟩
 have hBe:=HFN.out.2.2
 have hFn0:=HFN.out.1
 have hBp:=HFN.out.2.1
 have hgmw:w.heap.size≤gm:=by omega
 have hgfw:w.heap.size≤gf:=by omega
 have hgpf:gp≠gf:=by omega
 have hgpm:gp≠gm:=by omega
 have hgfm:gf≠gm:=by omega
 rw [hgf,hgm] at hFn0
 rw [hgf,hgp] at hBp
 rw [show w.heap.size+1+1=gp from hgp]
 rw [hgf]
 have hpl:gp<W.heap.size:=hBp.lt
 have hfl:gf<W.heap.size:=hFn0.lt.1
 have hml:gm<W.heap.size:=hFn0.lt.2
 clear HFN hgm hgf hgp
 have HS:=Lib.hid (scan_ (HD0.out.ext hBe) HL0.out)
 clear HD0 HL0
 go_wp2_with fail
 refine HS.out.mono ?_
 rintro e w1 ⟨A,c1,rfl,hr,hb1⟩
 obtain ⟨F1,hF1⟩:∃ F:Blocks,F=fun x=>W.heap.size≤x∧x<w1.heap.size:=⟨_,rfl⟩
 obtain ⟨rb,ro,rfl,_,hrb,hrbl⟩:=hr.some_ (by simp)
 have HR1:=Lib.hid (show Recs w1 F1 (some ⟨rb,ro,none⟩) 3 c1 [tabB schX,txB 0 (chX N),blkB 1 (H1 0 (chX N))] from hF1 ▸ hr.bound)
 have HW1:=Lib.hid hF1
 have HF1:=Lib.hid (hFn0.ext hb1)
 have HP1:=hBp.ext hb1
 have HB1:=hBe.trans (Below.mono hb1 hBe.size)
 have hsW1:W.heap.size≤w1.heap.size:=hb1.size
 clear HS hr hb1 hF1 hFn0 hBp hBe
 have q1:=HP1.cell 0
 have HM:=Lib.hid (fun (w':World) a b c d=>vmust_ (w:=w') (f:=.pointer (some ⟨gf,0,none⟩)) a b c d)
 go_wp2_with fail
 refine (HM.out _ _ _ _ _).mono ?_
 rintro e w2 ⟨rfl,hb2⟩
 have HF2:=Lib.hid (HF1.out.ext hb2)
 have HR2:=Lib.hid (HR1.out.ext hb2)
 have HP2:=HP1.ext hb2
 have HB2:=HB1.trans (Below.mono hb2 HB1.size)
 have hsW2:w1.heap.size≤w2.heap.size:=hb2.size
 clear hb2 HF1 HR1 HP1 HB1 HM q1
 go_wp2_with fail
 try refine wp_label ?_
 go_wp2_with fail
 refine wp_loop_rounds 4 ?_
 rw [rounds_succ]
 obtain ⟨A0,k0,q0,hy0⟩:=HR2.out.at_ (show [tabB schX,txB 0 (chX N),blkB 1 (H1 0 (chX N))][0]? = some (tabB schX) from rfl)
 rw [Nat.add_zero] at q0
 have HY0:=Lib.hid hy0
 clear hy0
 go_upto_region 7 with fail
 clear q0
 obtain ⟨Wa,hW_,hba,BK⟩:=al1 w2 3 #[.int .i64 0]
 rw [←hW_]
 clear hW_
 obtain ⟨gk,hgk⟩:∃ g,w2.heap.size=g:=⟨_,rfl⟩
 have hgk2:w2.heap.size≤gk:=by omega
 rw [hgk] at BK ⊢
 clear hgk
 have HF:=Lib.hid (vread1_ (HY0.out.ext hba))
 go_wp2_with fail
 refine HF.out.mono ?_
 rintro e w3 ⟨As,cs,rfl,hSs,hb3⟩
 have BK3:=BK.ext hb3
 have hb23:=hba.trans (Below.mono hb3 hba.size)
 have HP3:=HP2.ext hb23
 have HF3:=Lib.hid (HF2.out.ext hb23)
 have HR3:=Lib.hid (HR2.out.ext hb23)
 have HB3:=HB2.trans (Below.mono hb23 HB2.size)
 have hs3:w2.heap.size≤w3.heap.size:=hb23.size
 have HS3:=Lib.hid hSs
 clear HF hba hb3 BK hb23 HP2 HF2 HR2 HB2 HY0 hSs
 obtain ⟨rc,hrc⟩:∃ x,x=recC false 1 [.string ⟨#[120]⟩,.slice As 1 cs,.int .i64 0,.bool false] ⟨#[]⟩ tr0 0 h0:=⟨_,rfl⟩
 have hrl:rc.length=108:=by rw [hrc];exact recC_len _ _ _ _ _ _ _ rfl tr0_len h0_len
 have hro:∀ u∈rc,u.oneCell'=true:=by rw [hrc];exact recC_one _ _ _ _ _ _ _ (oneSl _ _ _ _ rfl rfl rfl rfl) tr0_one
 have hrs:(Tryz.prog.info? 129).map (·.size)=some rc.length:=by rw [hrc];exact recC_size _ _ _ _ _ _ _ rfl tr0_len h0_len
 have r0:rc.toArray[0]? = some (.bool false):=by rw [hrc];rfl
 have r1:rc.toArray[1]? = some (.int .i64 1):=by rw [hrc];rfl
 have r2:rc.toArray[2]? = some (.string ⟨#[120]⟩):=by rw [hrc];rfl
 have r3:rc.toArray[3]? = some (.slice As 1 cs):=by rw [hrc];rfl
 have r4:rc.toArray[4]? = some (.int .i64 0):=by rw [hrc];rfl
 have r5:rc.toArray[5]? = some (.bool false):=by rw [hrc];rfl
 rw [←hrc]
 clear hrc
 obtain ⟨Wq,hWq⟩:∃ W',W'=w3.alloc (.cells (recC false 0 sch0 ⟨#[]⟩ tr0 0 h0).toArray 129):=⟨_,rfl⟩
 have hbq:Below w3.heap.size w3 Wq:=by rw [hWq];exact (Below.refl _ _).alloc (Nat.le_refl _) _
 have BQ0:Blk Wq w3.heap.size 129 (recC false 0 sch0 ⟨#[]⟩ tr0 0 h0).toArray:=by rw [hWq];exact Blk.new _ _ _
 have hthq:=Blk.there (o:=0) (n:=108) BQ0 (by rw [recC_len _ _ _ _ _ _ _ rfl tr0_len h0_len];omega)
 obtain ⟨BQ,hgq⟩:=Blk.lay rc 0 BQ0 (by rw [hrl,recC_len _ _ _ _ _ _ _ rfl tr0_len h0_len];omega)
 rw [laid_all _ _ (by rw [hrl,recC_len _ _ _ _ _ _ _ rfl tr0_len h0_len])] at BQ
 have hbq5:=hbq.grown hgq hbq.size (fun k hk=>by injection hk with hk;omega)
 have HWq:=Lib.hid hWq
 have hz:=zero_rec
 clear hWq
 go_upto_region 9 with ((with_reducible show wpList _ _ _ (Oper.mk none (Op.store _ (Operand.tmp 10) _) _ _ _ _::_) _ _);(rw [←HWq.out]);(refine wpList_store_mid rfl 129 _ _ rfl w3.heap.size 0 rc.toArray rfl rfl ?h1 ?h2 (all_oneCell_toArray hro) ?_))
 case h1=>exact (show rc.toArray.size=108 by simp [hrl]) ▸ hthq
 case h2=>exact (show rc.toArray.size=rc.length by simp) ▸ hrs
 clear hthq hgq hbq BQ0 hz
 obtain ⟨g10,hg10⟩:∃ g,w3.heap.size=g:=⟨_,rfl⟩
 have hg10w:w2.heap.size≤g10:=by omega
 have BK4:=BK3.ext hbq5
 have HP4:=HP3.ext hbq5
 have HF4:=Lib.hid (HF3.out.ext hbq5)
 have HR4:=Lib.hid (HR3.out.ext hbq5)
 have HS4:=Lib.hid (HS3.out.ext hbq5)
 have HB4:=HB3.trans (Below.mono hbq5 HB3.size)
 have hs4:w2.heap.size≤(Wq.setCells w3.heap.size 0 rc).heap.size:=Nat.le_trans hs3 hbq5.size
 rw [hg10] at BQ BK4 HP4 HF4 HR4 HS4 HB4 hs4 ⊢
 clear hg10 BK3 HP3 HF3 HR3 HS3 HB3 hbq5 hs3
 generalize Wq.setCells g10 0 rc=w4 at *
 clear HWq
 have q0:=(BQ.cell 0).trans r0
 have q1:=(BQ.cell 1).trans r1
 have q2:=(BQ.cell 2).trans r2
 have q3:=(BQ.cell 3).trans r3
 have q4:=(BQ.cell 4).trans r4
 have q5:=(BQ.cell 5).trans r5
 have qp:=HP4.cell 0
 have qk:=BK4.cell 0
 have HF:=Lib.hid (vmadeO_ (kk:=0) HF4.out HS4.out)
 go_wp2_with fail
 refine HF.out.mono ?_
 rintro e w5 ⟨rfl,hF5,hfr5,At,ct,ht5,hth5⟩
 clear HF q0 q1 q2 q3 q4 q5 qp qk r0 r1 r2 r3 r4 r5 hrl hro hrs BQ BK4 HF4 HS4
 have hF1k:∀ k,F1 k→W.heap.size≤k∧k<w1.heap.size:=by rw [HW1.out];exact fun k h=>h
 have HP5:=hfr5.blk HP4 (fun h=>h.elim hgpf hgpm)
 have HB5:=HB4.trans (hfr5.to_below HB4.size (fun k hk h=>by rcases h with h|h <;> omega))
 have HR5:=Lib.hid (HR4.out.keep (hfr5.keep (fun k hk _ h=>by have:=hF1k k hk;rcases h with h|h <;> omega)))
 have hs5:w4.heap.size≤w5.heap.size:=hfr5.size
 obtain ⟨D5,hD5⟩:∃ D:Blocks,D=fun x=>w4.heap.size≤x∧x<w5.heap.size:=⟨_,rfl⟩
 have hDk:∀ k,D5 k→w4.heap.size≤k∧k<w5.heap.size:=by rw [hD5];exact fun k h=>h
 have HT5:Hid (∃ A c,w5.cell? ⟨gf,4,none⟩=some (.slice A 1 c)∧TH w5 D5 A):=Lib.hid (by
  obtain ⟨tb,e,hlo,hth,hlt⟩:=hth5
  exact ⟨At,ct,ht5,tb,e,by rw [hD5];exact ⟨hlo,hlt⟩,hth,hlt⟩)
 have HF5:=Lib.hid (show Fnd w5 gf gm D5 dbX ((0:Nat):Int) [] [] [] from hD5 ▸ hF5)
 clear hF5 hfr5 HR4 HP4 HB4 hth5 ht5 hD5
 go_wp2_with fail
 rw [rounds_succ]
 obtain ⟨A0,k0,q0,hy0⟩:=HR5.out.at_ (show [tabB schX,txB 0 (chX N),blkB 1 (H1 0 (chX N))][1]? = some (txB 0 (chX N)) from rfl)
 have HY0:=Lib.hid hy0
 clear hy0
 go_upto_region 7 with fail
 clear q0
 obtain ⟨Wa,hW_,hba,BK⟩:=al1 w5 3 #[.int .i64 1]
 rw [←hW_]
 clear hW_
 obtain ⟨gk,hgk⟩:∃ g,w5.heap.size=g:=⟨_,rfl⟩
 rw [hgk] at BK ⊢
 clear hgk
 have HF:=Lib.hid (show Calls Tryz.prog 27 #[.slice A0 (txB 0 (chX N)).length k0] Wa fun e w'=>∃ A' c' B d,e=.returned (.agg (recC false 3 sch0 ⟨#[]⟩ (trC ((0:Nat):Int) (.slice A' 1 c') (.slice B 1 d) (rowH 0 0 (chX N)) false h0) 0 h0).toArray)∧Sl eChg w' (fun b=>Wa.heap.size≤b) A' 1 c' [chX N]∧Sl eHash w' (fun b=>Wa.heap.size≤b) B 1 d [rowH 0 0 (chX N)]∧Below Wa.heap.size Wa w' from vread3_ (id:=0) (nm:=[120]) (HY0.out.ext hba) (by decide) hN (by decide))
 go_wp2_with fail
 refine HF.out.mono ?_
 rintro e w6 ⟨Ac,cc,Bc,dc,rfl,hSc,hSh,hb6⟩
 have hb56:=hba.trans (Below.mono hb6 hba.size)
 have HP6:=HP5.ext hb56
 have HF6:=Lib.hid (HF5.out.ext hb56)
 have HR6:=Lib.hid (HR5.out.ext hb56)
 have HB6:=HB5.trans (Below.mono hb56 HB5.size)
 have hsa:w5.heap.size≤Wa.heap.size:=hba.size
 have hs6:Wa.heap.size≤w6.heap.size:=hb6.size
 have HT6:Hid (∃ A c,w6.cell? ⟨gf,4,none⟩=some (.slice A 1 c)∧TH w6 D5 A):=Lib.hid (by
  obtain ⟨A,c,h1,h2⟩:=HT5.out
  exact ⟨A,c,(hb56.cell (p:=⟨gf,4,none⟩) HF5.out.lt.1).trans h1,h2.ext hb56⟩)
 have HC6:=Lib.hid hSc
 have HH6:=Lib.hid hSh
 clear HF hba hb6 BK hb56 HP5 HF5 HR5 HB5 HY0 hSc hSh HT5
 have hRl:(rowH 0 0 (chX N)).length=32:=shaL_len _
 obtain ⟨tc,htc⟩:∃ x,x=trC ((0:Nat):Int) (.slice Ac 1 cc) (.slice Bc 1 dc) (rowH 0 0 (chX N)) false h0:=⟨_,rfl⟩
 have htl:tc.length=68:=by rw [htc];exact trC_len _ _ _ _ _ _ hRl h0_len
 have hto:∀ u∈tc,u.oneCell'=true:=by rw [htc];exact trC_one _ _ _ _ _ _ rfl rfl
 have hts:(Tryz.prog.info? 127).map (·.size)=some tc.length:=by rw [htc];exact size_tr _ _ _ _ _ _ hRl h0_len
 have HTC:=Lib.hid htc
 rw [←htc]
 clear htc hRl
 obtain ⟨rc,hrc⟩:∃ x,x=recC false 3 sch0 ⟨#[]⟩ tc 0 h0:=⟨_,rfl⟩
 have hrl:rc.length=108:=by rw [hrc];exact recC_len _ _ _ _ _ _ _ rfl htl h0_len
 have hro:∀ u∈rc,u.oneCell'=true:=by rw [hrc];exact recC_one _ _ _ _ _ _ _ sch0_one hto
 have hrs:(Tryz.prog.info? 129).map (·.size)=some rc.length:=by rw [hrc];exact recC_size _ _ _ _ _ _ _ rfl htl h0_len
 have r0:rc.toArray[0]? = some (.bool false):=by rw [hrc];rfl
 have r1:rc.toArray[1]? = some (.int .i64 3):=by rw [hrc];rfl
 have hrt:(rc.drop 7).take tc.length=tc:=by
  rw [hrc]
  show (tc++(Value.int .i64 0::cellsB h0)).take tc.length=tc
  rw [List.take_append_of_le_length (Nat.le_refl _),List.take_of_length_le (Nat.le_refl _)]
 rw [←hrc]
 clear hrc
 obtain ⟨Wq,hWq⟩:∃ W',W'=w6.alloc (.cells (recC false 0 sch0 ⟨#[]⟩ tr0 0 h0).toArray 129):=⟨_,rfl⟩
 have hbq:Below w6.heap.size w6 Wq:=by rw [hWq];exact (Below.refl _ _).alloc (Nat.le_refl _) _
 have BQ0:Blk Wq w6.heap.size 129 (recC false 0 sch0 ⟨#[]⟩ tr0 0 h0).toArray:=by rw [hWq];exact Blk.new _ _ _
 have hthq:=Blk.there (o:=0) (n:=108) BQ0 (by rw [recC_len _ _ _ _ _ _ _ rfl tr0_len h0_len];omega)
 obtain ⟨BQ,hgq⟩:=Blk.lay rc 0 BQ0 (by rw [hrl,recC_len _ _ _ _ _ _ _ rfl tr0_len h0_len];omega)
 rw [laid_all _ _ (by rw [hrl,recC_len _ _ _ _ _ _ _ rfl tr0_len h0_len])] at BQ
 have hbq5:=hbq.grown hgq hbq.size (fun k hk=>by injection hk with hk;omega)
 have HWq:=Lib.hid hWq
 have hz:=zero_rec
 clear hWq
 go_upto_region 9 with ((with_reducible show wpList _ _ _ (Oper.mk none (Op.store _ (Operand.tmp 10) _) _ _ _ _::_) _ _);(rw [←HWq.out]);(refine wpList_store_mid rfl 129 _ _ rfl w6.heap.size 0 rc.toArray rfl rfl ?h1 ?h2 (all_oneCell_toArray hro) ?_))
 case h1=>exact (show rc.toArray.size=108 by simp [hrl]) ▸ hthq
 case h2=>exact (show rc.toArray.size=rc.length by simp) ▸ hrs
 clear hthq hgq hbq BQ0 hz
 obtain ⟨g10,hg10⟩:∃ g,w6.heap.size=g:=⟨_,rfl⟩
 have HP7:=HP6.ext hbq5
 have HF7:=Lib.hid (HF6.out.ext hbq5)
 have HR7:=Lib.hid (HR6.out.ext hbq5)
 have HC7:=Lib.hid (HC6.out.ext hbq5)
 have HH7:=Lib.hid (HH6.out.ext hbq5)
 have HB7:=HB6.trans (Below.mono hbq5 HB6.size)
 have HT7:Hid (∃ A c,(Wq.setCells w6.heap.size 0 rc).cell? ⟨gf,4,none⟩=some (.slice A 1 c)∧TH (Wq.setCells w6.heap.size 0 rc) D5 A):=Lib.hid (by
  obtain ⟨A,c,h1,h2⟩:=HT6.out
  exact ⟨A,c,(hbq5.cell (p:=⟨gf,4,none⟩) HF6.out.lt.1).trans h1,h2.ext hbq5⟩)
 have hs7:w6.heap.size≤(Wq.setCells w6.heap.size 0 rc).heap.size:=hbq5.size
 have hs67:Wa.heap.size≤(Wq.setCells w6.heap.size 0 rc).heap.size:=Nat.le_trans hs6 hs7
 rw [hg10] at BQ HP7 HF7 HR7 HC7 HH7 HB7 HT7 hs67 ⊢
 clear hg10 HP6 HF6 HR6 HC6 HH6 HB6 HT6 hbq5 hs7 hs6
 generalize Wq.setCells g10 0 rc=w7 at *
 clear HWq
 have q0:=(BQ.cell 0).trans r0
 have q1:=(BQ.cell 1).trans r1
 have qp:=HP7.cell 0
 have HF:=Lib.hid (show Calls Tryz.prog 33 #[.pointer (some ⟨gf,0,none⟩),.agg tc.toArray] w7 fun e w'=>e=.returned (.tuple #[])∧(∃ D',Fnd w' gf gm D' (dbY N) (((0:Nat):Int)+1) [entH 0 (chX N)] [] [])∧Frm (fun b=>b=gf∨D5 b) w7 w' from by
  rw [HTC.out]
  exact vtx_ HF7.out HT7.out HC7.out HH7.out (fun b hb=>⟨fun h=>by have:=hDk b h;omega,by have:=HF7.out.lt;omega⟩) (fun b hb=>by have:=hDk b hb;omega) HOK.out (by decide) HPT.out)
 go_wp2_with ((with_reducible show wpList _ _ _ (Oper.mk (some 72) _ _ _ _ _::_) _ _);(refine wpList_load_mid rfl 127 _ rfl g10 7 rfl tc _ (Blk.range BQ hrt) Tryz.underlying127 rfl hts ?_))
 refine HF.out.mono ?_
 rintro e w8 ⟨rfl,⟨D8,hF8⟩,hfr8⟩
 clear HF q0 q1 qp r0 r1 hrl hro hrs hrt htl hto hts BQ HTC HC7 HH7 HF7 HT7
 have hG8:∀ k,k<w1.heap.size∨k=gp→k≠gf→¬(k=gf∨D5 k):=fun k hk hne h=>by
  rcases h with h|h
  ·exact hne h
  ·have:=hDk k h
   omega
 have HP8:=hfr8.blk HP7 (hG8 gp (.inr rfl) hgpf)
 have HB8:=HB7.trans (hfr8.to_below HB7.size (fun k hk=>hG8 k (.inl (by omega)) (by omega)))
 have HR8:=Lib.hid (HR7.out.keep (hfr8.keep (fun k hk _=>by have:=hF1k k hk;exact hG8 k (.inl (by omega)) (by omega))))
 have hs8:w7.heap.size≤w8.heap.size:=hfr8.size
 have HF8:=Lib.hid hF8.bound
 clear hF8 hfr8 HR7 HP7 HB7
 go_wp2_with fail
 rw [rounds_succ]
 obtain ⟨H,hH⟩:∃ H,H1 0 (chX N)=H:=⟨_,rfl⟩
 have hHl:H.length=32:=by rw [←hH];exact shaL_len _
 have hHe:shaL (blkT 1 h0 (entH 0 (chX N)) 1)=H:=hH
 have HRH:=Lib.hid (show w.rangeAt b off (digC 1 H) from hH ▸ HRG.out)
 obtain ⟨A0,k0,q0,hy0⟩:=HR8.out.at_ (show [tabB schX,txB 0 (chX N),blkB 1 (H1 0 (chX N))][2]? = some (blkB 1 (H1 0 (chX N))) from rfl)
 rw [hH] at q0 hy0
 have HY0:=Lib.hid hy0
 have HHE:=Lib.hid hHe
 clear hy0 hH hHe HRG
 go_upto_region 7 with fail
 clear q0
 obtain ⟨Wa,hW_,hba,BK⟩:=al1 w8 3 #[.int .i64 2]
 rw [←hW_]
 clear hW_
 obtain ⟨gk,hgk⟩:∃ g,w8.heap.size=g:=⟨_,rfl⟩
 rw [hgk] at BK ⊢
 clear hgk
 have HF:=Lib.hid (vread4_ (HY0.out.ext hba) (by decide) hHl)
 go_wp2_with fail
 refine HF.out.mono ?_
 rintro e w9 ⟨rfl,hb9⟩
 have hb89:=hba.trans (Below.mono hb9 hba.size)
 have HP9:=HP8.ext hb89
 have HF9:=Lib.hid (HF8.out.ext hb89)
 have HB9:=HB8.trans (Below.mono hb89 HB8.size)
 have hs9:w8.heap.size≤w9.heap.size:=hb89.size
 clear HF hba hb9 BK hb89 HP8 HF8 HR8 HB8 HY0
 obtain ⟨rc,hrc⟩:∃ x,x=recC false 4 sch0 ⟨#[]⟩ tr0 ((1:Nat):Int) H:=⟨_,rfl⟩
 have hrl:rc.length=108:=by rw [hrc];exact recC_len _ _ _ _ _ _ _ rfl tr0_len hHl
 have hro:∀ u∈rc,u.oneCell'=true:=by rw [hrc];exact recC_one _ _ _ _ _ _ _ sch0_one tr0_one
 have hrs:(Tryz.prog.info? 129).map (·.size)=some rc.length:=by rw [hrc];exact recC_size _ _ _ _ _ _ _ rfl tr0_len hHl
 have r0:rc.toArray[0]? = some (.bool false):=by rw [hrc];rfl
 have r1:rc.toArray[1]? = some (.int .i64 4):=by rw [hrc];rfl
 have r75:rc.toArray[75]? = some (.int .i64 1):=by rw [hrc];exact recC_atn _ _ _ _ _ _ _ rfl tr0_len
 have hrt:(rc.drop 76).take (cellsB H).length=cellsB H:=by
  rw [hrc]
  show (((sch0++(.string ⟨#[]⟩::(tr0++(Value.int .i64 ((1:Nat):Int)::cellsB H)))).drop 74)).take (cellsB H).length=cellsB H
  rw [show (sch0++(.string ⟨#[]⟩::(tr0++(Value.int .i64 ((1:Nat):Int)::cellsB H)))).drop 74=(tr0++(Value.int .i64 ((1:Nat):Int)::cellsB H)).drop 69 from rfl,List.drop_append,tr0_len,List.drop_of_length_le (by rw [tr0_len];omega)]
  show (cellsB H).take (cellsB H).length=cellsB H
  rw [List.take_of_length_le (Nat.le_refl _)]
 rw [←hrc]
 clear hrc
 obtain ⟨Wq,hWq⟩:∃ W',W'=w9.alloc (.cells (recC false 0 sch0 ⟨#[]⟩ tr0 0 h0).toArray 129):=⟨_,rfl⟩
 have hbq:Below w9.heap.size w9 Wq:=by rw [hWq];exact (Below.refl _ _).alloc (Nat.le_refl _) _
 have BQ0:Blk Wq w9.heap.size 129 (recC false 0 sch0 ⟨#[]⟩ tr0 0 h0).toArray:=by rw [hWq];exact Blk.new _ _ _
 have hthq:=Blk.there (o:=0) (n:=108) BQ0 (by rw [recC_len _ _ _ _ _ _ _ rfl tr0_len h0_len];omega)
 obtain ⟨BQ,hgq⟩:=Blk.lay rc 0 BQ0 (by rw [hrl,recC_len _ _ _ _ _ _ _ rfl tr0_len h0_len];omega)
 rw [laid_all _ _ (by rw [hrl,recC_len _ _ _ _ _ _ _ rfl tr0_len h0_len])] at BQ
 have hbq5:=hbq.grown hgq hbq.size (fun k hk=>by injection hk with hk;omega)
 have HWq:=Lib.hid hWq
 have hz:=zero_rec
 clear hWq
 go_upto_region 9 with ((with_reducible show wpList _ _ _ (Oper.mk none (Op.store _ (Operand.tmp 10) _) _ _ _ _::_) _ _);(rw [←HWq.out]);(refine wpList_store_mid rfl 129 _ _ rfl w9.heap.size 0 rc.toArray rfl rfl ?h3 ?h4 (all_oneCell_toArray hro) ?_))
 case h3=>exact (show rc.toArray.size=108 by simp [hrl]) ▸ hthq
 case h4=>exact (show rc.toArray.size=rc.length by simp) ▸ hrs
 clear hthq hgq hbq BQ0 hz
 obtain ⟨g10,hg10⟩:∃ g,w9.heap.size=g:=⟨_,rfl⟩
 have HP10:=HP9.ext hbq5
 have HF10:=Lib.hid (HF9.out.ext hbq5)
 have HB10:=HB9.trans (Below.mono hbq5 HB9.size)
 have hs10:w9.heap.size≤(Wq.setCells w9.heap.size 0 rc).heap.size:=hbq5.size
 rw [hg10] at BQ HP10 HF10 HB10 hs10 ⊢
 have hs10':w9.heap.size≤(Wq.setCells g10 0 rc).heap.size:=by omega
 clear HP9 HF9 HB9 hbq5 hs10 hg10
 generalize Wq.setCells g10 0 rc=w10 at *
 clear HWq
 have hsH:=size32 H hHl
 have q0:=(BQ.cell 0).trans r0
 have q1:=(BQ.cell 1).trans r1
 have q75:=(BQ.cell 75).trans r75
 have qp:=HP10.cell 0
 have HF:=Lib.hid (vblock_ HF10.out (shaL_len _) HHE.out (fun b hb=>by have:=hb.2;omega))
 go_wp2_with ((with_reducible show wpList _ _ _ (Oper.mk (some 38) _ _ _ _ _::_) _ _);(refine wpList_load_mid rfl 32 _ rfl g10 76 rfl (cellsB H) _ (Blk.range BQ hrt) Tryz.underlying32 rfl hsH ?_))
 refine HF.out.mono ?_
 rintro e w11 ⟨rfl,hF11,hfr11⟩
 have HP11:=hfr11.blk HP10 (fun h=>h.elim hgpf hgpm)
 have HB11:=HB10.trans (hfr11.to_below HB10.size (fun k hk h=>by rcases h with h|h <;> omega))
 have HF11:=Lib.hid hF11
 clear HF q0 q1 q75 qp r0 r1 r75 hrl hro hrs hrt BQ hfr11 hF11 HF10 HP10 HB10 hsH
 go_wp2_with fail
 rw [rounds_succ]
 have qp:=HP11.cell 0
 have HF:=Lib.hid (vdig1_ (c:=c) HF11.out hHl (show w11.rangeAt b off (digC 1 H) from fun j u hu=>(HB11.cell (p:=⟨b,off+j,none⟩) hbl).trans (HRH.out j u hu)) (Nat.lt_of_lt_of_le hbl HB11.size))
 go_wp2_with fail
 refine HF.out.mono ?_
 rintro e w12 ⟨rfl,hb12⟩
 have qp:=(HP11.ext hb12).cell 0
 have q3:=(HF11.out.ext hb12).found
 have HB12:=Lib.hid (HB11.trans (Below.mono hb12 HB11.size))
 clear HF HP11 HF11 HB11 hb12
 go_wp2_with fail
 refine clone0_.mono ?_
 rintro e w13 ⟨rfl,rfl⟩
 go_wp2
 unfold Exit.noGoto
 go_ret
 exact ⟨rfl,HB12.out⟩
theorem le0:le 8 0=List.replicate 8 0:=by decide +kernel
theorem logd0 (np:Nat) (h2:2≤np):Logd (List.replicate (np * 64) 0) np []:=by
 refine ⟨⟨List.replicate 48 0,?_⟩,⟨_,(List.nil_append _).symm⟩,fun r hr=>by cases hr⟩
 have e:(recs []).length=0:=rfl
 rw [e,List.length_nil,le0,List.take_replicate,List.replicate_append_replicate,List.replicate_append_replicate]
 congr 1
 omega
def dbB:DBd:=([(schX,[])],[(0,[],[])],[],[])
def dbP:DBd:=putD dbB (posG (cmpT ⟨#[120]⟩) dbB.1) (posG (cmpW 0) dbB.2.1) (tabTo SX [rX 5]) (0,[]++[(⟨#[120]⟩,1,rowTo (rX 5))],[]) (lk.askL (lkOf dbB) ⟨0,⟨#[120]⟩,true⟩)
theorem putX5:tb.putL SX.cols SX.key [] (rX 5)=(0,[rX 5]):=by decide +kernel
theorem okX0:okDB dbX:=by
 refine ⟨by simp [dbX],fun t ht=>?_,by simp [dbX],fun k hk=>?_,by simp [dbX],by simp [dbX]⟩
 ·simp [dbX] at ht;subst ht;exact ⟨by decide,by decide,fun r hr=>by cases hr⟩
 ·simp [dbX] at hk
theorem okB:okDB dbB:=by
 refine ⟨by simp [dbB],fun t ht=>?_,by simp [dbB],fun k hk=>?_,by simp [dbB],by simp [dbB]⟩
 ·simp [dbB] at ht;subst ht;exact ⟨by decide,by decide,fun r hr=>by cases hr⟩
 ·simp [dbB] at hk;subst hk;exact ⟨by decide,(fun c hc=>by cases hc),by decide⟩
theorem sesB:okSes dbB:=fun y hy=>by simp [dbB] at hy;subst hy;decide
theorem posT0:posG (cmpT ⟨#[120]⟩) dbB.1=0:=by decide +kernel
theorem posW0:posG (cmpW 0) dbB.2.1=0:=by decide +kernel
theorem mono1 {α:Type} {f:α→Int} (x:α) (h:¬f x<0):Mono f [x]:=fun i j r r' hij h1 h2 h3=>by
 have hj:j<1:=(List.getElem?_eq_some_iff.1 h2).1
 have e1:i=0:=by omega
 have e2:j=0:=by omega
 subst e1 e2
 rw [h1] at h2
 injection h2 with h2
 rw [h2];exact h3
theorem mono0 {α:Type} {f:α→Int}:Mono f ([]:List α):=fun i j r r' _ h=>by cases h
theorem putOkB:PutOk dbB 0 ⟨#[120]⟩ SX [] [rX 5] (rX 5) [] [] 0 where
 ok:=okB
 ses:=sesB
 s1:=by decide
 mt:=mono1 _ (by decide +kernel)
 mw:=mono1 _ (by decide +kernel)
 isw:=by decide +kernel
 ist:=by decide +kernel
 free:=by decide +kernel
 tab:=by rw [posT0];rfl
 wrk:=by rw [posW0];rfl
 few:=by decide
 put:=putX5
 small:=fun v hv=>by simp [rX] at hv;subst hv;exact Nat.zero_le _
 tok:=okX
 cols:=by decide
 rows_:=by decide
 row_:=by decide
 rows2:=by decide
 rows3:=by decide
 lks:=by decide +kernel
theorem okP:okDB dbP:=by
 refine ⟨by decide +kernel,fun t ht=>?_,by decide +kernel,fun k hk=>?_,by decide +kernel,by decide +kernel⟩
 ·have e:dbP.1=[tabTo SX [rX 5]]:=by simp only [dbP,putD,posT0];rfl
  rw [e] at ht
  simp at ht;subst ht
  exact ⟨by decide,by decide,fun r hr=>by simp [tabTo] at hr;subst hr;show _≤_;decide⟩
 ·have e:dbP.2.1=[(0,[chX 5],[])]:=by simp only [dbP,putD,posW0];rfl
  rw [e] at hk
  simp at hk;subst hk
  exact ⟨by decide,fun c hc=>by simp at hc;subst hc;show _≤_;decide,by decide⟩
theorem worksP:dbP.2.1=[(0,[chX 5],[])]:=by simp only [dbP,putD,posW0];rfl
theorem okcX:OkC (chX 5):=⟨by decide,by decide,by decide,fun v hv=>by simp [chX] at hv;subst hv;exact ⟨by decide,by decide,by decide,by decide,by decide⟩,by decide⟩
theorem okE:okDB (endD dbP 0):=by
 obtain ⟨h1,h2,h3,h4,h5,h6⟩:=okP
 have e:(endD dbP 0).2.1=[]:=by decide +kernel
 refine ⟨h1,h2,by rw [e];decide,(fun k hk=>by rw [e] at hk;cases hk),by decide +kernel,by decide +kernel⟩
theorem oksX:OkS schX:=⟨by decide,by decide,fun c hc=>by simp [schX,schOf,colX,colOf] at hc;subst hc;decide,by decide,by decide⟩
theorem Sl.one_blk {α:Type} {E:Enc α} {w:World} {F:Blocks} {g c:Nat} {t:TypeId} {cs:List Value} {x:α} (h:Blk w g t cs.toArray) (hF:F g) (hr:E.rel w F cs x) (hc:1≤c):Sl E w F (some ⟨g,0,none⟩) 1 c [x] :=
 ⟨[cs],.inr (.inr ⟨g,0,rfl,hc,hF,h.lt,fun i u hu=>by rw [Nat.zero_add,h.cell];simpa using hu⟩),Els.one_ hr,rfl⟩
theorem Blk.whole_set {w:World} {g:Nat} {t:TypeId} {cs:List Value} (h:Blk w g t cs.toArray) (vs:List Value) (hl:vs.length=cs.length):Blk (w.setCells g 0 vs) g t vs.toArray:=by
 have:=(Blk.lay vs 0 h (by omega)).1
 rwa [laid_all _ _ hl] at this
theorem wpList_want {P:Program} {ops:Array Oper} {Q:Exit→Act→World→Prop} {o:Oper} {rest:List Oper} {a:Act} {w:World} (hw:Region.wanted o (yielded ops a.tmps)=true)
  (h:∀ K:Act→World→Prop,(∀ a w,wpList P ops Q rest a w→K a w)→o.wp P a w K Q):wpList P ops Q (o::rest) a w :=
 wpList_step fun K hK=>by simp only [hw,if_true];exact h K hK
theorem posWP:posG (cmpW 0) ([(0,[chX 5],[])]:List Wrk)=0:=by decide +kernel
theorem okTxX:okTx (((0:Nat):Int),[chX 5]):=⟨by decide,fun c hc=>by simp at hc;subst hc;show _≤_;decide⟩
theorem known_ (w:World):Calls Tryz.prog 4 #[] w fun e w'=>e=.returned (.bool true)∧Below w.heap.size w w':=by
 go_enter Tryz.func4,Tryz.ntmps4
 have HF:=Lib.hid (show Calls Tryz.prog 6 #[.int .i64 20] w fun e w'=>∃ d gs gn l,e=.returned (.tuple #[.pointer (some ⟨d,0,none⟩),.int .i64 0])∧Dk w' d gs gn 20 l (.slice none 0 0)∧Logd l 20 []∧w.heap.size≤d∧w.heap.size≤gs∧w.heap.size≤gn∧Below w.heap.size w w' from
  (new_ 20 (by decide) (by decide) w).mono (by rintro e w' ⟨d,gs,gn,h1,h2,h3⟩;exact ⟨d,gs,gn,_,h1,h2,logd0 20 (by decide),h3⟩))
 go_wp2_with fail
 refine HF.out.mono ?_
 rintro e w1 ⟨d,gs,gn,l,rfl,hDk,hLg,hd,hgs,hgn,hb1⟩
 have HD1:=Lib.hid hDk
 have HL1:=Lib.hid hLg
 clear HF hDk hLg
 have HF:=Lib.hid (sopen_ HD1.out HL1.out)
 go_wp2_with fail
 refine HF.out.mono ?_
 rintro e w2 ⟨s,lg,rfl,hSt,hs,hlg,hb2⟩
 have hw1:w.heap.size≤w1.heap.size:=hb1.size
 have hOn:∀ k,On s lg d gs gn k→w.heap.size≤k:=fun k hk=>by rcases hk with h|h|h|h|h <;> omega
 have HS2:=Lib.hid hSt
 have hb12:=hb1.trans (Below.mono hb2 hb1.size)
 clear HF HD1 HL1 hSt hb1 hb2 hd hgs hgn hs hlg hw1
 go_wp2_with fail
 obtain ⟨W3,hW_,hb3,BC⟩:=al1 w2 50 #[.string ⟨#[97]⟩,.int .i64 2,.bool false]
 rw [←hW_]
 clear hW_
 obtain ⟨gc,hgc⟩:∃ g,w2.heap.size=g:=⟨_,rfl⟩
 rw [hgc] at BC ⊢
 clear hgc
 have HS3:=Lib.hid (HS2.out.ext hb3)
 have hb13:=hb12.trans (Below.mono hb3 hb12.size)
 have hcols:Sl eCol W3 (fun _=>True) (some ⟨gc,0,none⟩) 1 1 (colX.map colOf):=Sl.one_blk (E:=eCol) (cs:=[.string ⟨#[97]⟩,.int .i64 2,.bool false]) BC trivial (col_mk W3 _ ⟨⟨#[97]⟩,2,false⟩) (Nat.le_refl _)
 have HF:=Lib.hid (show Calls Tryz.prog 11 #[.pointer (some ⟨s,0,none⟩),.agg #[.string ⟨#[120]⟩,.slice (some ⟨gc,0,none⟩) 1 1,.int .i64 0,.bool false]] W3 fun e w'=>e=.returned (.int .i64 0)∧Sto w' s lg d gs gn 20 [tabB schX] dbX led0∧Frm (On s lg d gs gn) W3 w' from
  screate_ (nm:=nmX) (cols:=colX) (key:=0) (only:=false) HS3.out okdb0 hcols goodX mono0 rfl (by decide) rfl oksX (by decide +kernel) (by decide))
 clear HS2 hb12 hb3 BC
 go_wp2_with fail
 refine HF.out.mono ?_
 rintro e w4 ⟨rfl,hSt,hfr⟩
 have HS4:=Lib.hid hSt
 have hb4:=hb13.trans (hfr.to_below hb13.size (fun k hk h=>by have:=hOn k h;omega))
 clear HF HS3 hSt hfr hb13 hcols
 have HF:=Lib.hid (sdb_ HS4.out okX0)
 go_wp2_with fail
 refine HF.out.mono ?_
 rintro e w5 ⟨cs5,rfl,hr5,hb5⟩
 obtain ⟨A,n,c,A2,n2,c2,A3,n3,c3,A4,n4,c4,rfl,_⟩:=eDB_inv hr5
 have HS5:=Lib.hid (HS4.out.ext hb5)
 have hb05:=hb4.trans (Below.mono hb5 hb4.size)
 have HF2:=Lib.hid (show Calls Tryz.prog 12 #[.agg #[.slice A n c,.slice A2 n2 c2,.slice A3 n3 c3,.slice A4 n4 c4],.int .i64 0] w5 (DBE dbB 0 w5) from
  begin_ (s:=0) hr5 okX0 (by decide) mono0 rfl (fun y hy=>by cases hy) (by decide))
 clear HF HS4 hb4 hb5 hr5
 go_wp2_with fail
 refine HF2.out.mono ?_
 rintro e w6 ⟨cs6,rfl,hr6,hb6⟩
 obtain ⟨A,n,c,A2,n2,c2,A3,n3,c3,A4,n4,c4,rfl,_⟩:=eDB_inv hr6
 have HS6:=Lib.hid (HS5.out.ext hb6)
 have hb06:=hb05.trans (Below.mono hb6 hb05.size)
 have HR6:=Lib.hid hr6
 clear HF2 HS5 hb05 hb6 hr6
 go_upto_region 9 with fail
 obtain ⟨W7,hW_,hb7,BD⟩:=al1 w6 43 #[.slice A n c,.slice A2 n2 c2,.slice A3 n3 c3,.slice A4 n4 c4]
 rw [←hW_]
 clear hW_
 obtain ⟨gb,hgb⟩:∃ g,w6.heap.size=g:=⟨_,rfl⟩
 have hgbw:w6.heap.size≤gb:=by omega
 rw [hgb] at BD ⊢
 clear hgb
 have HR7:=Lib.hid (eDB.ext HR6.out hb7)
 clear HR6
 have q:=four BD (Below.refl _ _)
 have hf:=BD.frozen
 go_wp2_with fail
 obtain ⟨W8,hW_,hb8,BV⟩:=al1 W7 58 #[.int .i64 2,.int .i64 5,.string ⟨#[]⟩]
 rw [←hW_]
 clear hW_
 obtain ⟨gv,hgv⟩:∃ g,W7.heap.size=g:=⟨_,rfl⟩
 rw [hgv] at BV ⊢
 clear hgv
 have hrow:Sl eVal W8 (fun _=>True) (some ⟨gv,0,none⟩) 1 1 (rowTo (rX 5)):=Sl.one_blk (E:=eVal) (cs:=[.int .i64 2,.int .i64 5,.string ⟨#[]⟩]) BV trivial (val_mk W8 _ ⟨2,5,⟨#[]⟩⟩) (Nat.le_refl _)
 have HF:=Lib.hid (show Calls Tryz.prog 13 #[.agg #[.slice A n c,.slice A2 n2 c2,.slice A3 n3 c3,.slice A4 n4 c4],.int .i64 0,.string ⟨#[120]⟩,.slice (some ⟨gv,0,none⟩) 1 1] W8 (DBE dbP 0 W8) from
  xput_ (eDB.ext HR7.out hb8) putOkB hrow)
 have BD8:=BD.ext hb8
 have hb68:=hb7.trans (Below.mono hb8 hb7.size)
 clear HR7 hb7 hb8 BV hrow q hf BD
 refine HF.out.mono ?_
 rintro e w9 ⟨cs9,rfl,hr9,hb9⟩
 obtain ⟨A,n,c,A2,n2,c2,A3,n3,c3,A4,n4,c4,rfl,_⟩:=eDB_inv hr9
 have hb69:=hb68.trans (Below.mono hb9 hb68.size)
 have BD9:=BD8.ext hb9
 have hr9':eDB.rel w9 (fun b=>b≠gb) [.slice A n c,.slice A2 n2 c2,.slice A3 n3 c3,.slice A4 n4 c4] dbP:=eDB.mono hr9 (fun b hb=>by have:=BD8.lt;omega)
 have HR9:=Lib.hid hr9'
 clear HF hb68 hb9 BD8 hr9 hr9'
 have hf:=BD9.frozen
 have q:=four BD9 (Below.refl _ _)
 go_upto_region 10 with fail
 obtain ⟨w10,hw10⟩:∃ W,W=w9.setCells gb 0 [.slice A n c,.slice A2 n2 c2,.slice A3 n3 c3,.slice A4 n4 c4]:=⟨_,rfl⟩
 have hgr:=setCells_grown gb [.slice A n c,.slice A2 n2 c2,.slice A3 n3 c3,.slice A4 n4 c4] 0 w9
 have B10:=Blk.whole_set BD9 [.slice A n c,.slice A2 n2 c2,.slice A3 n3 c3,.slice A4 n4 c4] rfl
 rw [←hw10] at hgr B10
 rw [show (((w9.setCell ⟨gb,0,none⟩ (.slice A n c)).setCell ⟨gb,1,none⟩ (.slice A2 n2 c2)).setCell ⟨gb,2,none⟩ (.slice A3 n3 c3)).setCell ⟨gb,3,none⟩ (.slice A4 n4 c4)=w10 from hw10.symm]
 have hb10:=hb69.grown hgr hb69.size (fun k hk=>by injection hk with hk;omega)
 have HS10:=Lib.hid (HS6.out.ext hb10)
 have HR10:=Lib.hid (eDB.keep HR9.out (Keep.grown (F:=fun b=>b≠gb) hgr (fun k hk h=>by injection hk with hk;exact h hk.symm)))
 have hb010:=hb06.trans (Below.mono hb10 hb06.size)
 clear hw10 hgr hb10 HS6 HR9 BD9 hb69 hb06 q hf
 have q:=four B10 (Below.refl _ _)
 have HF:=Lib.hid (sset_ HS10.out HR10.out okP)
 go_wp2_with fail
 refine HF.out.mono ?_
 rintro e w11 ⟨rfl,hSt,hfr⟩
 have HS11:=Lib.hid hSt
 have hb11:=hb010.trans (hfr.to_below hb010.size (fun k hk h=>by have:=hOn k (.inr (.inr (.inr (.inr h))));omega))
 clear HF HS10 HR10 hSt hfr hb010 q B10
 have HF:=Lib.hid (show Calls Tryz.prog 15 #[.pointer (some ⟨s,0,none⟩),.int .i64 0] w11 fun e w'=>e=.returned (.tuple #[.int .i64 0,.int .i64 0])∧Sto w' s lg d gs gn 20 ([tabB schX]++[txB 0 (chX 5)]) (endD dbP 0) (((0+1:Nat):Int),[(((0:Nat):Int),[chX 5])],[],[])∧Frm (On s lg d gs gn) w11 w' from
  scommit_ (id:=0) (ses:=0) (s':=0) (t:=chX 5) (marks:=[]) HS11.out okP (fun y hy=>by rw [worksP] at hy;simp at hy;subst hy;decide) (by decide) (by rw [worksP];exact mono1 _ (by decide +kernel)) (by decide +kernel) (by rw [worksP,posWP];rfl) okE okcX okTxX (by decide) (by decide +kernel) (by decide +kernel) (by decide))
 go_wp2_with fail
 refine HF.out.mono ?_
 rintro e w12 ⟨rfl,hSt,hfr⟩
 have HS12:=Lib.hid hSt
 have hb12:=hb11.trans (hfr.to_below hb11.size (fun k hk h=>by have:=hOn k h;omega))
 clear HF HS11 hSt hfr hb11
 have HF:=Lib.hid (sdig1_ (id:=0) HS12.out okcX okTxX (by decide) (by decide +kernel) (by decide))
 have hz:=zero_dig
 go_wp2_with fail
 refine HF.out.mono ?_
 rintro e w13 ⟨rfl,hSt,hfr⟩
 have HS13:=Lib.hid hSt
 have hb13:=hb12.trans (hfr.to_below hb12.size (fun k hk h=>by have:=hOn k h;omega))
 clear HF HS12 hSt hfr hb12
 obtain ⟨H,hH⟩:∃ H,H1 0 (chX 5)=H:=⟨_,rfl⟩
 have hHl:H.length=32:=by rw [←hH];exact shaL_len _
 have HHH:=Lib.hid hH
 rw [hH]
 clear hH
 obtain ⟨dc,hdc⟩:∃ x,x=digC 1 H:=⟨_,rfl⟩
 have hdl:dc.length=33:=by rw [hdc];exact digC_len _ _ hHl
 have hdo:∀ u∈dc,u.oneCell'=true:=by rw [hdc];exact digC_one _ _
 have hds:(Tryz.prog.info? 34).map (·.size)=some dc.length:=by rw [hdc];exact size_dig _ _ hHl
 have r0:dc.toArray[0]? = some (.int .i64 1):=by rw [hdc];rfl
 have HDC:=Lib.hid hdc
 rw [←hdc]
 clear hdc
 obtain ⟨Wq,hWq⟩:∃ W',W'=w13.alloc (.cells (digC 0 h0).toArray 34):=⟨_,rfl⟩
 have hbq:Below w13.heap.size w13 Wq:=by rw [hWq];exact (Below.refl _ _).alloc (Nat.le_refl _) _
 have BQ0:Blk Wq w13.heap.size 34 (digC 0 h0).toArray:=by rw [hWq];exact Blk.new _ _ _
 have hthq:=Blk.there (o:=0) (n:=33) BQ0 (by rw [digC_len _ _ h0_len];omega)
 obtain ⟨BQ,hgq⟩:=Blk.lay dc 0 BQ0 (by rw [hdl,digC_len _ _ h0_len];omega)
 rw [laid_all _ _ (by rw [hdl,digC_len _ _ h0_len])] at BQ
 have hbq5:=hbq.grown hgq hbq.size (fun k hk=>by injection hk with hk;omega)
 have HWq:=Lib.hid hWq
 clear hWq
 go_upto_region 13 with ((with_reducible show wpList _ _ _ (Oper.mk none (Op.store _ (Operand.tmp 11) _) _ _ _ _::_) _ _);(rw [←HWq.out]);(refine wpList_store_mid rfl 34 _ _ rfl w13.heap.size 0 dc.toArray rfl rfl ?h1 ?h2 (all_oneCell_toArray hdo) ?_))
 case h1=>exact (show dc.toArray.size=33 by simp [hdl]) ▸ hthq
 case h2=>exact (show dc.toArray.size=dc.length by simp) ▸ hds
 clear hthq hgq hbq BQ0 hz
 obtain ⟨g11,hg11⟩:∃ g,w13.heap.size=g:=⟨_,rfl⟩
 have HS14:=Lib.hid (HS13.out.ext hbq5)
 have hb14:=hb13.trans (Below.mono hbq5 hb13.size)
 rw [hg11] at BQ HS14 hb14 ⊢
 clear hg11 HS13 hb13 hbq5
 generalize Wq.setCells g11 0 dc=w14 at *
 clear HWq
 have q0:=(BQ.cell 0).trans r0
 obtain ⟨i0,hi0,hy0,hy1,hy2⟩:=info_parts (P:=Tryz.prog) (e:=34) (z:=.agg (digC 0 h0).toArray) (size:=33) (bytes:=40) (by kernel_rfl)
 go_wp2_with (first|((with_reducible show wpList _ _ _ (Oper.mk (some 90) _ _ _ _ _::_) _ _);(refine wpList_want (wanted_yes rfl rfl rfl) fun K hK=>?_);(refine wp_load_mid 34 _ rfl g11 0 rfl dc _ (Blk.whole BQ) Tryz.underlying34 rfl hds ?_);(refine hK _ _ ?_)) |
  ((with_reducible show wpList _ _ _ (Oper.mk (some 91) _ _ _ _ _::_) _ _);(refine wpList_want (wanted_yes rfl rfl rfl) fun K hK=>?_);(refine wp_slice1d 91 63 34 (.tmp 90) rfl rfl dc rfl i0 _ Tryz.underlying63 hi0 hy0 (by rw [hy1,hdl]) (by rw [hdl];omega) (by rw [hdl];omega) ?_);(refine hK _ _ ?_)))
 obtain ⟨Wb,hWb⟩:∃ W,W=w14.alloc (.cells dc.toArray 34):=⟨_,rfl⟩
 have hbb:Below w14.heap.size w14 Wb:=by rw [hWb];exact (Below.refl _ _).alloc (Nat.le_refl _) _
 have BH:Blk Wb w14.heap.size 34 dc.toArray:=by rw [hWb];exact Blk.new _ _ _
 obtain ⟨gh,hgh⟩:∃ g,w14.heap.size=g:=⟨_,rfl⟩
 rw [←hWb]
 rw [hgh] at BH ⊢
 have hb15:=hb14.trans (Below.mono hbb hb14.size)
 obtain ⟨l',hdk,hlg⟩:=(HS14.out.ext hbb).dk
 have HF:=Lib.hid (verify3_ (N:=5) (c:=1) hdk hlg (show Wb.rangeAt gh 0 (digC 1 (H1 0 (chX 5))) from by rw [HHH.out,←HDC.out];exact Blk.whole BH) BH.lt okcX (by decide) putX5)
 clear hWb hgh hb14 hbb hdk hlg BH BQ q0
 refine HF.out.mono ?_
 rintro e w16 ⟨rfl,hb16⟩
 have HB:=Lib.hid (hb15.trans (Below.mono hb16 hb15.size))
 clear HF hb15 hb16
 go_wp2
 go_ret
 exact ⟨rfl,HB.out⟩
def wi (a n:Int):Int:=if a.tmod n<0 then a.tmod n+n else a.tmod n
theorem wi_range {a n:Int} (hn:0<n):0≤wi a n∧wi a n<n:=by
 have h2:=Int.tmod_lt_of_pos a hn
 have h3:-n<a.tmod n:=by
  have h4:=Int.tmod_lt_of_pos (-a) hn
  rw [Int.neg_tmod] at h4
  omega
 unfold wi
 split <;> omega
theorem within_ (a n:Int) (w:World) (hn:0<n) (hn2:n≤100000) :
  Calls Tryz.prog 5 #[.int .i64 a,.int .i64 n] w fun e w'=>e=.returned (.int .i64 (wi a n))∧w=w':=by
 have hn0:(n == 0)=false:=by simp;omega
 have hn1:n≠0:=by omega
 have h2:=Int.tmod_lt_of_pos a hn
 have h3:-n<a.tmod n:=by
  have h4:=Int.tmod_lt_of_pos (-a) hn
  rw [Int.neg_tmod] at h4
  omega
 have hw:IntKind.i64.wrap (a.tmod n)=a.tmod n:=by rw [IntKind.wrap_i64];omega
 have hw2:wrap64 (a.tmod n)=a.tmod n:=by unfold wrap64;omega
 have hw3:IntKind.i64.wrap (a.tmod n+n)=a.tmod n+n:=by rw [IntKind.wrap_i64];omega
 have hw4:wrap64 (a.tmod n+n)=a.tmod n+n:=by unfold wrap64;omega
 unfold wi
 by_cases h:a.tmod n<0
 ·have hd:decide (a.tmod n<0)=true:=by simpa using h
  rw [if_pos h]
  go_enter Tryz.func5,Tryz.ntmps5
  go_wp2
  go_ret
  exact ⟨rfl,rfl⟩
 ·have hd:decide (a.tmod n<0)=false:=by simpa using h
  rw [if_neg h]
  go_enter Tryz.func5,Tryz.ntmps5
  go_wp2
  go_ret
  exact ⟨rfl,rfl⟩
theorem eq_dig0 (w:World):(Op.equalIn 10000 34 (.agg (digC 0 h0).toArray) (.agg (digC 0 h0).toArray)).run Tryz.prog w=.ok true w:=by kernel_rfl
theorem dfield0 (x0 x1 x2 x3:Value) (w:World):(Instr.field 43 (.agg #[x0,x1,x2,x3]) 0).run Tryz.prog w=.ok x0 w:=by kernel_rfl
theorem wp_exec {P:Program} {o:Oper} {a:Act} {w:World} {K:Act→World→Prop} {Q:Exit→Act→World→Prop} {v:Value} (hx:(execOp a.eval o).run P w=.ok (.value v) w) (h:K (a.put o.dst v) w):o.wp P a w K Q:=by
 unfold Oper.wp
 rw [hx]
 exact h
theorem exec_eqd0 {o:Oper} {a:Act} {w:World} (x y:Operand) {z:TypeId} (ho:o.op=.binOp .eql 34 x y z) (hx:a.eval x=.agg (digC 0 h0).toArray) (hy:a.eval y=.agg (digC 0 h0).toArray) :
  (execOp a.eval o).run Tryz.prog w=.ok (.value (.bool true)) w:=by
 unfold execOp
 simp only [ho,hx,hy,Sem.run_bind,run_eqGuard_agg w .eql 34 x y _ _ (show Tryz.prog.eqGuardType Tryz.prog.depth 34=false by kernel_rfl),Result.andThen_ok,run_eql_struct,eq_dig0 w]
 rfl
theorem empty_ (a:Int) (w:World):Calls Tryz.prog 3 #[.int .i64 a] w fun e w'=>e=.returned (.bool true)∧Below w.heap.size w w':=by
 have hwi:=wi_range (a:=a) (n:=60) (by decide)
 obtain ⟨m,hm⟩:∃ m:Nat,wi a 60+2=m:=⟨(wi a 60+2).toNat,by omega⟩
 have hm2:2≤m:=by omega
 have hm4:m≤4096:=by omega
 have HW:=Lib.hid (fun (w':World)=>within_ a 60 w' (by decide) (by decide))
 have e1:wi a 60=(m:Int) - 2:=by omega
 rw [e1] at HW
 clear hwi hm e1
 go_enter Tryz.func3,Tryz.ntmps3
 have HK:=Lib.hid (known_ w)
 go_wp2_with fail
 refine HK.out.mono ?_
 rintro e w1 ⟨rfl,hb1⟩
 clear HK
 go_wp2_with fail
 refine (HW.out w1).mono ?_
 rintro e w2 ⟨rfl,rfl⟩
 clear HW
 have ew:wrap64 (2+((m:Int) - 2))=(m:Int):=by unfold wrap64;omega
 have ew2:IntKind.i64.wrap (2+((m:Int) - 2))=(m:Int):=by rw [IntKind.wrap_i64];omega
 have HF:=Lib.hid (new_ m hm2 hm4 w1)
 go_wp2_with fail
 try rw [ew]
 refine HF.out.mono ?_
 rintro e w3 ⟨d,gs,gn,rfl,hDk,hd,hgs,hgn,hb3⟩
 have HD3:=Lib.hid hDk
 have HL3:=Lib.hid (logd0 m hm2)
 clear HF hDk
 have HF:=Lib.hid (sopen_ HD3.out HL3.out)
 go_wp2_with fail
 refine HF.out.mono ?_
 rintro e w4 ⟨s,lg,rfl,hSt,hs,hlg,hb4⟩
 have HS4:=Lib.hid hSt
 have hb04:=(hb1.trans (Below.mono hb3 hb1.size)).trans (Below.mono hb4 (hb1.trans (Below.mono hb3 hb1.size)).size)
 clear HF HD3 HL3 hSt hb1 hb3 hb4 hd hgs hgn hs hlg
 have HF:=Lib.hid (sdig0_ HS4.out)
 have hz:=zero_dig
 go_wp2_with fail
 refine HF.out.mono ?_
 rintro e w5 ⟨rfl,hb5⟩
 have hdl:=digC_len 0 h0 h0_len
 have hdo:=digC_one 0 h0
 have hds:=size_dig 0 h0 h0_len
 have HS5:=Lib.hid (HS4.out.ext hb5)
 have hb05:=hb04.trans (Below.mono hb5 hb04.size)
 clear HF HS4 hb04 hb5
 obtain ⟨Wq,hWq⟩:∃ W',W'=w5.alloc (.cells (digC 0 h0).toArray 34):=⟨_,rfl⟩
 have hbq:Below w5.heap.size w5 Wq:=by rw [hWq];exact (Below.refl _ _).alloc (Nat.le_refl _) _
 have BQ0:Blk Wq w5.heap.size 34 (digC 0 h0).toArray:=by rw [hWq];exact Blk.new _ _ _
 have hthq:=Blk.there (o:=0) (n:=33) BQ0 (by rw [hdl];omega)
 obtain ⟨BQ,hgq⟩:=Blk.lay (digC 0 h0) 0 BQ0 (by rw [hdl];omega)
 rw [laid_all _ _ rfl] at BQ
 have hbq5:=hbq.grown hgq hbq.size (fun k hk=>by injection hk with hk;omega)
 have HWq:=Lib.hid hWq
 clear hWq
 go_upto_region 11 with ((with_reducible show wpList _ _ _ (Oper.mk none (Op.store _ (Operand.tmp 7) _) _ _ _ _::_) _ _);(rw [←HWq.out]);(refine wpList_store_mid rfl 34 _ _ rfl w5.heap.size 0 (digC 0 h0).toArray rfl rfl ?h1 ?h2 (all_oneCell_toArray hdo) ?_))
 case h1=>exact (show (digC 0 h0).toArray.size=33 by simp [hdl]) ▸ hthq
 case h2=>exact (show (digC 0 h0).toArray.size=(digC 0 h0).length by simp) ▸ hds
 clear hthq hgq hbq BQ0 hz
 obtain ⟨g7,hg7⟩:∃ g,w5.heap.size=g:=⟨_,rfl⟩
 have HS6:=Lib.hid (HS5.out.ext hbq5)
 have hb06:=hb05.trans (Below.mono hbq5 hb05.size)
 rw [hg7] at BQ HS6 hb06 ⊢
 clear hg7 HS5 hb05 hbq5
 generalize Wq.setCells g7 0 (digC 0 h0)=w6 at *
 clear HWq
 have HF:=Lib.hid (sdb_ HS6.out okdb0)
 have hdf:=dfield0
 go_wp2_with fail
 refine HF.out.mono ?_
 rintro e w7 ⟨cs7,rfl,hr7,hb7⟩
 obtain ⟨A,n,c,A2,n2,c2,A3,n3,c3,A4,n4,c4,rfl,hl7,_⟩:=eDB_inv hr7
 have hn7:n=0:=hl7.len.symm
 subst hn7
 have BQ7:=BQ.ext hb7
 obtain ⟨l',hdk,hlg⟩:=(HS6.out.ext hb7).dk
 have hb07:=hb06.trans (Below.mono hb7 hb06.size)
 have HV:=Lib.hid (verify0_ hdk hlg)
 clear HF HS6 hb06 hb7 BQ hr7 hl7 hdk hlg
 go_wp2_with (first|((with_reducible show wpList _ _ _ (Oper.mk (some 43) _ _ _ _ _::_) _ _);(refine wpList_want (wanted_yes rfl rfl rfl) fun K hK=>?_);(refine wp_load_mid 34 _ rfl g7 0 rfl (digC 0 h0) _ (Blk.whole BQ7) Tryz.underlying34 rfl hds ?_);(refine hK _ _ ?_)) |
  ((with_reducible show wpList _ _ _ (Oper.mk (some 44) _ _ _ _ _::_) _ _);(refine wpList_want (wanted_yes rfl rfl rfl) fun K hK=>?_);(refine wp_exec (exec_build 34 _ rfl shape_dig rfl rfl) ?_);(refine hK _ _ ?_)) |
  ((with_reducible show wpList _ _ _ (Oper.mk (some 45) _ _ _ _ _::_) _ _);(refine wpList_want (wanted_yes rfl rfl rfl) fun K hK=>?_);(refine wp_exec (exec_eqd0 _ _ rfl rfl rfl) ?_);(refine hK _ _ ?_)))
 refine HV.out.mono ?_
 rintro e w8 ⟨rfl,hb8⟩
 have HB:=Lib.hid (hb07.trans (Below.mono hb8 hb07.size))
 clear HV hb07 hb8
 go_wp2
 go_ret
 exact ⟨rfl,HB.out⟩
end Go.Proofs.YtgbcdkmjcokclaaGreat.tp
