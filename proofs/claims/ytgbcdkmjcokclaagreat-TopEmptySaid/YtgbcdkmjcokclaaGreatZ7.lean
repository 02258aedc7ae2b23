/- Laws of its own that the claim's proof needs; no condition beyond those that each states. -/
import Derived.Test.YtgbcdkmjcokclaaGreatZ6
import Derived.Test.YtgbcdkmjcokclaaGreatZ4
import Derived.Test.YtgbcdkmjcokclaaGreatZ5
import Derived.Test.YtgbcdkmjcokclaaGreatZ2
import Derived.Lib.Builder
set_option linter.unusedVariables false
set_option maxRecDepth 1000000
set_option maxHeartbeats 16000000
namespace Go.Proofs.YtgbcdkmjcokclaaGreat.tp
open Go.ChangeShapes Go.WideShapes Go.ChangeAt Go.RowKit Go.Proofs.YtgbcdkmjcokclaaGreat.lib
def putD (x:DBd) (k at_:Nat) (t:Tab) (y:Wrk) (L:lk.Lk):DBd:=(x.1.set k t,x.2.1.set at_ y,L.hs.map ofHd,L.ws.map ofHd)
structure PutOk (x:DBd) (s:Int) (nm:ByteArray) (S:tb.Sch) (rows rows':List (List val.V)) (r:List val.V) (log:List Chg) (marks:List Mrk) (s':Int):Prop where
 ok:okDB x
 ses:okSes x
 s1:-1000≤s∧s≤1000
 mt:Mono (cmpT nm) x.1
 mw:Mono (cmpW s) x.2.1
 isw:isG (cmpW s) x.2.1=true
 ist:isG (cmpT nm) x.1=true
 free:lk.freeB (lkOf x) ⟨s,nm,true⟩=true
 tab:x.1[posG (cmpT nm) x.1]? = some (tabTo S rows)
 wrk:x.2.1[posG (cmpW s) x.2.1]? = some (s',log,marks)
 few:log.length<60
 put:tb.putL S.cols S.key rows r=(0,rows')
 small:tb.Small r
 tok:tb.Ok S.cols S.key rows
 cols:S.cols.length≤100
 rows_:rows.length<999
 row_:r.length≤1000
 rows2:rows'.length≤rows.length+1
 rows3:∀ y∈rows',y.length≤1000
 lks:(lk.askL (lkOf x) ⟨s,nm,true⟩).hs.length≤1000∧(lk.askL (lkOf x) ⟨s,nm,true⟩).ws.length≤1000
theorem change_ {w:World} {F G:Blocks} {cs:List Value} {x:DBd} {s s':Int} {nm:ByteArray} {S:tb.Sch} {rows rows':List (List val.V)} {r:List val.V} {log:List Chg} {marks:List Mrk} {A:Option Addr} {n c br:Nat}
  (h:eDB.rel w F cs x) (hP:PutOk x s nm S rows rows' r log marks s') (hbr:Blk w br 59 #[.slice A n c]) (hr:Sl eVal w G A n c (rowTo r)) :
  Calls Tryz.prog 46 #[.agg cs.toArray,.int .i64 s,.string nm,.func (.func 43) #[] #[.pointer (some ⟨br,0,none⟩)]] w (DBE (putD x (posG (cmpT nm) x.1) (posG (cmpW s) x.2.1) (tabTo S rows') (s',log++[(nm,1,rowTo r)],marks) (lk.askL (lkOf x) ⟨s,nm,true⟩)) 0 w):=by
 have HS:=Lib.hid h
 have HP:=Lib.hid hP
 have HBR0:=Lib.hid hbr
 have HRW:=Lib.hid hr
 have hbrl:=hbr.lt
 obtain ⟨L,hL⟩:∃ L,lk.askL (lkOf x) ⟨s,nm,true⟩=L:=⟨_,rfl⟩
 have HL:=Lib.hid hL
 obtain ⟨k,hk⟩:∃ k,posG (cmpT nm) x.1=k:=⟨_,rfl⟩
 have HK:=Lib.hid hk
 obtain ⟨at_,hat⟩:∃ k,posG (cmpW s) x.2.1=k:=⟨_,rfl⟩
 have HAT:=Lib.hid hat
 have HTAB:=Lib.hid (show x.1[k]? = some (tabTo S rows) from hk ▸ hP.tab)
 have HWRK:=Lib.hid (show x.2.1[at_]? = some (s',log,marks) from hat ▸ hP.wrk)
 obtain ⟨nt,hnt⟩:∃ n,x.1.length=n:=⟨_,rfl⟩
 obtain ⟨nk,hnk⟩:∃ n,x.2.1.length=n:=⟨_,rfl⟩
 have hkn:k<nt:=by rw [←hnt];exact (List.getElem?_eq_some_iff.1 HTAB.out).1
 have hatn:at_<nk:=by rw [←hnk];exact (List.getElem?_eq_some_iff.1 HWRK.out).1
 have hntb:nt≤1000:=by rw [←hnt];exact hP.ok.1
 have hnkb:nk≤1000:=by rw [←hnk];exact hP.ok.2.2.1
 have HNT:=Lib.hid hnt
 have HNK:=Lib.hid hnk
 have hs1:=hP.s1
 rw [hk,hat,hL]
 obtain ⟨A1,n1,c1,A2,n2,c2,A3,n3,c3,A4,n4,c4,rfl,h1,h2,h3,h4⟩:=eDB_inv h
 clear h hP hbr hr h1 h2 h3 h4 hL hk hat hnt hnk
 go_enter Tryz.func46,Tryz.ntmps46
 go_upto_region 1 with fail
 obtain ⟨W,hW_,hb1,BD,BR⟩:=al2 w 43 43 #[.slice A1 n1 c1,.slice A2 n2 c2,.slice A3 n3 c3,.slice A4 n4 c4] #[.slice none 0 0,.slice none 0 0,.slice none 0 0,.slice none 0 0]
 rw [←hW_]
 clear hW_
 obtain ⟨gd,hgd⟩:∃ g,w.heap.size=g:=⟨_,rfl⟩
 obtain ⟨gr,hgr⟩:∃ g,w.heap.size+1=g:=⟨_,rfl⟩
 have HGS:=Lib.hid (show w.heap.size≤gd∧w.heap.size≤gr∧gd<gr by omega)
 rw [hgr] at BR ⊢
 rw [hgd] at BD ⊢
 have HF:=Lib.hid (tbegun_ (eDB.ext HS.out hb1) HP.out.ok)
 have HGW:=Lib.hid (And.intro BR.lt hb1.size)
 have HBR:=Lib.hid (And.intro BR (HBR0.out.ext hb1))
 have HB1:=Lib.hid hb1
 have HRW1:=Lib.hid (HRW.out.ext hb1)
 have qd:=four BD (Below.refl _ _)
 clear hgd hgr BD BR hb1 HRW HBR0
 go_wp2_with fail
 refine HF.out.mono ?_
 rintro e w1 ⟨g,rfl,⟨A5,c5,A6,c6,A7,c7,A8,c8,hC⟩,hb2⟩
 have hgW:W.heap.size≤g:=hC.lo
 have HGG:=Lib.hid (show gr≠g∧br≠g by have:=HGW.out;omega)
 have HC:=Lib.hid hC
 have HBR1:=Lib.hid (And.intro (HBR.out.1.ext hb2) (HBR.out.2.ext hb2))
 have HB2:=Lib.hid (HB1.out.trans (Below.mono hb2 HB1.out.size))
 have HRW2:=Lib.hid (((HRW1.out.bound flat_val.bnd)).ext hb2)
 clear qd hC hb2 HF HBR HB1 HRW1
 have HH:=hold_free HC.out HP.out.ok HP.out.ses HP.out.s1 HP.out.mt HP.out.mw HP.out.isw HP.out.ist HP.out.free
 rw [HL.out] at HH
 have HH:=Lib.hid HH
 go_wp2_with fail
 refine HH.out.mono ?_
 rintro e w2 ⟨rfl,⟨A9,c9,A10,c10,hC2⟩,hf2⟩
 have HC2:=Lib.hid hC2
 have HBR2:=Lib.hid (And.intro (hf2.blk HBR1.out.1 HGG.out.1) (hf2.blk HBR1.out.2 HGG.out.2))
 have HB3:=Lib.hid ((Frm.below HB2.out).trans (hf2.mono (H:=fun b=>b=g) (fun b h=>h)) |>.to_below (Nat.le_refl _) (fun k hk h=>by have:=HGW.out;omega))
 have HRW3:=Lib.hid (HRW2.out.keep (hf2.keep (F:=fun b=>G b∧b<W.heap.size) (fun b h _=>by omega)))
 clear hC2 hf2 HH HC HBR1 HB2 HRW2
 have HT:=table_ HC2.out nm HP.out.ok.1 HP.out.mt
 rw [show posG (cmpT nm) (withL x L).1=k from HK.out,show isG (cmpT nm) (withL x L).1=true from HP.out.ist] at HT
 have HT:=Lib.hid HT
 go_wp2_with fail
 refine HT.out.mono ?_
 rintro e w3 ⟨rfl,hb4⟩
 have HC3:=Lib.hid (HC2.out.ext hb4)
 have HBR3:=Lib.hid (And.intro (HBR2.out.1.ext hb4) (HBR2.out.2.ext hb4))
 have HB4:=Lib.hid (HB3.out.trans (Below.mono hb4 HB3.out.size))
 have HRW4:=Lib.hid (HRW3.out.ext hb4)
 clear hb4 HC2 HBR2 HB3 HRW3 HT
 have HT:=work_ HC3.out s HP.out.ok.2.2.1 HP.out.mw ⟨by omega,by omega⟩ HP.out.ses
 rw [show posG (cmpW s) (withL x L).2.1=at_ from HAT.out,show isG (cmpW s) (withL x L).2.1=true from HP.out.isw] at HT
 have HT:=Lib.hid HT
 go_wp2_with fail
 refine HT.out.mono ?_
 rintro e w4 ⟨rfl,hb5⟩
 have HC4:=Lib.hid (HC3.out.ext hb5)
 have HBR4:=Lib.hid (And.intro (HBR3.out.1.ext hb5) (HBR3.out.2.ext hb5))
 have HB5:=Lib.hid (HB4.out.trans (Below.mono hb5 HB4.out.size))
 have HRW5:=Lib.hid (HRW4.out.ext hb5)
 clear hb5 HC3 HBR3 HB4 HRW4 HT
 obtain ⟨b2,hA6⟩:∃ b,A6=some ⟨b,0,none⟩:=by
  obtain ⟨dss,k1,_,_⟩:=HC4.out.wrk
  obtain ⟨g',e,_⟩:=own_some1 k1 (by rw [show (withL x L).2.1.length=nk from HNK.out];omega)
  exact ⟨_,e⟩
 obtain ⟨b1,hA5⟩:∃ b,A5=some ⟨b,0,none⟩:=by
  obtain ⟨dss,k1,_,_⟩:=HC4.out.tab
  obtain ⟨g',e,_⟩:=own_some1 k1 (by rw [show (withL x L).1.length=nt from HNT.out];omega)
  exact ⟨_,e⟩
 subst hA6 hA5
 obtain ⟨ct0,hct0,hcell0⟩:=HC4.out.tab.at_ (show (withL x L).1[k]? = some (tabTo S rows) from HTAB.out)
 obtain ⟨cw0,hcw0,hcell1⟩:=HC4.out.wrk.at_ (show (withL x L).2.1[at_]? = some (s',log,marks) from HWRK.out)
 obtain ⟨A11,n11,c11,A12,n12,c12,rfl,_,_⟩:=eTab_inv hct0
 obtain ⟨AL,nl,AM,nm_,cm,rfl,hlog,_⟩:=eWrkT_inv hcw0
 have PT:=Lib.hid (HC4.out.tab.bound bnd_tab)
 have PW:=Lib.hid (HC4.out.wrk.loose.bound bnd_wrk)
 have PH:=Lib.hid (show Hh w4 W.heap.size (fun b=>NC W.heap.size g (some ⟨b1,0,none⟩) (some ⟨b2,0,none⟩) b∧b<w4.heap.size) A9 _ c9 _ from ⟨HC4.out.hld.1.bound flat_hld.bnd,fun b e=>⟨HC4.out.hld.2 b e,(HC4.out.hld.1.lt e).2⟩⟩)
 have PQ:=Lib.hid (show Hh w4 W.heap.size (fun b=>NC W.heap.size g (some ⟨b1,0,none⟩) (some ⟨b2,0,none⟩) b∧b<w4.heap.size) A10 _ c10 _ from ⟨HC4.out.wai.1.bound flat_hld.bnd,fun b e=>⟨HC4.out.wai.2 b e,(HC4.out.wai.1.lt e).2⟩⟩)
 have PB:=Lib.hid HC4.out.blk
 have PL:=Lib.hid (hlog.bound bnd_chg)
 have HNE:=Lib.hid (show b1≠g∧b2≠g∧b1≠b2 from ⟨(HC4.out.ne b1 rfl).2,HC4.out.ne2 b2 rfl,fun e=>(HC4.out.ne b1 rfl).1 (by rw [e])⟩)
 have hnl:nl<60:=by have h9:log.length=nl:=hlog.len;have:=HP.out.few;omega
 simp only [show eTab.k=5 from rfl] at hcell0
 simp only [show eWrkT.k=3 from rfl] at hcell1
 have p0:=hcell0 0 _ rfl
 have p1:=hcell0 1 _ rfl
 have p2:=hcell0 2 _ rfl
 have p3:=hcell0 3 _ rfl
 have p4:=hcell0 4 _ rfl
 have u1:=hcell1 1 _ rfl
 simp only [Nat.add_zero] at p0
 have BG4:=HC4.out.blk
 rw [show (withL x L).1.length=nt from HNT.out,show (withL x L).2.1.length=nk from HNK.out] at BG4
 have q0:=BG4.cell 0
 have q1:=BG4.cell 1
 have HCT:=Lib.hid (eTab.mono hct0 (G:=fun _=>True) (fun _ _=>trivial))
 have HPT:=put1_ HCT.out HBR4.out.2 HRW5.out HP.out.small HP.out.tok HP.out.cols (by have:=HP.out.rows_;omega) (by have h8:(rowTo r).length=n:=HRW5.out.len;have h9:(rowTo r).length=r.length:=List.length_map ..;have:=HP.out.row_;omega)
 rw [HP.out.put] at HPT
 have HPT:=Lib.hid HPT
 have hki:(k:Int)<(nt:Int):=by omega
 have hai:(at_:Int)<(nk:Int):=by omega
 clear hcell0 hcell1 hct0
 have HU1:=Lib.hid u1
 clear u1 hcw0 hlog BG4
 go_wp2_with fail
 refine HPT.out.mono ?_
 rintro e w5 ⟨ct,cc,rfl,hrt,hrc,hb6⟩
 clear p0 p1 p2 p3 p4 q0 q1
 have HRT:=Lib.hid (bnd_tab hrt)
 have HRC:=Lib.hid (bnd_chg hrc)
 obtain ⟨A13,n13,c13,A14,n14,c14,rfl,_,_⟩:=eTab_inv hrt
 obtain ⟨A15,n15,c15,rfl,_⟩:=eChg_inv hrc
 have hb2l:b2<w4.heap.size:=(HC4.out.wrk.lt rfl).2
 have HU5:=Lib.hid ((hb6.cell (p:=⟨b2,at_ * 3+1,none⟩) hb2l).trans HU1.out)
 have HC5:=Lib.hid (HC4.out.ext hb6)
 have HBR5:=Lib.hid (HBR4.out.1.ext hb6)
 have HB6:=Lib.hid (HB5.out.trans (Below.mono hb6 HB5.out.size))
 have HZ:=Lib.hid (show W.heap.size≤w4.heap.size∧w4.heap.size≤w5.heap.size∧g<w4.heap.size∧b1<w4.heap.size∧b2<w4.heap.size∧W.heap.size≤b1∧W.heap.size≤b2 from ⟨by have:=HC4.out.blk.lt;omega,hb6.size,HC4.out.blk.lt,(HC4.out.tab.lt rfl).2,hb2l,(HC4.out.tab.lt rfl).1,(HC4.out.wrk.lt rfl).1⟩)
 have H45:=Lib.hid hb6
 clear hrt hrc hb6 hb2l HU1 HC4 HBR4 HB5 HPT HCT HRW5
 go_upto_region 9 with fail
 obtain ⟨W6,hW_,hb7,B17,B18⟩:=al2 w5 153 155 #[.string (tabTo S rows').1.1,.slice A13 n13 c13,.int .i64 (tabTo S rows').1.2.2.1,.bool (tabTo S rows').1.2.2.2,.slice A14 n14 c14] #[.string ⟨#[]⟩,.int .i64 1,.slice A15 n15 c15]
 rw [←hW_]
 clear hW_
 obtain ⟨g17,hg17⟩:∃ g,w5.heap.size=g:=⟨_,rfl⟩
 obtain ⟨g18,hg18⟩:∃ g,w5.heap.size+1=g:=⟨_,rfl⟩
 rw [hg18] at B18 ⊢
 rw [hg17] at B17 ⊢
 have HG17:=Lib.hid (show w5.heap.size≤g17∧g17<g18 by omega)
 have HU6:=Lib.hid ((hb7.cell (p:=⟨b2,at_ * 3+1,none⟩) (by have:=HZ.out;show b2<_;omega)).trans HU5.out)
 have HC6:=Lib.hid (HC5.out.ext hb7)
 have H46:=Lib.hid (H45.out.trans (Below.mono hb7 H45.out.size))
 have HBR6:=Lib.hid (HBR5.out.ext hb7)
 have HB7:=Lib.hid (HB6.out.trans (Below.mono hb7 HB6.out.size))
 have HRT6:=Lib.hid (eTab.ext HRT.out hb7)
 have HRC6:=Lib.hid (eChg.ext HRC.out hb7)
 clear hg17 hg18 hb7 HU5 HC5 HBR5 HB6 HRT HRC
 have u1:=HU6.out
 have d60:decide ((60:Int)≤(nl:Int))=false:=by simp;omega
 have f0:=B18.frozen 0
 have v0:=B18.cell 0
 go_upto_region 13 with fail
 clear u1 d60 f0 v0
 obtain ⟨F5,hF5⟩:∃ F5:Blocks,F5=fun b=>W.heap.size≤b∧b≠g∧b≠b1∧b≠b2∧b≠g17∧b≠g18:=⟨_,rfl⟩
 have hz:=HZ.out
 have hz17:=HG17.out
 have hz18:=B18.lt
 have m4:∀ b,(NC W.heap.size g (some ⟨b1,0,none⟩) (some ⟨b2,0,none⟩) b∧b<w4.heap.size)→F5 b:=fun b h=>by rw [hF5];exact ⟨h.1.1,h.1.2.1,fun e=>h.1.2.2.1 (by rw [e]),fun e=>h.1.2.2.2 (by rw [e]),by omega,by omega⟩
 have m5:∀ b,(w4.heap.size≤b∧b<w5.heap.size)→F5 b:=fun b h=>by rw [hF5];exact ⟨by omega,by omega,by omega,by omega,by omega,by omega⟩
 have mf:∀ b,W6.heap.size≤b→F5 b:=fun b h=>by rw [hF5];exact ⟨by omega,by omega,by omega,by omega,by omega,by omega⟩
 have HF5:=Lib.hid (show (∀ b,F5 b→W.heap.size≤b∧b≠g∧b≠b1∧b≠b2∧b≠g17∧b≠g18)∧(∀ b,W6.heap.size≤b→F5 b) from ⟨fun b h=>by rw [hF5] at h;exact h,mf⟩)
 have PT6:=Lib.hid ((PT.out.ext H46.out).mono m4)
 have PW6:=Lib.hid ((PW.out.ext H46.out).mono m4)
 have PH6:=Lib.hid ((PH.out.ext H46.out).mono m4)
 have PQ6:=Lib.hid ((PQ.out.ext H46.out).mono m4)
 have PB6:=Lib.hid (PB.out.ext H46.out)
 have PL6:=Lib.hid ((PL.out.ext H46.out).mono m4)
 have RT6:=Lib.hid (eTab.mono HRT6.out m5)
 have RC6:=Lib.hid (eChg.mono HRC6.out m5)
 have HSZ:=Lib.hid (show g<W6.heap.size∧b1<W6.heap.size∧b2<W6.heap.size∧g17<W6.heap.size∧g18<W6.heap.size∧gr<W6.heap.size∧W.heap.size≤W6.heap.size by have:=HGW.out;omega)
 have HNX:=Lib.hid (show g17≠g∧g18≠g∧g17≠g18∧g17≠b1∧g18≠b1∧g17≠b2∧g18≠b2∧gr≠g∧gr≠b1∧gr≠b2∧gr≠g17∧gr≠g18 by have:=HGW.out;omega)
 clear hF5 m4 m5 mf hz hz17 hz18 PT PW PH PQ PB PL HRT6 HRC6 H46 HC6
 have hg7:=set_grown W6 g18 0 (.string nm)
 have hk7:=Keep.grown (F:=fun b=>b≠g18) hg7 (fun g' h1 h2=>by injection h1 with h1;exact h2 h1.symm)
 have hkF7:Keep F5 W6 (W6.setCell ⟨g18,0,none⟩ (.string nm)):=hk7.mono (fun b h=>(HF5.out.1 b h).2.2.2.2.2)
 have B18:=B18.set_ 0 (.string nm)
 have B17:=Blk.keep B17 hk7 HNX.out.2.2.1
 have PT7:=Lib.hid (PT6.out.keep hk7 (fun b e=>by injection e with e;injection e with e;have:=HNX.out;omega) (fun b h=>(HF5.out.1 b h).2.2.2.2.2))
 have PW7:=Lib.hid (PW6.out.keep hk7 (fun b e=>by injection e with e;injection e with e;have:=HNX.out;omega) (fun b h=>(HF5.out.1 b h).2.2.2.2.2))
 have PH7:=Lib.hid (PH6.out.keep hkF7)
 have PQ7:=Lib.hid (PQ6.out.keep hkF7)
 have PB7:=Lib.hid (Blk.keep PB6.out hk7 (Ne.symm HNX.out.2.1))
 have PL7:=Lib.hid (PL6.out.keep hkF7)
 have RT7:=Lib.hid (eTab.keep RT6.out hkF7)
 have RC7:=Lib.hid (show eChg.rel _ F5 [.string nm,.int .i64 1,.slice A15 n15 c15] (nm,1,rowTo r) from by
  obtain ⟨A0,m0,d0,e0,hs0⟩:=eChg_inv (eChg.keep RC6.out hkF7)
  injection e0 with _ e0
  injection e0 with _ e0
  injection e0 with e0 _
  injection e0 with e0 e1 e2
  rw [e0,e1,e2]
  exact eChg_mk (x:=(nm,1,rowTo r)) hs0)
 have BR7:=Lib.hid (Blk.keep HBR6.out hk7 (by have:=HNX.out;omega))
 have HB8:=Lib.hid (HB7.out.grown hg7 HB7.out.size (fun k hk=>by injection hk with hk;have:=HGS.out;have:=HG17.out;have:=HZ.out;have:=HGW.out;omega))
 have HU7:=Lib.hid ((hk7.block b2 (by have:=HNX.out;omega) HSZ.out.2.2.1) |> fun h=>(World.cell?_of_block h).trans HU6.out)
 have hsz7:=hk7.size
 clear hk7 hkF7 hg7 PT6 PW6 PH6 PQ6 PB6 PL6 RT6 RC6 HBR6 HB7 HU6
 generalize W6.setCell ⟨g18,0,none⟩ (.string nm)=W7 at *
 have BG7:=PB7.out
 rw [show (withL x L).1.length=nt from HNT.out] at BG7
 have D:=fun w' (h:Below W7.heap.size W7.drew w')=>And.intro ((BG7.ext (Below.trans (Below.refl _ _).drew h)).cell 0) (five B17 (Below.trans (Below.refl _ _).drew h))
 have hthT:=PT7.out.there (i:=k) (by rw [show (withL x L).1.length=nt from HNT.out];exact hkn)
 refine wp_region_tail (S:=fun w'=>Below W7.heap.size W7.drew w') [(0,true),(1,true),(2,true),(3,true),(4,true),(5,true),(6,true),(7,true)] [(8,false)] (by kernel_rfl) (by kernel_rfl) (Below.refl _ _) ?_
 repeat ((with_reducible refine pG ?_);(first|refine pT ?_|refine pF ?_);try go_frame)
 refine wpTail_done ?_
 clear D BG7
 obtain ⟨cz,hcz⟩:∃ z,z=([.string (tabTo S rows').1.1,.slice A13 n13 c13,.int .i64 (tabTo S rows').1.2.2.1,.bool (tabTo S rows').1.2.2.2,.slice A14 n14 c14]:List Value):=⟨_,rfl⟩
 have hczl:cz.length=5:=by rw [hcz];rfl
 have honz:∀ u∈cz,u.oneCell'=true:=by rw [hcz];exact eTab.one RT7.out
 have hszz:(Tryz.prog.info? 153).map (·.size)=some cz.length:=by rw [hczl];kernel_rfl
 refine wpPerm_do rfl (wanted_free rfl) (fun K hK=>?_)
 refine wp_store_wide 153 (.tmp 87) (.tmp 86) rfl rfl b1 (k * 5) cz rfl (by rw [hcz];rfl) (by rw [hczl];exact hthT) hszz honz ?_
 refine hK.out _ _ trivial (wpPerm_done ?_)
 clear hK K
 have hgs:W7.drew.grownBy (W7.drew.setCells b1 (k * 5) cz) (some b1):=by
  obtain ⟨cur,hcur⟩:=PT7.out.blk
  obtain ⟨_,_,_,h⟩:=Blk.setCells cz (k * 5) (Blk.drew hcur)
  exact h
 have hg8:W7.grownBy (W7.drew.setCells b1 (k * 5) cz) (some b1):=grown_trans (grown_drew W7 (some b1)) hgs
 have hk8:=Keep.grown (F:=fun b=>b≠b1) hg8 (fun g' h1 h2=>by injection h1 with h1;exact h2 h1.symm)
 have hkF8:Keep F5 W7 (W7.drew.setCells b1 (k * 5) cz):=hk8.mono (fun b h=>(HF5.out.1 b h).2.2.1)
 have RTz:=RT7.out
 rw [←hcz] at RTz
 have PT8:=Lib.hid ((PT7.out.ext ((Below.refl _ _).drew)).laid_ (i:=k) (cs:=cz) (x:=tabTo S rows') (w':=W7.drew.setCells b1 (k * 5) cz) (by rw [show (withL x L).1.length=nt from HNT.out];exact hkn) (eTab.keep RTz hkF8) (Keep.grown hgs (fun g' h1 h2=>by injection h1 with h1;subst h1;exact (HF5.out.1 _ h2).2.2.1 rfl)) rfl)
 have PW8:=Lib.hid (PW7.out.keep hk8 (fun b e=>by injection e with e;injection e with e;have:=HNE.out;omega) (fun b h=>(HF5.out.1 b h).2.2.1))
 have PH8:=Lib.hid (PH7.out.keep hkF8)
 have PQ8:=Lib.hid (PQ7.out.keep hkF8)
 have PL8:=Lib.hid (PL7.out.keep hkF8)
 have PB8:=Lib.hid (Blk.keep PB7.out hk8 (Ne.symm HNE.out.1))
 have RC8:=Lib.hid (eChg.keep RC7.out hkF8)
 have B18:=Blk.keep B18 hk8 (by have:=HNX.out;omega)
 have BR8:=Lib.hid (Blk.keep BR7.out hk8 (by have:=HNX.out;omega))
 have HB9:=Lib.hid (HB8.out.grown hg8 HB8.out.size (fun k hk=>by injection hk with hk;have:=HZ.out;have:=HGW.out;omega))
 have HU8:=Lib.hid ((hk8.block b2 (by have:=HNE.out;omega) (by have:=HSZ.out;omega)) |> fun h=>(World.cell?_of_block h).trans HU7.out)
 have hsz8:=hk8.size
 clear hk8 hkF8 hg8 hgs PT7 PW7 PH7 PQ7 PL7 PB7 RT7 RC7 RTz BR7 HB8 HU7 hthT honz hszz B17
 generalize W7.drew.setCells b1 (k * 5) cz=W8 at *
 clear hcz hczl
 go_upto_region 14 with fail
 have u8:=HU8.out
 have D:=fun w' (h:Below W8.heap.size W8.drew w')=>And.intro ((((Below.refl W8.heap.size W8).drew.trans h).cell (p:=⟨b2,at_ * 3+1,none⟩) (show b2<W8.heap.size by have:=HSZ.out;omega)).trans HU8.out) (B18.three ((Below.refl _ _).drew.trans h))
 refine wp_region_tail (S:=fun w'=>Below W8.heap.size W8.drew w') [(0,true),(1,true),(2,true),(3,true),(4,true),(5,true),(6,false),(7,false),(8,true),(9,true)] [(10,false)] (by kernel_rfl) (by kernel_rfl) (Below.refl _ _) ?_
 clear u8
 repeat ((with_reducible refine pG ?_);(first|refine pT ?_|refine pF ?_);try go_frame)
 refine pD fun K hK=>?_;go_simp
 have hba:Below W8.heap.size W8 (W8.alloc (.cells #[.string nm,.int .i64 1,.slice A15 n15 c15] 155)).drew:=((Below.refl _ _).alloc (Nat.le_refl _) _).drew
 have BV:Blk (W8.alloc (.cells #[.string nm,.int .i64 1,.slice A15 n15 c15] 155)).drew W8.heap.size 155 #[.string nm,.int .i64 1,.slice A15 n15 c15]:=Blk.new _ _ _
 obtain ⟨gv,hgv⟩:∃ g,W8.heap.size=g:=⟨_,rfl⟩
 have HGV:=Lib.hid hgv
 obtain ⟨Wa,hWa⟩:∃ W,W=(W8.alloc (.cells #[.string nm,.int .i64 1,.slice A15 n15 c15] 155)).drew:=⟨_,rfl⟩
 rw [←hWa] at hba BV ⊢
 rw [hgv] at BV ⊢
 have hda:Below W8.heap.size W8.drew Wa:=by rw [hWa];exact show Below W8.heap.size W8.drew (W8.drew.alloc _) from (Below.refl W8.heap.size W8.drew).alloc (Nat.le_refl _) _
 refine hK.out _ _ hda ?_
 clear hK K hWa hgv
 obtain ⟨i0,hi0,hy0,hy1,hy2⟩:=info_parts (P:=Tryz.prog) (e:=155) (z:=.agg #[.string ⟨#[]⟩,.int .i64 0,.slice none 0 0]) (size:=3) (bytes:=48) (by kernel_rfl)
 have PLa:=Lib.hid (PL8.out.ext hba)
 obtain ⟨css,hcs,hcl,hcn,hcc⟩:=PLa.out.src
 have RCa:=Lib.hid (eChg.ext RC8.out hba)
 refine wpPerm_do rfl (wanted_free rfl) (fun K hK=>?_)
 refine wp_append_full 95 (.tmp 92) (.tmp 94) 123 rfl rfl 155 i0 _ 3 48 Tryz.underlying123 hi0 hy0 hy1 hy2 rfl (by decide) AL nl nl css.flatten rfl hcn hcl hcc ⟨gv,0,none⟩ 1 1 [.string nm,.int .i64 1,.slice A15 n15 c15] rfl rfl (lk.three_at BV) (eChg.one RCa.out) (by omega) (by unfold maxLen;omega) (by omega) ?_
 intro A' c' Wc hown hgr
 have hbc:Below Wa.heap.size Wa Wc:=(Below.refl _ _).grown hgr (Nat.le_refl _) (fun k hk=>by cases hk)
 have hdc:=hda.trans (Below.mono hbc hda.size)
 refine hK.out _ _ hdc ?_
 clear hK K D
 have hbac:=hba.trans (Below.mono hbc hba.size)
 have hsza:=hba.size
 have HLN:=Lib.hid (show OwnE eChg 155 Wc Wa.heap.size F5 A' (nl+1) c' (log++[(nm,1,rowTo r)]) from ⟨css++[[.string nm,.int .i64 1,.slice A15 n15 c15]],by rw [List.flatten_append,List.flatten_singleton];exact hown,Els.append (hcs.ext hbc) (Els.one_ (eChg.ext RCa.out hbc)),by have:=PLa.out.len;simp [this]⟩)
 have PT9:=Lib.hid (PT8.out.ext hbac)
 have PW9:=Lib.hid (PW8.out.ext hbac)
 have PH9:=Lib.hid (PH8.out.ext hbac)
 have PQ9:=Lib.hid (PQ8.out.ext hbac)
 have PB9:=Lib.hid (PB8.out.ext hbac)
 have BR9:=Lib.hid (BR8.out.ext hbac)
 have HB10:=Lib.hid (HB9.out.trans (Below.mono hbac HB9.out.size))
 have HUc:=Lib.hid ((hbac.cell (p:=⟨b2,at_ * 3+1,none⟩) (show b2<W8.heap.size by have:=HSZ.out;omega)).trans HU8.out)
 have hszc:=hbac.size
 clear hown hgr hbc hdc hbac hcs hcl hcn hcc PLa RCa BV hba hda PT8 PW8 PH8 PQ8 PB8 PL8 BR8 HB9 HU8 RC8 hi0 hy0 hy1 hy2 B18
 repeat ((with_reducible refine pG ?_);(first|refine pT ?_|refine pF ?_);try go_frame)
 refine wpTail_done ?_
 have hthW:=PW9.out.there (i:=at_) (by rw [show (withL x L).2.1.length=nk from HNK.out];exact hatn)
 have fW:=(hthW 1 (by decide)).2
 simp only [show eWrk.k=3 from rfl] at fW
 have uc:=HUc.out
 refine pD fun K hK=>?_;go_simp
 refine hK.out _ _ trivial (wpPerm_done ?_)
 clear hK K uc fW hthW
 obtain ⟨u,hu⟩:∃ u,u=Value.slice A' (nl+1) c':=⟨_,rfl⟩
 rw [←hu]
 have hg10:=set_grown Wc b2 (at_ * 3+1) u
 have hk10:=Keep.grown (F:=fun b=>b≠b2) hg10 (fun g' h1 h2=>by injection h1 with h1;exact h2 h1.symm)
 have hkF10:Keep F5 Wc (Wc.setCell ⟨b2,at_ * 3+1,none⟩ u):=hk10.mono (fun b h=>(HF5.out.1 b h).2.2.2.1)
 have hsl:=(HLN.out.sl (G:=F5) (fun b h _=>HF5.out.2 b (by omega)) (fun b h=>h)).keep hkF10
 have PW10:=Lib.hid (PW9.out.set1 (E:=eWrk) (i:=at_) (j:=1) (u:=u) (x:=(s',log++[(nm,1,rowTo r)],marks)) HWRK.out (by decide) (fun cs0 h=>by
  obtain ⟨Az,nz,cz,Ay,ny,cy,rfl,_,hy⟩:=eWrk_inv h
  have hm:=eWrk_mk (x:=(s',log++[(nm,1,rowTo r)],marks)) hsl hy
  rw [←hu] at hm
  exact hm) hkF10 rfl)
 have PT10:=Lib.hid (PT9.out.keep hk10 (fun b e=>by injection e with e;injection e with e;have:=HNE.out;omega) (fun b h=>(HF5.out.1 b h).2.2.2.1))
 have PH10:=Lib.hid (PH9.out.keep hkF10)
 have PQ10:=Lib.hid (PQ9.out.keep hkF10)
 have BG10:=Blk.keep PB9.out hk10 (by have:=HNE.out;omega)
 have BR10:=Blk.keep BR9.out hk10 (by have:=HNX.out;omega)
 have hbw10:=HB10.out.grown hg10 HB10.out.size (fun k hk=>by injection hk with hk;have:=HZ.out;have:=HGW.out;omega)
 have hgl10:=BR10.lt
 clear hg10 hk10 hkF10 hsl PT9 PW9 PH9 PQ9 PB9 BR9 HB10 HUc HLN
 generalize Wc.setCell ⟨b2,at_ * 3+1,none⟩ u=W10 at *
 clear hu
 have HDB:=Lib.hid (show eDB.rel W10 (fun _=>True) [.slice (some ⟨b1,0,none⟩) x.1.length c5,.slice (some ⟨b2,0,none⟩) x.2.1.length c6,.slice A9 (L.hs.map ofHd).length c9,.slice A10 (L.ws.map ofHd).length c10] (putD x k at_ (tabTo S rows') (s',log++[(nm,1,rowTo r)],marks) L) from
  eDB_mk (x:=putD x k at_ (tabTo S rows') (s',log++[(nm,1,rowTo r)],marks) L) (PT10.out.sl (fun _ _ _=>trivial) (fun _ _=>trivial)) (PW10.out.sl (fun _ _ _=>trivial) (fun _ _=>trivial)) (PH10.out.sl.mono (fun _ _=>trivial)) (PQ10.out.sl.mono (fun _ _=>trivial)))
 have HOK':=Lib.hid (show okDB (putD x k at_ (tabTo S rows') (s',log++[(nm,1,rowTo r)],marks) L) from by
  refine ⟨by show (x.1.set k _).length≤1000;rw [List.length_set];exact HP.out.ok.1,fun t ht=>?_,by show (x.2.1.set at_ _).length≤1000;rw [List.length_set];exact HP.out.ok.2.2.1,fun y hy=>?_,by show (L.hs.map ofHd).length≤1000;rw [List.length_map,←HL.out];exact HP.out.lks.1,by show (L.ws.map ofHd).length≤1000;rw [List.length_map,←HL.out];exact HP.out.lks.2⟩
  ·rcases List.mem_or_eq_of_mem_set (show t∈x.1.set k (tabTo S rows') from ht) with ht|rfl
   ·exact HP.out.ok.2.1 t ht
   ·refine ⟨by show (S.cols.map colTo).length≤1000;rw [List.length_map];have:=HP.out.cols;omega,by show (rows'.map rowTo).length≤1000;rw [List.length_map];have:=HP.out.rows_;have:=HP.out.rows2;omega,fun y hy=>?_⟩
    obtain ⟨z,hz,rfl⟩:=List.mem_map.1 (show y∈rows'.map rowTo from hy)
    show (z.map valTo).length≤1000
    rw [List.length_map]
    exact HP.out.rows3 z hz
  ·rcases List.mem_or_eq_of_mem_set (show y∈x.2.1.set at_ (s',log++[(nm,1,rowTo r)],marks) from hy) with hy|rfl
   ·exact HP.out.ok.2.2.2.1 y hy
   ·have hw:=HP.out.ok.2.2.2.1 _ (List.mem_of_getElem? HWRK.out)
    refine ⟨by show (log++[(nm,1,rowTo r)]).length≤1000;have:=HP.out.few;simp;omega,fun c hc=>?_,hw.2.2⟩
    rcases List.mem_append.1 (show c∈log++[(nm,1,rowTo r)] from hc) with hc|hc
    ·exact hw.2.1 c hc
    ·simp at hc
     subst hc
     show (r.map valTo).length≤1000
     rw [List.length_map]
     exact HP.out.row_)
 have q:=four_ BG10
 clear PT10 PW10 PH10 PQ10 BG10
 go_wp2_with fail
 refine (town_ HDB.out HOK'.out).mono ?_
 rintro e9 w9 hO
 obtain ⟨cz,rfl,hr9,hb9⟩:=hO.owned
 clear hO
 have hczl:cz.length=4:=eDB.len hr9
 have hone:=eDB.one hr9
 have hsz9:(Tryz.prog.info? 43).map (·.size)=some cz.length:=by rw [hczl];kernel_rfl
 have BR9:=BR10.ext hb9
 have hth:=Blk.there (o:=0) (n:=4) BR9 (by simp)
 have hrl:gr<W10.heap.size:=hgl10
 have hwr:w.heap.size≤gr:=HGS.out.2.1
 have hbz8:=hbw10.trans (Below.mono hb9 hbw10.size)
 have hws:w.heap.size≤W10.heap.size:=hbw10.size
 obtain ⟨B9,hg9⟩:=Blk.lay cz 0 BR9 (by rw [hczl];simp)
 rw [laid_all _ _ (by rw [hczl];rfl)] at B9
 have hbw9:=hbz8.grown hg9 hbz8.size (fun k hk=>by injection hk with hk;omega)
 have HR9:=Lib.hid (eDB.mono (eDB.keep hr9 (Keep.grown hg9 (fun g hg h=>by injection hg with hg;omega))) (G:=fun b=>w.heap.size≤b) (fun b h=>Nat.le_trans hws h))
 clear hr9 hg9 hbz8
 go_wp2_with ((with_reducible show wpList _ _ _ (Oper.mk none (Op.store _ (Operand.tmp 8) _) _ _ _ _::_) _ _);(refine wpList_store_mid rfl 43 _ _ rfl gr 0 cz.toArray rfl rfl ?zs1 ?zt1 (all_oneCell_toArray hone) ?_))
 case zs1=>exact (show cz.toArray.size=4 by simp [hczl]) ▸ hth
 case zt1=>rw [List.size_toArray];exact hsz9
 clear hth BR9
 generalize w9.setCells gr 0 cz=wz at *
 go_wp2
 refine bodyPost_ret (v:=.tuple #[.agg cz.toArray,.int .i64 0]) (results_row_tmp rfl _ _ gr _ _ (0,0) _ rfl B9 Tryz.underlying43 rfl (by rw [List.size_toArray];exact hsz9) rfl) rfl ⟨cz,rfl,HR9.out,hbw9⟩
theorem xput_ {w:World} {F G:Blocks} {cs:List Value} {x:DBd} {s s':Int} {nm:ByteArray} {S:tb.Sch} {rows rows':List (List val.V)} {r:List val.V} {log:List Chg} {marks:List Mrk} {A:Option Addr} {n c:Nat}
  (h:eDB.rel w F cs x) (hP:PutOk x s nm S rows rows' r log marks s') (hr:Sl eVal w G A n c (rowTo r)) :
  Calls Tryz.prog 13 #[.agg cs.toArray,.int .i64 s,.string nm,.slice A n c] w (DBE (putD x (posG (cmpT nm) x.1) (posG (cmpW s) x.2.1) (tabTo S rows') (s',log++[(nm,1,rowTo r)],marks) (lk.askL (lkOf x) ⟨s,nm,true⟩)) 0 w):=by
 obtain ⟨X,hX⟩:∃ X,putD x (posG (cmpT nm) x.1) (posG (cmpW s) x.2.1) (tabTo S rows') (s',log++[(nm,1,rowTo r)],marks) (lk.askL (lkOf x) ⟨s,nm,true⟩)=X:=⟨_,rfl⟩
 have HK:=fun (w':World) (br:Nat) (hb:Below w.heap.size w w') (hbr:Blk w' br 59 #[.slice A n c])=>change_ (eDB.ext h hb) hP hbr (hr.ext hb)
 rw [hX] at HK ⊢
 have HK:=Lib.hid HK
 have hmf:∀ (fn:Fn) (first cap:Array Value) (w:World),(Instr.makeFunc fn first cap).run Tryz.prog w=.ok (.func fn first cap) w:=fun _ _ _ _=>rfl
 obtain ⟨A1,n1,c1,A2,n2,c2,A3,n3,c3,A4,n4,c4,rfl,h1,h2,h3,h4⟩:=eDB_inv h
 clear h hP hr hX h1 h2 h3 h4
 go_enter Tryz.func13,Tryz.ntmps13
 go_upto_region 1 with fail
 obtain ⟨W,hW_,hb1,BD,BV,BR⟩:=al3 w 43 59 43 #[.slice A1 n1 c1,.slice A2 n2 c2,.slice A3 n3 c3,.slice A4 n4 c4] #[.slice A n c] #[.slice none 0 0,.slice none 0 0,.slice none 0 0,.slice none 0 0]
 rw [←hW_]
 clear hW_
 obtain ⟨gd,hgd⟩:∃ g,w.heap.size=g:=⟨_,rfl⟩
 obtain ⟨gv,hgv⟩:∃ g,w.heap.size+1=g:=⟨_,rfl⟩
 obtain ⟨gr,hgr⟩:∃ g,w.heap.size+1+1=g:=⟨_,rfl⟩
 have HGS:=Lib.hid (show w.heap.size≤gr by omega)
 rw [hgr] at BR ⊢
 rw [hgv] at BV ⊢
 rw [hgd] at BD ⊢
 have HF:=Lib.hid (HK.out W gv hb1 BV)
 have hgrW:gr<W.heap.size:=BR.lt
 have qd:=four BD (Below.refl _ _)
 have hwW:=hb1.size
 clear hgd hgv hgr BD BV HK
 go_wp2_with fail
 refine HF.out.mono ?_
 rintro e w1 ⟨cz,rfl,hr9,hb2⟩
 clear qd HF
 have hczl:cz.length=4:=eDB.len hr9
 have hone:=eDB.one hr9
 have hsz9:(Tryz.prog.info? 43).map (·.size)=some cz.length:=by rw [hczl];kernel_rfl
 have BR9:=BR.ext hb2
 have hth:=Blk.there (o:=0) (n:=4) BR9 (by simp)
 have hbw8:=hb1.trans (Below.mono hb2 hb1.size)
 obtain ⟨B9,hg9⟩:=Blk.lay cz 0 BR9 (by rw [hczl];simp)
 rw [laid_all _ _ (by rw [hczl];rfl)] at B9
 have hbw9:=hbw8.grown hg9 hbw8.size (fun k hk=>by injection hk with hk;have:=HGS.out;omega)
 have HR9:=Lib.hid (eDB.mono (eDB.keep hr9 (Keep.grown hg9 (fun g hg h=>by injection hg with hg;omega))) (G:=fun b=>w.heap.size≤b) (fun b h=>Nat.le_trans hwW h))
 clear hr9 hg9 hbw8 BR
 go_wp2_with ((with_reducible show wpList _ _ _ (Oper.mk none (Op.store _ (Operand.tmp 8) _) _ _ _ _::_) _ _);(refine wpList_store_mid rfl 43 _ _ rfl gr 0 cz.toArray rfl rfl ?zs ?zt (all_oneCell_toArray hone) ?_))
 case zs=>exact (show cz.toArray.size=4 by simp [hczl]) ▸ hth
 case zt=>rw [List.size_toArray];exact hsz9
 clear hth BR9
 generalize w1.setCells gr 0 cz=wz at *
 go_wp2
 refine bodyPost_ret (v:=.tuple #[.agg cz.toArray,.int .i64 0]) (results_row_tmp rfl _ _ gr _ _ (0,0) _ rfl B9 Tryz.underlying43 rfl (by rw [List.size_toArray];exact hsz9) rfl) rfl ⟨cz,rfl,HR9.out,hbw9⟩
def withW (x:DBd) (l:List Wrk):DBd:=(x.1,l,x.2.2)
def endD (x:DBd) (s:Int):DBd:=withL (withW x (x.2.1.take (posG (cmpW s) x.2.1)++x.2.1.drop (posG (cmpW s) x.2.1+1))) (lk.freeL (lkOf x) s)
theorem isG_lt {α:Type} {f:α→Int} {x:List α} (h:isG f x=true):posG f x<x.length:=by
 unfold isG at h
 cases hx:x[posG f x]? with
 | none=>rw [hx] at h;cases h
 | some r=>exact (List.getElem?_eq_some_iff.1 hx).1
theorem end_ {w:World} {g B:Nat} {o e:Int} {x:DBd} {A:Option Addr} {c b2:Nat} {c2:Nat} {A3:Option Addr} {c3:Nat} {A4:Option Addr} {c4:Nat} {s:Int}
  (h:CallW w g B o e x A c (some ⟨b2,0,none⟩) c2 A3 c3 A4 c4) (hok:okDB x) (hse:okSes x) (hs:-1000≤s∧s≤1000) (hmw:Mono (cmpW s) x.2.1) (his:isG (cmpW s) x.2.1=true) :
  Calls Tryz.prog 113 #[.pointer (some ⟨g,0,none⟩),.int .i64 s] w fun e' w' =>
   e'=.returned (.tuple #[])∧(∃ A5 c5 A6 c6,CallW w' g B o e (endD x s) A c (some ⟨b2,0,none⟩) c2 A5 c5 A6 c6)∧Frm (fun b=>b=g∨b=b2) w w':=by
 have HC:=Lib.hid h
 have hin:=isG_lt his
 obtain ⟨p,hp⟩:∃ p,posG (cmpW s) x.2.1=p:=⟨_,rfl⟩
 rw [hp] at hin
 obtain ⟨n,hn⟩:∃ n,x.2.1.length=n+1:=⟨x.2.1.length - 1,by omega⟩
 have hpn:p≤n:=by omega
 have hnb:n≤999:=by have:=hok.2.2.1;omega
 have HN:=Lib.hid hn
 have HT:=work_ h s hok.2.2.1 hmw ⟨by omega,by omega⟩ hse
 rw [hp,his] at HT
 have HT:=Lib.hid HT
 have HE:=Lib.hid (show endD x s=withL (withW x (x.2.1.take p++x.2.1.drop (p+1))) (lk.freeL (lkOf x) s) from by rw [←hp];rfl)
 have HLB:=Lib.hid (And.intro hok.2.2.2.2.1 hok.2.2.2.2.2)
 rw [HE.out]
 clear h hok hse hmw his hp hn hin
 go_enter Tryz.func113,Tryz.ntmps113
 go_wp2_with fail
 refine HT.out.mono ?_
 rintro e' w1 ⟨rfl,hb1⟩
 have HC1:=Lib.hid (HC.out.ext hb1)
 have HB1:=Lib.hid hb1
 clear HC hb1 HT
 have hd:=delW (i:=p) (n:=n) (show OwnE eWrkT 148 w1 B (NC B g A (some ⟨b2,0,none⟩)) (some ⟨b2,0,none⟩) (n+1) c2 x.2.1 from HN.out ▸ HC1.out.wrk) (fun hf=>hf.2.2.2 rfl) hpn (by omega)
 have HD:=Lib.hid hd
 have BG:=HC1.out.blk
 rw [HN.out] at BG
 have q1:=BG.cell 1
 have hw1:IntKind.i64.wrap ((p:Int)+1)=(p:Int)+1:=IntWalk.i64_in _ ⟨by omega,by omega⟩
 clear hd
 go_wp2_with fail
 refine HD.out.mono ?_
 rintro e' w2 ⟨rfl,ho,hg⟩
 have HO:=Lib.hid ho
 have hkA:=Keep.grown (F:=fun b=>b≠b2) hg (fun g' h1 h2=>by injection h1 with h1;exact h2 h1.symm)
 have hne:=HC1.out.ne2 b2 rfl
 have BG2:=Blk.keep BG hkA (Ne.symm hne)
 have f1:=BG2.frozen 1
 have q1':=BG2.cell 1
 have HF2:=Lib.hid ((Frm.below (G:=fun b=>b=g∨b=b2) HB1.out).trans (Frm.grown hg (fun g' h=>by injection h with h;exact .inr h.symm)))
 clear ho hg q1 HD BG
 go_upto_region 3 with fail
 clear f1 q1'
 have hg3:=set_grown w2 g 1 (.slice (some ⟨b2,0,none⟩) n c2)
 have hkT:=KeepT.blk hg3 BG2
 have hk3:=Keep.grown (F:=fun b=>b≠g) hg3 (fun g' h1 h2=>by injection h1 with h1;exact h2 h1.symm)
 have BG3:=BG2.set_ 1 (.slice (some ⟨b2,0,none⟩) n c2)
 have hlen:(x.2.1.take p++x.2.1.drop (p+1)).length=n:=by simp [HN.out];omega
 have HC3:=Lib.hid (show CallW (w2.setCell ⟨g,1,none⟩ (.slice (some ⟨b2,0,none⟩) n c2)) g B o e (withW x (x.2.1.take p++x.2.1.drop (p+1))) A c (some ⟨b2,0,none⟩) c2 A3 c3 A4 c4 from by
  refine ⟨?_,(HC1.out.tab.keep hkA (fun b q=>fun e2=>(HC1.out.ne b q).1 (by rw [e2])) (fun b q=>fun e2=>q.2.2.2 (by rw [e2]))).keep hk3 (fun b q=>(HC1.out.ne b q).2) (fun b q=>q.2.1),?_,(HC1.out.hld.keep (hkA.mono (fun b q=>fun e2=>q.2.2.2 (by rw [e2])))).keep (hk3.mono (fun b q=>q.2.1)),(HC1.out.wai.keep (hkA.mono (fun b q=>fun e2=>q.2.2.2 (by rw [e2])))).keep (hk3.mono (fun b q=>q.2.1)),HC1.out.ne,HC1.out.ne2,HC1.out.lo⟩
  ·show Blk _ g _ #[_,.slice (some ⟨b2,0,none⟩) (x.2.1.take p++x.2.1.drop (p+1)).length c2,_,_,_,_,_,_]
   rw [hlen]
   exact BG3
  ·show OwnE _ _ _ _ _ _ (x.2.1.take p++x.2.1.drop (p+1)).length c2 _
   rw [hlen]
   exact HO.out.keepX hkT (by decide) (hk3.mono (fun b q=>q.2.1)))
 have HF3:=Lib.hid (HF2.out.trans (Frm.grown hg3 (fun g' h=>by injection h with h;exact .inl h.symm)))
 clear HO HC1 hkA BG2 hg3 hkT hk3 BG3 hlen HF2 HB1
 generalize w2.setCell ⟨g,1,none⟩ (.slice (some ⟨b2,0,none⟩) n c2)=w3 at *
 have HK:=Lib.hid (lk.FreeG_ (lkOf x) s _ w3 (HC3.out.lkr) (by show (x.2.2.1.map hdOf).length≤_;rw [List.length_map];have:=HLB.out.1;omega) (by show (x.2.2.2.map hdOf).length≤_;rw [List.length_map];have:=HLB.out.2;omega))
 have q2:=HC3.out.blk.cell 2
 have q3:=HC3.out.blk.cell 3
 go_wp2_with fail
 refine HK.out.mono ?_
 rintro e' w4 ⟨A5,c5,A6,c6,rfl,hO,hb4⟩
 obtain ⟨HN4,hgr⟩:=HC3.out.locks hb4 hO
 have HN4:=Lib.hid HN4
 have HF4:=Lib.hid ((HF3.out.trans (Frm.below hb4)).trans (Frm.grown hgr (fun g' h=>by injection h with h;exact .inl h.symm)))
 have BG4:=HC3.out.blk.ext hb4
 have f2:=BG4.frozen 2
 have f3:=BG4.frozen 3
 have q2':=BG4.cell 2
 have q3':=BG4.cell 3
 clear q2 q3 hO hb4 HK HC3 HF3 BG4 hgr
 go_wp2
 go_end0
 exact ⟨rfl,⟨A5,c5,A6,c6,HN4.out⟩,HF4.out⟩
def DBLE (x:DBd) (l:List Chg) (er:Int) (w:World) (e:Ending) (w':World):Prop:=∃ (cs:List Value) (A:Option Addr) (c:Nat),e=.returned (.tuple #[.agg cs.toArray,.slice A l.length c,.int .i64 er])∧eDB.rel w' (fun b=>w.heap.size≤b) cs x∧Sl eChg w' (fun b=>w.heap.size≤b) A l.length c l∧Below w.heap.size w w'
theorem commit_ {w:World} {F:Blocks} {cs:List Value} {x:DBd} {s s':Int} {log:List Chg} {marks:List Mrk}
  (h:eDB.rel w F cs x) (hok:okDB x) (hse:okSes x) (hs:-1000≤s∧s≤1000) (hmw:Mono (cmpW s) x.2.1) (his:isG (cmpW s) x.2.1=true) (hw:x.2.1[posG (cmpW s) x.2.1]? = some (s',log,marks)) (hok2:okDB (endD x s)) :
  Calls Tryz.prog 47 #[.agg cs.toArray,.int .i64 s] w (DBLE (endD x s) log 0 w):=by
 have HS:=Lib.hid h
 have HOK:=Lib.hid hok
 have HSE:=Lib.hid hse
 have HMW:=Lib.hid hmw
 have HIS:=Lib.hid his
 have HOK':=Lib.hid hok2
 obtain ⟨at_,hat⟩:∃ k,posG (cmpW s) x.2.1=k:=⟨_,rfl⟩
 have HAT:=Lib.hid hat
 have HWRK:=Lib.hid (show x.2.1[at_]? = some (s',log,marks) from hat ▸ hw)
 obtain ⟨nk,hnk⟩:∃ n,x.2.1.length=n:=⟨_,rfl⟩
 have hatn:at_<nk:=by rw [←hnk];exact (List.getElem?_eq_some_iff.1 HWRK.out).1
 have hnkb:nk≤1000:=by rw [←hnk];exact hok.2.2.1
 have HNK:=Lib.hid hnk
 have hmf:∀ (fn:Fn) (first cap:Array Value) (w:World),(Instr.makeFunc fn first cap).run Tryz.prog w=.ok (.func fn first cap) w:=fun _ _ _ _=>rfl
 obtain ⟨A1,n1,c1,A2,n2,c2,A3,n3,c3,A4,n4,c4,rfl,h1,h2,h3,h4⟩:=eDB_inv h
 clear h hok hse hmw his hw hok2 hat hnk h1 h2 h3 h4
 go_enter Tryz.func47,Tryz.ntmps47
 go_upto_region 1 with fail
 obtain ⟨W,hW_,hb1,BD,BR⟩:=al2 w 43 43 #[.slice A1 n1 c1,.slice A2 n2 c2,.slice A3 n3 c3,.slice A4 n4 c4] #[.slice none 0 0,.slice none 0 0,.slice none 0 0,.slice none 0 0]
 rw [←hW_]
 clear hW_
 obtain ⟨gd,hgd⟩:∃ g,w.heap.size=g:=⟨_,rfl⟩
 obtain ⟨gr,hgr⟩:∃ g,w.heap.size+1=g:=⟨_,rfl⟩
 have HGS:=Lib.hid (show w.heap.size≤gr by omega)
 rw [hgr] at BR ⊢
 rw [hgd] at BD ⊢
 have HF:=Lib.hid (tbegun_ (eDB.ext HS.out hb1) HOK.out)
 have HGW:=Lib.hid (And.intro BR.lt hb1.size)
 have HBR:=Lib.hid BR
 have HB1:=Lib.hid hb1
 have qd:=four BD (Below.refl _ _)
 clear hgd hgr BD BR hb1
 go_wp2_with fail
 refine HF.out.mono ?_
 rintro e w1 ⟨g,rfl,⟨A5,c5,A6,c6,A7,c7,A8,c8,hC⟩,hb2⟩
 have hgW:W.heap.size≤g:=hC.lo
 have HC:=Lib.hid hC
 have HBR1:=Lib.hid (HBR.out.ext hb2)
 have HB2:=Lib.hid (HB1.out.trans (Below.mono hb2 HB1.out.size))
 clear qd hC hb2 HF HBR HB1
 have HT:=work_ HC.out s HOK.out.2.2.1 HMW.out ⟨by omega,by omega⟩ HSE.out
 rw [HIS.out,HAT.out] at HT
 have HT:=Lib.hid HT
 go_wp2_with fail
 refine HT.out.mono ?_
 rintro e w4 ⟨rfl,hb5⟩
 have HC4:=Lib.hid (HC.out.ext hb5)
 have HBR4:=Lib.hid (HBR1.out.ext hb5)
 have HB5:=Lib.hid (HB2.out.trans (Below.mono hb5 HB2.out.size))
 clear hb5 HC HBR1 HB2 HT
 obtain ⟨b2,hA6⟩:∃ b,A6=some ⟨b,0,none⟩:=by
  obtain ⟨dss,k1,_,_⟩:=HC4.out.wrk
  obtain ⟨g',e,_⟩:=own_some1 k1 (by rw [HNK.out];omega)
  exact ⟨_,e⟩
 subst hA6
 obtain ⟨cw0,hcw0,hcell1⟩:=HC4.out.wrk.at_ HWRK.out
 obtain ⟨AL,nl,AM,nm_,cm,rfl,hlog,_⟩:=eWrkT_inv hcw0
 simp only [show eWrkT.k=3 from rfl] at hcell1
 have u1:=hcell1 1 _ rfl
 have hwok:=HOK.out.2.2.2.1 _ (List.mem_of_getElem? HWRK.out)
 have HEA:=Lib.hid (teachChg hlog (show log.length≤1000 from hwok.1) (show ∀ y∈log,okChg y from hwok.2.1))
 have BG4:=HC4.out.blk
 rw [HNK.out] at BG4
 have q1:=BG4.cell 1
 have hai:(at_:Int)<(nk:Int):=by omega
 clear hcell1 hcw0 hlog hwok BG4
 go_wp2_with fail
 refine HEA.out.mono ?_
 rintro e w5 ⟨A9,c9,rfl,ho9,hb6⟩
 have HL9:=Lib.hid (ho9.sl (G:=fun b=>w4.heap.size≤b) (fun b h _=>h) (fun b h=>h.1))
 have HC5:=Lib.hid (HC4.out.ext hb6)
 have HBR5:=Lib.hid (HBR4.out.ext hb6)
 have HB6:=Lib.hid (HB5.out.trans (Below.mono hb6 HB5.out.size))
 have HZ:=Lib.hid (show g<w4.heap.size∧b2<w4.heap.size∧W.heap.size≤b2∧w4.heap.size≤w5.heap.size from ⟨HC4.out.blk.lt,(HC4.out.wrk.lt rfl).2,(HC4.out.wrk.lt rfl).1,hb6.size⟩)
 have HEN:=Lib.hid (end_ HC5.out HOK.out HSE.out hs HMW.out HIS.out)
 clear u1 q1 ho9 hb6 HEA HC4 HBR4 HB5
 go_wp2_with fail
 refine HEN.out.mono ?_
 rintro e w6 ⟨rfl,⟨A10,c10,A11,c11,hC6⟩,hf6⟩
 have HC6:=Lib.hid hC6
 have hkl:Keep (fun b=>w4.heap.size≤b) w5 w6:=hf6.keep (fun b h _=>by have:=HZ.out;omega)
 have HL10:=Lib.hid (HL9.out.keep hkl)
 have BR6:=hf6.blk HBR5.out (by have:=HZ.out;have:=HGW.out;omega)
 have hbw6:Below w.heap.size w w6:=(Frm.below (G:=fun b=>b=g∨b=b2) HB6.out).trans hf6 |>.to_below (Nat.le_refl _) (fun k hk h=>by have:=HZ.out;have:=HGW.out;omega)
 have hrl6:gr<w6.heap.size:=BR6.lt
 have hw4w:w.heap.size≤w4.heap.size:=by have:=HZ.out;have:=HGW.out;omega
 have q:=four_ HC6.out.blk
 clear HC5 HBR5 HB6 HEN hC6 hf6 hkl HL9
 go_wp2_with fail
 refine (town_ HC6.out.db HOK'.out).mono ?_
 rintro e9 w9 hO
 obtain ⟨cz,rfl,hr9,hb9⟩:=hO.owned
 clear hO
 have hczl:cz.length=4:=eDB.len hr9
 have hone:=eDB.one hr9
 have hsz9:(Tryz.prog.info? 43).map (·.size)=some cz.length:=by rw [hczl];kernel_rfl
 have BR9:=BR6.ext hb9
 have hth:=Blk.there (o:=0) (n:=4) BR9 (by simp)
 have hrl:gr<w6.heap.size:=hrl6
 have hwr:w.heap.size≤gr:=HGS.out
 have hbz8:=hbw6.trans (Below.mono hb9 hbw6.size)
 have hws:w.heap.size≤w6.heap.size:=hbw6.size
 obtain ⟨B9,hg9⟩:=Blk.lay cz 0 BR9 (by rw [hczl];simp)
 rw [laid_all _ _ (by rw [hczl];rfl)] at B9
 have hbw9:=hbz8.grown hg9 hbz8.size (fun k hk=>by injection hk with hk;omega)
 have HR9:=Lib.hid (eDB.mono (eDB.keep hr9 (Keep.grown hg9 (fun g hg h=>by injection hg with hg;omega))) (G:=fun b=>w.heap.size≤b) (fun b h=>Nat.le_trans hws h))
 have hg9':=hg9
 clear hr9 hg9 hbz8
 have HL11:=Lib.hid ((((HL10.out.ext hb9).keep (Keep.grown hg9' (fun g hg h=>by injection hg with hg;have:=HGW.out;have:=HZ.out;omega))).mono (fun b h=>Nat.le_trans hw4w h)))
 clear hg9'
 go_wp2_with ((with_reducible show wpList _ _ _ (Oper.mk none (Op.store _ (Operand.tmp 4) _) _ _ _ _::_) _ _);(refine wpList_store_mid rfl 43 _ _ rfl gr 0 cz.toArray rfl rfl ?zs1 ?zt1 (all_oneCell_toArray hone) ?_))
 case zs1=>exact (show cz.toArray.size=4 by simp [hczl]) ▸ hth
 case zt1=>rw [List.size_toArray];exact hsz9
 clear hth BR9
 generalize w9.setCells gr 0 cz=wz at *
 go_wp2
 refine bodyPost_ret (v:=.tuple #[.agg cz.toArray,.slice A9 log.length c9,.int .i64 0]) (results_row_tmp2 rfl _ _ gr _ _ (0,0) _ rfl B9 Tryz.underlying43 rfl (by rw [List.size_toArray];exact hsz9) rfl rfl) rfl ⟨cz,A9,c9,rfl,HR9.out,HL11.out,hbw9⟩
abbrev TxD:=Int × List Chg
abbrev BlkD:=Int × List UInt8 × List UInt8 × Int
abbrev LedD:=Int × List TxD × List BlkD × List (List TxD)
def eHash:Enc (List UInt8):=⟨32,fun _ _ cs l=>cs=cellsB l∧l.length=32,fun h=>by rw [h.1,lenB,h.2],fun h u hu=>by rw [h.1] at hu;exact oneB _ u hu,fun h _=>h,fun h _=>h⟩
def eTx:Enc TxD:=eInt.pair (eSl eChg)
def eBlk:Enc BlkD:=eInt.pair (eHash.pair (eHash.pair eInt))
def eLed:Enc LedD:=eInt.pair ((eSl eTx).pair ((eSl eBlk).pair (eSl (eSl eTx))))
theorem eTx_inv {w:World} {F:Blocks} {cs:List Value} {x:TxD} (h:eTx.rel w F cs x):∃ A n c,cs=[.int .i64 x.1,.slice A n c]∧Sl eChg w F A n c x.2:=by
 obtain ⟨_,_,rfl,rfl,A,n,c,rfl,h⟩:=h
 exact ⟨A,n,c,rfl,h⟩
theorem eTx_mk {w:World} {F:Blocks} {x:TxD} {A:Option Addr} {n c:Nat} (h:Sl eChg w F A n c x.2):eTx.rel w F [.int .i64 x.1,.slice A n c] x:=⟨[_],[_],rfl,rfl,A,n,c,rfl,h⟩
theorem eBlk_inv {w:World} {F:Blocks} {cs:List Value} {x:BlkD} (h:eBlk.rel w F cs x):cs=.int .i64 x.1::(cellsB x.2.1++(cellsB x.2.2.1++[.int .i64 x.2.2.2]))∧x.2.1.length=32∧x.2.2.1.length=32:=by
 obtain ⟨_,_,rfl,rfl,_,_,rfl,⟨rfl,h1⟩,_,_,rfl,⟨rfl,h2⟩,rfl⟩:=h
 exact ⟨rfl,h1,h2⟩
theorem eBlk_mk {w:World} {F:Blocks} {x:BlkD} (h1:x.2.1.length=32) (h2:x.2.2.1.length=32):eBlk.rel w F (.int .i64 x.1::(cellsB x.2.1++(cellsB x.2.2.1++[.int .i64 x.2.2.2]))) x :=
 ⟨[_],_,rfl,rfl,_,_,rfl,⟨rfl,h1⟩,_,_,rfl,⟨rfl,h2⟩,rfl⟩
theorem eLed_inv {w:World} {F:Blocks} {cs:List Value} {x:LedD} (h:eLed.rel w F cs x):∃ A n c A2 n2 c2 A3 n3 c3,cs=[.int .i64 x.1,.slice A n c,.slice A2 n2 c2,.slice A3 n3 c3]∧Sl eTx w F A n c x.2.1∧Sl eBlk w F A2 n2 c2 x.2.2.1∧Sl (eSl eTx) w F A3 n3 c3 x.2.2.2:=by
 obtain ⟨_,_,rfl,rfl,_,_,rfl,⟨A,n,c,rfl,h1⟩,_,_,rfl,⟨A2,n2,c2,rfl,h2⟩,⟨A3,n3,c3,rfl,h3⟩⟩:=h
 exact ⟨A,n,c,A2,n2,c2,A3,n3,c3,rfl,h1,h2,h3⟩
theorem eLed_mk {w:World} {F:Blocks} {x:LedD} {A A2 A3:Option Addr} {n c n2 c2 n3 c3:Nat} (h1:Sl eTx w F A n c x.2.1) (h2:Sl eBlk w F A2 n2 c2 x.2.2.1) (h3:Sl (eSl eTx) w F A3 n3 c3 x.2.2.2):eLed.rel w F [.int .i64 x.1,.slice A n c,.slice A2 n2 c2,.slice A3 n3 c3] x :=
 ⟨[_],_,rfl,rfl,[_],_,rfl,⟨A,n,c,rfl,h1⟩,[_],_,rfl,⟨A2,n2,c2,rfl,h2⟩,⟨A3,n3,c3,rfl,h3⟩⟩
theorem flat_blk:Flat eBlk:=⟨by
 intro w F cs x h w' G
 obtain ⟨rfl,h1,h2⟩:=eBlk_inv h
 exact eBlk_mk h1 h2⟩
theorem bnd_tx:Bnd eTx:=bnd_pair bnd_int (bnd_sl bnd_chg)
theorem bnd_led:Bnd eLed:=bnd_pair bnd_int (bnd_pair (bnd_sl bnd_tx) (bnd_pair (bnd_sl flat_blk.bnd) (bnd_sl (bnd_sl bnd_tx))))
theorem own_nil (w:World) (B k:Nat) (t:TypeId):w.ownsRow B t k (.slice none 0 0) 0 []:=⟨by simp,.inl ⟨rfl,rfl⟩⟩
theorem lroot1_ {w:World} {F:Blocks} {cs:List Value} {id:Nat} {x:Chg} (h:eTx.rel w F cs ((id:Int),[x])) (hok:OkC x) (hid:id<9223372036854775808) :
  Calls Tryz.prog 116 #[.agg cs.toArray] w fun e w'=>e=.returned (.agg (cellsB (rowH id 0 x)).toArray)∧Below w.heap.size w w':=by
 obtain ⟨A,n,c,rfl,hs⟩:=eTx_inv h
 have hn1:n=1:=hs.len.symm
 subst hn1
 obtain ⟨b,off,rfl,_,_,hbl⟩:=hs.some_ (by omega)
 have HS:=Lib.hid hs
 obtain ⟨i0,hi0,hy0,hy1,hy2⟩:=info_parts (P:=Tryz.prog) (e:=32) (z:=.agg (cellsB h0).toArray) (size:=32) (bytes:=32) (by kernel_rfl)
 have hz:=zero32
 have hzs:(Value.agg (cellsB h0).toArray).cells.size=32:=by kernel_rfl
 clear h hs
 go_enter Tryz.func116,Tryz.ntmps116
 go_upto_region 1 with fail
 obtain ⟨W,hW_,hb1,BT,BR⟩:=al2 w 125 32 #[.int .i64 (id:Int),.slice (some ⟨b,off,none⟩) 1 c] ((cellsB h0).toArray)
 rw [←hW_]
 clear hW_
 obtain ⟨gt,hgt⟩:∃ g,w.heap.size=g:=⟨_,rfl⟩
 obtain ⟨gr,hgr⟩:∃ g,w.heap.size+1=g:=⟨_,rfl⟩
 have hgrw:w.heap.size≤gr:=by omega
 rw [hgr] at BR ⊢
 rw [hgt] at BT ⊢
 clear hgt hgr
 have qt0:=BT.cell 0
 have qt1:=BT.cell 1
 go_wp2_with fail
 refine wp_loop_rounds 2 ?_
 rw [rounds_succ]
 obtain ⟨cs0,hcs0,hcell0⟩:=(HS.out.ext hb1).at_ (show [x][0]? = some x from rfl)
 obtain ⟨A3,n3,c3,rfl,hr3⟩:=eChg_inv hcs0
 simp only [show eChg.k=3 from rfl,Nat.zero_mul,Nat.add_zero] at hcell0
 have p0:=hcell0 0 _ rfl
 have p1:=hcell0 1 _ rfl
 have p2:=hcell0 2 _ rfl
 simp only [Nat.add_zero] at p0
 clear hcell0
 go_upto_region 5 with fail
 clear p0 p1 p2 qt0 qt1
 obtain ⟨W2,hW_,hb2,BC⟩:=al1 W 155 #[.string x.1,.int .i64 x.2.1,.slice A3 n3 c3]
 rw [←hW_]
 clear hW_
 obtain ⟨gc,hgc⟩:∃ g,W.heap.size=g:=⟨_,rfl⟩
 rw [hgc] at BC ⊢
 clear hgc
 have BT2:=BT.ext hb2
 have BR2:=BR.ext hb2
 have hbw2:=hb1.trans (Below.mono hb2 hb1.size)
 have HF:=Lib.hid (lrow_ (seq:=0) (eChg.ext hcs0 hb2) hok hid (by omega))
 have qt0:=BT2.cell 0
 have qc:=BC.three (Below.refl _ _)
 clear hcs0 hr3 hb1 hb2 BT BR
 go_wp2_with fail
 refine HF.out.mono ?_
 rintro e w3 ⟨rfl,hb3⟩
 have BR3:=BR2.ext hb3
 have hbw3:=hbw2.trans (Below.mono hb3 hbw2.size)
 obtain ⟨H,hH⟩:∃ H,rowH id 0 x=H:=⟨_,rfl⟩
 have hHl:H.length=32:=by rw [←hH];exact shaL_len _
 have HH:=Lib.hid hH
 rw [hH]
 clear hH HF qt0 qc BT2 BR2 hb3 hbw2 BC
 go_upto_region 6 with (first|((with_reducible show wpList _ _ _ (Oper.mk (some 20) _ _ _ _ _::_) _ _);(refine wpList_plain rfl fun K hK=>?_);(refine wp_slice1d 20 115 32 (.tmp 19) rfl rfl (cellsB H) rfl i0 _ Tryz.underlying115 hi0 hy0 (by rw [hy1,lenB,hHl]) (by rw [lenB,hHl];omega) (by rw [lenB,hHl];omega) ?_);(refine hK _ _ ?_)) |
  (at_builtin;(refine wpList_append_own _ rfl (.tmp 14) (.tmp 20) 115 rfl w3.heap.size 32 i0 _ 32 32 Tryz.underlying115 hi0 hy0 hy1 hy2 hzs (by decide) _ 0 _ rfl (own_nil _ _ _ _) ⟨w3.heap.size,0,none⟩ 1 1 (cellsB H) rfl ?a1 ?a2 ?a3 ?a4 ?a5 ?a6 ?_)))
 case a1=>rw [lenB,hHl]
 case a2=>exact (Row.of_blk (lo:=0) (Blk.new w3 32 (cellsB H).toArray) (Nat.zero_le _) 1 1 (Nat.le_refl _)).src
 case a3=>exact oneB H
 case a4=>unfold maxLen;omega
 case a5=>omega
 case a6=>simp
 clear hi0 hy0 hy1 hy2 hzs i0
 intro v' w4 hown hgrow _
 obtain ⟨A4,c4,rfl⟩:=own_slice hown
 obtain ⟨g4,rfl,hg4lo,hg4hi⟩:=own_some1 hown (by omega)
 have hba:=(Below.refl w3.heap.size w3).alloc (Nat.le_refl _) (.cells (cellsB H).toArray 32)
 have hb4:=hba.grown hgrow hba.size (fun k hk=>by simp [Value.ownBlock] at hk)
 have hrow:=Row.of_own hown
 have HRG:=Lib.hid (show w4.rangeAt g4 0 (cellsB H) from fun j u hu=>hrow.at_ hu)
 have hc4:1≤c4:=hrow.le_
 have BR4:=BR3.ext hb4
 have hbw4:=hbw3.trans (Below.mono hb4 hbw3.size)
 clear hown hgrow hba hb4 hrow BR3 hbw3
 go_wp2_with fail
 rw [rounds_succ]
 go_wp2_with fail
 have HF:=Lib.hid (root1_ hHl HRG.out hg4hi hc4)
 refine HF.out.mono ?_
 rintro e w5 ⟨rfl,hb5⟩
 have BR5:=BR4.ext hb5
 have hbw5:=hbw4.trans (Below.mono hb5 hbw4.size)
 clear HF HRG hb5 hbw4 BR4
 have hsz9:=size32 H hHl
 have hth9:=Blk.there (o:=0) (n:=32) BR5 (by rw [lenB,h0_len];omega)
 obtain ⟨B9,hg9⟩:=Blk.lay (cellsB H) 0 BR5 (by rw [lenB,lenB,h0_len,hHl];omega)
 rw [laid_all _ _ (by rw [lenB,lenB,h0_len,hHl])] at B9
 have hbw9:=hbw5.grown hg9 hbw5.size (fun k hk=>by injection hk with hk;omega)
 go_wp2_with ((with_reducible show wpList _ _ _ (Oper.mk none (Op.store _ (Operand.tmp 2) _) _ _ _ _::_) _ _);(refine wpList_store_mid rfl 32 _ _ rfl gr 0 (cellsB H).toArray rfl rfl ?h1 ?h2 (all_oneCell_toArray (oneB _)) ?_))
 case h1=>exact (show (cellsB H).toArray.size=32 by simp [lenB,hHl]) ▸ hth9
 case h2=>exact (show (cellsB H).toArray.size=(cellsB H).length by simp) ▸ hsz9
 clear hth9 hg9 BR5
 generalize w5.setCells gr 0 (cellsB H)=w9 at *
 go_wp2
 exact bodyPost_ret (v:=.agg (cellsB H).toArray) (results_cell_row rfl _ _ gr _ _ (0,0) _ rfl B9 Tryz.underlying32 rfl (by rw [List.size_toArray];exact hsz9)) rfl ⟨by rw [HH.out],hbw9⟩
theorem two_ {w w':World} {g:Nat} {t:TypeId} {x y:Value} (h:Blk w g t #[x,y]) (hb:Below w.heap.size w w'):w'.cell? ⟨g,0,none⟩=some x∧w'.cell? ⟨g,1,none⟩=some y :=
 ⟨(h.ext hb).cell 0,(h.ext hb).cell 1⟩
theorem wp_appB {w:World} {o:Oper} {a:Act} {K:Act→World→Prop} {Q:Exit→Act→World→Prop} (dd:Tmp) (s x:Operand) (hd:o.dst=some dd)
  (ho:o.op=.call { callee:=.builtin .append,args:=#[s,x],argTypes:=#[91,91] }) {B n c m c2 b off:Nat} {A:Option Addr} {l news:List UInt8} (hs:a.eval s=.slice A n c) (hl:l.length=n) (hown:Ob w B A c l)
  (hx:a.eval x=.slice (some ⟨b,off,none⟩) m c2) (hn:news.length=m) (hsrc:w.rangeAt b off (cellsB news)) (hle:n+m≤500000) (hB:B≤w.heap.size)
  (h:∀ A' c' w',Ob w' B A' c' (l++news)→Below B w w'→K { a with tmps:=a.tmps.setIfInBounds dd (.slice A' (n+m) c') } w'):o.wp Tryz.prog a w K Q:=by
 obtain ⟨i0,hi,hy0,hy1,hy2⟩:=info_parts (P:=Tryz.prog) (e:=5) (z:=.int .u8 0) (size:=1) (bytes:=1) (by kernel_rfl)
 subst hl
 refine wp_append_d dd s x 91 hd ho B 5 i0 _ 1 1 Tryz.underlying91 hi hy0 hy1 hy2 rfl (by decide) _ l.length (cellsB l) hs hown ⟨b,off,none⟩ m c2 (cellsB news) hx (by rw [lenB,hn];omega) (fun j u hu=>by rw [Addr.add_lit];exact hsrc j u hu) (oneB _) (by unfold maxLen;omega) (by omega) hB ?_
 intro A' c' w' h1 h2
 refine h A' c' w' ?_ ((Below.refl B w).grown h2 hB (fun k hk=>?_))
 ·show w'.ownsRow B _ 1 _ _ _
  rw [List.length_append,hn,cellsB_append]
  exact h1
 ·exact (hown.lt k hk).1
def entT (id:Nat) (x:Chg):List UInt8:=le 8 id++le 8 1++rowH id 0 x
def entH (id:Nat) (x:Chg):List UInt8:=shaL (0::entT id x)
theorem entry_ {w:World} {F:Blocks} {cs:List Value} {id:Nat} {x:Chg} (h:eTx.rel w F cs ((id:Int),[x])) (hok:OkC x) (hid:id<9223372036854775808) :
  Calls Tryz.prog 89 #[.agg cs.toArray] w fun e w'=>e=.returned (.agg (cellsB (entH id x)).toArray)∧Below w.heap.size w w':=by
 have HX:=Lib.hid h
 obtain ⟨A,n,c,rfl,hs⟩:=eTx_inv h
 have hn1:n=1:=hs.len.symm
 subst hn1
 have hz:=zero32
 clear h hs
 go_enter Tryz.func89,Tryz.ntmps89
 go_upto_region 1 with fail
 obtain ⟨W,hW_,hb1,BT,BR⟩:=al2 w 125 32 #[.int .i64 (id:Int),.slice A 1 c] ((cellsB h0).toArray)
 rw [←hW_]
 clear hW_
 obtain ⟨gt,hgt⟩:∃ g,w.heap.size=g:=⟨_,rfl⟩
 obtain ⟨gr,hgr⟩:∃ g,w.heap.size+1=g:=⟨_,rfl⟩
 have hgrw:w.heap.size≤gr:=by omega
 rw [hgr] at BR ⊢
 rw [hgt] at BT ⊢
 clear hgt hgr
 have HF:=Lib.hid (lroot1_ (eTx.ext HX.out hb1) hok hid)
 have D:=two_ BT (Below.refl _ _)
 go_wp2_with fail
 refine HF.out.mono ?_
 rintro e w3 ⟨rfl,hb3⟩
 have BR3:=BR.ext hb3
 have BT3:=BT.ext hb3
 have hbw3:=hb1.trans (Below.mono hb3 hb1.size)
 obtain ⟨H,hH⟩:∃ H,rowH id 0 x=H:=⟨_,rfl⟩
 have hHl:H.length=32:=by rw [←hH];exact shaL_len _
 have HH:=Lib.hid hH
 rw [hH]
 clear hH HF D BT BR hb1 hb3 HX
 have hsz9:=size32 H hHl
 obtain ⟨Wq,hWq⟩:∃ W',W'=w3.alloc (.cells (cellsB h0).toArray 32):=⟨_,rfl⟩
 have hbq:Below w3.heap.size w3 Wq:=by rw [hWq];exact (Below.refl _ _).alloc (Nat.le_refl _) _
 have BQ0:Blk Wq w3.heap.size 32 (cellsB h0).toArray:=by rw [hWq];exact Blk.new _ _ _
 have hthq:=Blk.there (o:=0) (n:=32) BQ0 (by rw [lenB,h0_len];omega)
 obtain ⟨BQ,hgq⟩:=Blk.lay (cellsB H) 0 BQ0 (by rw [lenB,lenB,h0_len,hHl];omega)
 rw [laid_all _ _ (by rw [lenB,lenB,h0_len,hHl])] at BQ
 have hbq5:=hbq.grown hgq hbq.size (fun k hk=>by injection hk with hk;omega)
 have BR5:=BR3.ext hbq5
 have BT5:=BT3.ext hbq5
 have hbw5:=hbw3.trans (Below.mono hbq5 hbw3.size)
 go_upto_region 2 with ((with_reducible show wpList _ _ _ (Oper.mk none (Op.store _ (Operand.tmp 3) _) _ _ _ _::_) _ _);(rw [←hWq]);(refine wpList_store_mid rfl 32 _ _ rfl w3.heap.size 0 (cellsB H).toArray rfl rfl ?h1 ?h2 (all_oneCell_toArray (oneB _)) ?_))
 case h1=>exact (show (cellsB H).toArray.size=32 by simp [lenB,hHl]) ▸ hthq
 case h2=>exact (show (cellsB H).toArray.size=(cellsB H).length by simp) ▸ hsz9
 clear hthq hgq hbq hbq5 BQ0 BR3 BT3 hbw3 hsz9
 obtain ⟨gq,hgq⟩:∃ g,w3.heap.size=g:=⟨_,rfl⟩
 rw [hgq] at BQ BR5 BT5 hbw5 ⊢
 generalize Wq.setCells gq 0 (cellsB H)=w5 at *
 clear hgq hWq
 have HBT:=Lib.hid BT5
 have HBR:=Lib.hid BR5
 have HBQ:=Lib.hid BQ
 have HW5:=Lib.hid hbw5
 have D:=fun w' (h:Below w5.heap.size w5.drew w')=>two_ BT5 (Below.trans (Below.refl _ _).drew h)
 clear BR5 BQ hbw5
 refine wp_region_tail (S:=fun w'=>Below w5.heap.size w5.drew w') [(0,true),(1,true),(2,true),(3,true),(4,true),(7,true),(5,false),(6,false),(8,false),(9,false)] [(10,false)] (by kernel_rfl) (by kernel_rfl) (Below.refl _ _) ?_
 repeat ((with_reducible refine pG ?_);(first|refine pT ?_|refine pF ?_);try go_frame)
 refine pD fun K hK=>?_;go_simp
 obtain ⟨Wa,hWa⟩:∃ W',W'=(w5.alloc (.cells #[.int .i64 (id:Int),.int .i64 1] 3)).drew:=⟨_,rfl⟩
 have BI:Blk Wa w5.heap.size 3 #[.int .i64 (id:Int),.int .i64 ((1:Nat):Int)]:=by rw [hWa];exact Blk.new _ _ _
 have hda:Below w5.heap.size w5.drew Wa:=by rw [hWa];exact show Below w5.heap.size w5.drew (w5.drew.alloc _) from (Below.refl w5.heap.size w5.drew).alloc (Nat.le_refl _) _
 rw [←hWa]
 clear hWa
 refine hK.out _ _ hda ?_
 clear hK K
 have HI:=Lib.hid (ints2_ BI hid (by omega))
 refine pD fun K hK=>?_;go_simp
 refine HI.out.mono ?_
 rintro e w6 ⟨A2,c2,rfl,ho2,hb2⟩
 obtain ⟨L2,hL2⟩:∃ L,L=le 8 id++le 8 1:=⟨_,rfl⟩
 have hL2l:L2.length=16:=by rw [hL2];simp [le]
 rw [←hL2] at ho2 ⊢
 have HL2:=Lib.hid (And.intro hL2 hL2l)
 have HO2:=Lib.hid (show Ob w6 Wa.heap.size A2 c2 L2 from ho2)
 have hd2:=hda.trans (Below.mono hb2 hda.size)
 rw [hL2l]
 refine hK.out _ _ hd2 ?_
 clear hK K HI ho2 BI hL2 hL2l
 have BQ6:=HBQ.out.ext ((Below.refl w5.heap.size w5).drew.trans hd2)
 refine wpPerm_do rfl (wanted_free rfl) (fun K hK=>?_)
 refine wp_appB 14 (.tmp 12) (.tmp 13) rfl rfl rfl HL2.out.2 HO2.out rfl hHl (Blk.range BQ6 (by simp)) (by omega) hb2.size ?_
 intro A3 c3 w7 ho3 hb3
 have hd3:=hd2.trans (Below.mono hb3 hda.size)
 obtain ⟨LT,hLT⟩:∃ L,L=L2++H:=⟨_,rfl⟩
 have hLTl:LT.length=48:=by rw [hLT,List.length_append,HL2.out.2,hHl]
 rw [←hLT] at ho3
 have HLT:=Lib.hid (show entT id x=LT by rw [hLT,HL2.out.1,←HH.out];rfl)
 have HO3:=Lib.hid (show Ob w7 Wa.heap.size A3 c3 LT from ho3)
 rw [show 16+32=48 from rfl]
 refine hK.out _ _ hd3 ?_
 clear hK K ho3 HO2 hLT BQ6
 have HF:=Lib.hid (leaf_ (HO3.out.byN hLTl) (by omega))
 refine pD fun K hK=>?_;go_simp
 refine HF.out.mono ?_
 rintro e w8 ⟨rfl,hb8⟩
 have hd8:=hd3.trans (Below.mono hb8 hd3.size)
 refine hK.out _ _ hd8 ?_
 clear hK K HF D
 refine wpTail_done ?_
 have hbb:=(Below.refl w5.heap.size w5).drew.trans hd8
 have BR8:=HBR.out.ext hbb
 have hbw8:=HW5.out.trans (Below.mono hbb HW5.out.size)
 clear hb2 hb3 hb8 hd2 hd3 hd8 hda hbb
 obtain ⟨H,hH⟩:∃ H,shaL (0::LT)=H:=⟨_,rfl⟩
 have hHl:H.length=32:=by rw [←hH];exact shaL_len _
 have HH9:=Lib.hid hH
 rw [hH]
 clear hH
 have hsz9:=size32 H hHl
 have hth9:=Blk.there (o:=0) (n:=32) BR8 (by rw [lenB,h0_len];omega)
 obtain ⟨B9,hg9⟩:=Blk.lay (cellsB H) 0 BR8 (by rw [lenB,lenB,h0_len,hHl];omega)
 rw [laid_all _ _ (by rw [lenB,lenB,h0_len,hHl])] at B9
 have hbw9:=hbw8.grown hg9 hbw8.size (fun k hk=>by injection hk with hk;omega)
 refine wpPerm_do rfl (wanted_free rfl) (fun K hK=>?_)
 refine wp_store_wide 32 (.tmp 2) (.tmp 15) rfl rfl gr 0 (cellsB H) rfl rfl (by rw [lenB,hHl];exact hth9) hsz9 (oneB _) ?_
 refine hK.out _ _ trivial (wpPerm_done ?_)
 clear hK K hth9 hg9 BR8
 generalize w8.setCells gr 0 (cellsB H)=w9 at *
 go_wp2
 exact bodyPost_ret (v:=.agg (cellsB H).toArray) (results_cell_row rfl _ _ gr _ _ (0,0) _ rfl B9 Tryz.underlying32 rfl (by rw [List.size_toArray];exact hsz9)) rfl ⟨by rw [←HH9.out,←HLT.out];rfl,hbw9⟩
theorem four_parts {w:World} {g:Nat} {t:TypeId} {A A' A2 A3:Option Addr} {n c n' c' n2 c2 n3 c3:Nat} {l l' l2 l3:List UInt8} (hg:Blk w g t #[.slice A n c,.slice A' n' c',.slice A2 n2 c2,.slice A3 n3 c3]) (h:By w A n c l) (h':By w A' n' c' l') (h2:By w A2 n2 c2 l2) (h3:By w A3 n3 c3 l3) :
  ∀ (i:Nat) p,[Part.mk A n c (cellsB l),Part.mk A' n' c' (cellsB l'),Part.mk A2 n2 c2 (cellsB l2),Part.mk A3 n3 c3 (cellsB l3)][i]? = some p→w.cell? ⟨g,i,none⟩=some (.slice p.A p.n p.c)∧PartOk w p:=by
 intro i p hp
 match i with
 | 0=>simp at hp;subst hp;exact ⟨hg.cell 0,h.1,by rw [lenB,h.2],oneB _⟩
 | 1=>simp at hp;subst hp;exact ⟨hg.cell 1,h'.1,by rw [lenB,h'.2],oneB _⟩
 | 2=>simp at hp;subst hp;exact ⟨hg.cell 2,h2.1,by rw [lenB,h2.2],oneB _⟩
 | 3=>simp at hp;subst hp;exact ⟨hg.cell 3,h3.1,by rw [lenB,h3.2],oneB _⟩
 | i+4=>simp at hp
theorem By.within {w:World} {g o n:Nat} {t:TypeId} {cs:List Value} {l:List UInt8} (h:Blk w g t cs.toArray) (hv:(cs.drop o).take n=cellsB l) (hl:l.length=n):By w (some ⟨g,o,none⟩) n n l:=by
 have hr:w.rangeAt g o (cellsB l):=Blk.range h (by rw [lenB,hl,hv])
 exact ⟨.inr (.inr ⟨g,o,rfl,Nat.le_refl _,Nat.zero_le _,h.lt,fun i u hu=>hr i u hu⟩),hl⟩
def blkT (n:Nat) (p r:List UInt8) (c:Nat):List UInt8:=le 8 n++p++r++le 8 c
theorem hash_ {w:World} {F:Blocks} {cs:List Value} {n c:Nat} {p r:List UInt8} (h:eBlk.rel w F cs ((n:Int),p,r,(c:Int))) (hn:n<9223372036854775808) (hc:c<9223372036854775808) :
  Calls Tryz.prog 64 #[.agg cs.toArray] w fun e w'=>e=.returned (.agg (cellsB (shaL (blkT n p r c))).toArray)∧Below w.heap.size w w':=by
 obtain ⟨hcs,hp,hr⟩:=eBlk_inv h
 simp only at hcs hp hr
 have hc0:cs[0]? = some (.int .i64 (n:Int)):=by rw [hcs];rfl
 have hc65:cs[65]? = some (.int .i64 (c:Int)):=by
  rw [hcs,List.getElem?_cons_succ,List.getElem?_append_right (by rw [lenB,hp];omega),lenB,hp,List.getElem?_append_right (by rw [lenB,hr];omega),lenB,hr]
  rfl
 have hcp:(cs.drop 1).take 32=cellsB p:=by
  rw [hcs,List.drop_succ_cons,List.drop_zero,List.take_append_of_le_length (by rw [lenB,hp];omega),List.take_of_length_le (by rw [lenB,hp];omega)]
 have hcr:(cs.drop 33).take 32=cellsB r:=by
  rw [hcs,List.drop_succ_cons,List.drop_append,List.drop_eq_nil_of_le (by rw [lenB,hp];omega),lenB,hp,List.nil_append]
  simp only [Nat.sub_self,List.drop_zero]
  rw [List.take_append_of_le_length (by rw [lenB,hr];omega),List.take_of_length_le (by rw [lenB,hr];omega)]
 have HCP:=Lib.hid (And.intro hcp hp)
 have HCR:=Lib.hid (And.intro hcr hr)
 have hz:=zero32
 clear hcs h hcp hcr
 go_enter Tryz.func64,Tryz.ntmps64
 go_upto_region 1 with fail
 obtain ⟨W,hW_,hb1,BB,BR⟩:=al2 w 190 32 (cs.toArray) ((cellsB h0).toArray)
 rw [←hW_]
 clear hW_
 obtain ⟨gb,hgb⟩:∃ g,w.heap.size=g:=⟨_,rfl⟩
 obtain ⟨gr,hgr⟩:∃ g,w.heap.size+1=g:=⟨_,rfl⟩
 have hgrw:w.heap.size≤gr:=by omega
 have hne:gb≠gr:=by omega
 rw [hgr] at BR ⊢
 rw [hgb] at BB ⊢
 clear hgb hgr
 have HBR:=Lib.hid BR
 have HW1:=Lib.hid hb1
 have HC0:=Lib.hid hc0
 have HC65:=Lib.hid hc65
 have D:∀ w',Blk w' gb 190 cs.toArray∧W.heap.size≤w'.heap.size→w'.cell? ⟨gb,0,none⟩=some (.int .i64 (n:Int))∧w'.cell? ⟨gb,65,none⟩=some (.int .i64 (c:Int)):=fun w' h=>⟨(h.1.cell 0).trans (by simpa using hc0),(h.1.cell 65).trans (by simpa using hc65)⟩
 refine wp_region_mixS1 (S:=fun w'=>Blk w' gb 190 cs.toArray∧W.heap.size≤w'.heap.size) ⟨10,13,fun g=>.slice (some ⟨g,0,none⟩) 1 1,.cells #[.int .i64 (c:Int)] 3⟩ [(0,true),(1,true),(4,true),(5,true),(6,true),(7,true),(8,true),(9,true)] [(2,false),(3,false)] [(11,false),(12,false),(13,false),(14,false)] (by kernel_rfl) (by kernel_rfl) ⟨BB,Nat.le_refl _⟩ (fun w1 w2 he h=>⟨h.1.ext he,Nat.le_trans h.2 he.size⟩) (fun w' h=>h.2) ?_
 repeat ((with_reducible refine iG ?_);(first|refine iT ?_|refine iF ?_);try go_frame)
 refine wpI_done ⟨?_,?_⟩
 ·intro y hy
  simp only [List.mem_cons,List.not_mem_nil,or_false] at hy
  subst hy
  exact ⟨_,rfl,rfl,wanted_free rfl,fun w=>by go_simp⟩
 clear hc0 hc65 D
 refine iD fun wI hI hSI K hK=>?_;go_simp
 obtain ⟨Wa,hWa⟩:∃ W',W'=wI.alloc (.cells #[.int .i64 (n:Int)] 3):=⟨_,rfl⟩
 have BI:Blk Wa wI.heap.size 3 #[.int .i64 (n:Int)]:=by rw [hWa];exact Blk.new _ _ _
 have hba:Below wI.heap.size wI Wa:=by rw [hWa];exact (Below.refl _ _).alloc (Nat.le_refl _) _
 have hIa:=Below.trans hI (Below.mono hba hI.size)
 rw [←hWa]
 clear hWa
 refine hK.out _ _ hba ?_
 clear hK K hI hSI hba
 refine iD fun wI hI hSI K hK=>?_;go_simp
 have hI3:=hIa.trans (Below.mono hI hIa.size)
 have HF:=Lib.hid (ints1_ (BI.ext hI) hn)
 refine HF.out.mono ?_
 rintro e w3 ⟨A3,c3,rfl,ho3,hb3⟩
 have hI4:=hI3.trans (Below.mono hb3 hI3.size)
 obtain ⟨L3,hL3⟩:∃ L,L=le 8 n:=⟨_,rfl⟩
 have hL3l:L3.length=8:=by rw [hL3];simp [le]
 rw [←hL3] at ho3 ⊢
 have HL3:=Lib.hid (And.intro hL3 hL3l)
 have HO3:=Lib.hid (show Ob w3 wI.heap.size A3 c3 L3 from ho3)
 rw [hL3l]
 refine hK.out _ _ hb3 ?_
 clear hK K HF ho3 hI hSI BI hI3 hIa hb3 hL3 hL3l
 repeat ((with_reducible refine iG ?_);(first|refine iT ?_|refine iF ?_);try go_frame)
 refine wpI_done ?_
 intro g1 wf he hb hlo1 hhi1 hat1
 try simp only [List.setIfInBounds_toArray,List.set_cons_zero,List.set_cons_succ]
 have B5:Blk wf g1 3 #[.int .i64 (c:Int)]:=hat1
 have HO4:=Lib.hid (HO3.out.ext he)
 have hI5:=hI4.trans (Below.mono he hI4.size)
 have HF:=Lib.hid (ints1_ B5 hc)
 clear he hat1 hI4
 refine pD fun K hK=>?_;go_simp
 refine HF.out.mono ?_
 rintro e w6 ⟨A6,c6,rfl,ho6,hb6⟩
 obtain ⟨L6,hL6⟩:∃ L,L=le 8 c:=⟨_,rfl⟩
 have hL6l:L6.length=8:=by rw [hL6];simp [le]
 rw [←hL6] at ho6 ⊢
 have HL6:=Lib.hid (And.intro hL6 hL6l)
 have HO6:=Lib.hid (show Ob w6 wf.heap.size A6 c6 L6 from ho6)
 have hI6:=hI5.trans (Below.mono hb6 hI5.size)
 rw [hL6l]
 refine hK.out _ _ ⟨hb.1.ext hb6,Nat.le_trans hb.2 hb6.size⟩ ?_
 clear hK K HF ho6 B5 hL6 hL6l
 have HO4:=Lib.hid (HO4.out.ext hb6)
 have BB6:=hb.1.ext hb6
 have hs6:=Nat.le_trans hb.2 hb6.size
 clear hb hb6 hI5
 refine pD fun K hK=>?_;go_simp
 obtain ⟨W7,hW7⟩:∃ W',W'=w6.alloc (.cells #[.slice A3 8 c3,.slice (some ⟨gb,1,none⟩) 32 32,.slice (some ⟨gb,33,none⟩) 32 32,.slice A6 8 c6] 91):=⟨_,rfl⟩
 have BS7:Blk W7 w6.heap.size 91 #[.slice A3 8 c3,.slice (some ⟨gb,1,none⟩) 32 32,.slice (some ⟨gb,33,none⟩) 32 32,.slice A6 8 c6]:=by rw [hW7];exact Blk.new _ _ _
 have hb7:Below w6.heap.size w6 W7:=by rw [hW7];exact (Below.refl _ _).alloc (Nat.le_refl _) _
 rw [←hW7]
 have BB7:=BB6.ext hb7
 have hs7:=Nat.le_trans hs6 hb7.size
 have hI7:=hI6.trans (Below.mono hb7 hI6.size)
 refine hK.out _ _ ⟨BB7,hs7⟩ ?_
 clear hK K hW7
 have hps:=four_parts BS7 ((HO4.out.ext hb7).byN HL3.out.2) (By.within BB7 HCP.out.1 HCP.out.2) (By.within BB7 HCR.out.1 HCR.out.2) ((HO6.out.ext hb7).byN HL6.out.2)
 have HS:=Lib.hid (sumOf_ W7 _ (L3++p++r++L6) _ 4 rfl BS7.lt hps (by have h1:=HL3.out.2;have h2:=HL6.out.2;simp [sumN,h1,h2,hp,hr]) (by simp [allC,cellsB_append]) (by have h1:=HL3.out.2;have h2:=HL6.out.2;simp [h1,h2,hp,hr]) (by omega))
 clear hps BS7 BB6 hI6 hs6 hb7
 refine pD fun K hK=>?_;go_simp
 refine HS.out.mono ?_
 rintro e w8 ⟨rfl,hb8⟩
 have BB8:=BB7.ext hb8
 have hs8:=Nat.le_trans hs7 hb8.size
 have hI8:=hI7.trans (Below.mono hb8 hI7.size)
 refine hK.out _ _ ⟨BB8,hs8⟩ ?_
 clear hK K HS BB7 hs7 hI7 hb8
 rw [HL3.out.1,HL6.out.1]
 have hbb:=(Below.refl W.heap.size W).drew.trans hI8
 have BR8:=HBR.out.ext hbb
 have hbw8:=HW1.out.trans (Below.mono hbb HW1.out.size)
 clear hbb hI8 BB BR hb1
 obtain ⟨H,hH⟩:∃ H,shaL (le 8 n++p++r++le 8 c)=H:=⟨_,rfl⟩
 have hHl:H.length=32:=by rw [←hH];exact shaL_len _
 have HH9:=Lib.hid hH
 rw [hH]
 clear hH
 have hsz9:=size32 H hHl
 have hth9:=Blk.there (o:=0) (n:=32) BR8 (by rw [lenB,h0_len];omega)
 obtain ⟨B9,hg9⟩:=Blk.lay (cellsB H) 0 BR8 (by rw [lenB,lenB,h0_len,hHl];omega)
 rw [laid_all _ _ (by rw [lenB,lenB,h0_len,hHl])] at B9
 have hbw9:=hbw8.grown hg9 hbw8.size (fun k hk=>by injection hk with hk;omega)
 refine wpPerm_do rfl (wanted_free rfl) (fun K hK=>?_)
 refine wp_store_wide 32 (.tmp 2) (.tmp 16) rfl rfl gr 0 (cellsB H) rfl rfl (by rw [lenB,hHl];exact hth9) hsz9 (oneB _) ?_
 refine hK.out _ _ ⟨BB8.grown hg9 (by simpa using hne),Nat.le_trans hs8 hg9.size⟩ (wpPerm_done ?_)
 clear hK K hth9 hg9 BR8
 generalize w8.setCells gr 0 (cellsB H)=w9 at *
 go_wp2
 exact bodyPost_ret (v:=.agg (cellsB H).toArray) (results_cell_row rfl _ _ gr _ _ (0,0) _ rfl B9 Tryz.underlying32 rfl (by rw [List.size_toArray];exact hsz9)) rfl ⟨by rw [←HH9.out];rfl,hbw9⟩
def digC (n:Int) (H:List UInt8):List Value:=.int .i64 n::cellsB H
theorem zero_dig (w:World):(zeroValue 34).run Tryz.prog w=.ok (.agg (digC 0 h0).toArray) w:=by kernel_rfl
theorem built_dig0:Tryz.prog.built 34 []=some (digC 0 h0).toArray:=by kernel_rfl
theorem shape_dig:shapeOf Tryz.prog 34=some (digC 0 h0,[(0,1),(1,32)]):=by kernel_rfl
theorem digC_len (n:Int) (H:List UInt8) (h:H.length=32):(digC n H).length=33:=by rw [digC,List.length_cons,lenB,h]
theorem digC_one (n:Int) (H:List UInt8):∀ u∈digC n H,u.oneCell'=true:=by
 intro u hu
 rw [digC,List.mem_cons] at hu
 rcases hu with rfl|hu
 ·rfl
 ·exact oneB _ u hu
theorem size_dig (n:Int) (H:List UInt8) (h:H.length=32):(Tryz.prog.info? 34).map (·.size)=some (digC n H).length:=by rw [digC_len n H h];kernel_rfl
theorem size_blk {cs:List Value} (h:cs.length=66):(Tryz.prog.info? 190).map (·.size)=some cs.length:=by rw [h];kernel_rfl
theorem fill_dig (n:Int) (H:List UInt8) (h:H.length=32):fillL [(0,1),(1,32)] (digC 0 h0) [(0,.int .i64 n),(1,.agg (cellsB H).toArray)]=some (digC n H):=by
 have h1:laid (digC 0 h0) 0 [.int .i64 n]=.int .i64 n::cellsB h0:=by simp [laid,digC]
 have h2:laid (.int .i64 n::cellsB h0) 1 (cellsB H)=digC n H:=by
  have:=laid_mid [.int .i64 n] (cellsB h0) [] (cellsB H) (by rw [lenB,lenB,h,h0_len])
  simpa [digC] using this
 have c1:(Value.int .i64 n).cells.toList=[.int .i64 n]:=rfl
 have c2:(Value.agg (cellsB H).toArray).cells.toList=cellsB H:=rfl
 unfold fillL
 simp only [List.getElem?_cons_zero]
 rw [if_pos ⟨rfl,by rw [digC_len _ _ h0_len];simp⟩,c1,h1]
 unfold fillL
 simp only [List.getElem?_cons_succ,List.getElem?_cons_zero]
 rw [if_pos ⟨by show (cellsB H).length=32;rw [lenB,h],by rw [List.length_cons,lenB,h0_len];omega⟩,c2,h2]
 rfl
theorem ldig0_ {w:World} {F:Blocks} {cs:List Value} {x:LedD} (h:eLed.rel w F cs x) (hx:x.2.2.1=[]) :
  Calls Tryz.prog 21 #[.agg cs.toArray] w fun e w'=>e=.returned (.tuple #[.agg (digC 0 h0).toArray,.int .i64 2])∧Below w.heap.size w w':=by
 obtain ⟨A,n,c,A2,n2,c2,A3,n3,c3,rfl,h1,h2,h3⟩:=eLed_inv h
 have hn2:n2=0:=by rw [←h2.len,hx];rfl
 subst hn2
 have hz:=zero_dig
 clear h h1 h2 h3
 go_enter Tryz.func21,Tryz.ntmps21
 go_upto_region 1 with fail
 obtain ⟨W,hW_,hb1,BL,BR⟩:=al2 w 87 34 #[.int .i64 x.1,.slice A n c,.slice A2 0 c2,.slice A3 n3 c3] ((digC 0 h0).toArray)
 rw [←hW_]
 clear hW_
 obtain ⟨gr,hgr⟩:∃ g,w.heap.size+1=g:=⟨_,rfl⟩
 have hgrw:w.heap.size≤gr:=by omega
 rw [hgr] at BR ⊢
 clear hgr
 have q2:=BL.cell 2
 have hsz9:=size_dig 0 h0 h0_len
 have hth9:=Blk.there (o:=0) (n:=33) BR (by rw [digC_len _ _ h0_len];omega)
 obtain ⟨B9,hg9⟩:=Blk.lay (digC 0 h0) 0 BR (by rw [digC_len _ _ h0_len];omega)
 rw [laid_all _ _ rfl] at B9
 have hbw9:=hb1.grown hg9 hb1.size (fun k hk=>by injection hk with hk;omega)
 go_wp2_with (first|((with_reducible show wpList _ _ _ (Oper.mk (some 10) _ _ _ _ _::_) _ _);(refine wpList_buildP rfl 34 _ rfl (cs:=(digC 0 h0).toArray) rfl built_dig0 (some 10) rfl ?_)) |
  ((with_reducible show wpList _ _ _ (Oper.mk none (Op.store _ (Operand.tmp 2) _) _ _ _ _::_) _ _);(refine wpList_store_mid rfl 34 _ _ rfl gr 0 (digC 0 h0).toArray rfl rfl ?h1 ?h2 (all_oneCell_toArray (digC_one _ _)) ?_)))
 case h1=>exact (show (digC 0 h0).toArray.size=33 by simp [digC_len _ _ h0_len]) ▸ hth9
 case h2=>exact (show (digC 0 h0).toArray.size=(digC 0 h0).length by simp) ▸ hsz9
 clear hth9 hg9 BR q2
 generalize W.setCells gr 0 (digC 0 h0)=w9 at *
 go_wp2
 exact bodyPost_ret (v:=.tuple #[.agg (digC 0 h0).toArray,.int .i64 2]) (results_row_tmp rfl _ _ gr _ _ (0,0) _ rfl B9 Tryz.underlying34 rfl (by rw [List.size_toArray];exact hsz9) rfl) rfl ⟨rfl,hbw9⟩
theorem ldig_ {w:World} {F:Blocks} {cs:List Value} {x:LedD} {bs:List BlkD} {n c:Nat} {p r:List UInt8} (h:eLed.rel w F cs x) (hx:x.2.2.1=bs++[((n:Int),p,r,(c:Int))]) (hn:n<9223372036854775808) (hc:c<9223372036854775808) (hbs:bs.length≤1000000) :
  Calls Tryz.prog 21 #[.agg cs.toArray] w fun e w'=>e=.returned (.tuple #[.agg (digC n (shaL (blkT n p r c))).toArray,.int .i64 0])∧Below w.heap.size w w':=by
 obtain ⟨A,n1,c1,A2,n2,c2,A3,n3,c3,rfl,h1,h2,h3⟩:=eLed_inv h
 obtain ⟨k,hk⟩:∃ k,bs.length=k:=⟨_,rfl⟩
 have hn2:n2=k+1:=by rw [←h2.len,hx,List.length_append,hk];rfl
 subst hn2
 rw [hk] at hbs
 obtain ⟨b,off,rfl,_,hFb,hbl⟩:=h2.some_ (by omega)
 obtain ⟨cb,hcb,hcell⟩:=h2.at_ (i:=k) (by rw [hx,←hk,List.getElem?_append_right (Nat.le_refl _),Nat.sub_self];rfl)
 have hkl:cb.length=66:=eBlk.len hcb
 have hc0:cb[0]? = some (.int .i64 (n:Int)):=by obtain ⟨rfl,_⟩:=eBlk_inv hcb;rfl
 simp only [show eBlk.k=66 from rfl] at hcell
 have HCB:=Lib.hid hcb
 have HHC:=Lib.hid (And.intro hcell hc0)
 have hp0:=hcell 0 _ hc0
 have hz:=zero_dig
 clear h h1 h2 h3 hcb hcell hx hk
 go_enter Tryz.func21,Tryz.ntmps21
 go_upto_region 1 with fail
 obtain ⟨W,hW_,hb1,BL,BR⟩:=al2 w 87 34 #[.int .i64 x.1,.slice A n1 c1,.slice (some ⟨b,off,none⟩) (k+1) c2,.slice A3 n3 c3] ((digC 0 h0).toArray)
 rw [←hW_]
 clear hW_
 obtain ⟨gl,hgl⟩:∃ g,w.heap.size=g:=⟨_,rfl⟩
 obtain ⟨gr,hgr⟩:∃ g,w.heap.size+1=g:=⟨_,rfl⟩
 have hgrw:w.heap.size≤gr:=by omega
 have hne:gl≠gr:=by omega
 have hneb:b≠gr:=by omega
 rw [hgr] at BR ⊢
 rw [hgl] at BL ⊢
 clear hgr hgl
 have q2:=BL.cell 2
 go_upto_region 4 with fail
 have HBR:=Lib.hid BR
 have hRW:W.rangeAt b (off+k * 66) cb:=fun j u hu=>(hb1.cell (p:=⟨b,off+k * 66+j,none⟩) hbl).trans (HHC.out.1 j u hu)
 have hszb:=size_blk hkl
 have D:=fun w' (hS:Blk w' gl 87 #[.int .i64 x.1,.slice A n1 c1,.slice (some ⟨b,off,none⟩) (k+1) c2,.slice A3 n3 c3]∧w'.rangeAt b (off+k * 66) cb∧W.heap.size≤w'.heap.size)=>show w'.cell? ⟨gl,2,none⟩=some (.slice (some ⟨b,off,none⟩) (k+1) c2)∧w'.cell? ⟨b,off+k * 66,none⟩=some (.int .i64 (n:Int)) from ⟨hS.1.cell 2,hS.2.1 0 _ hc0⟩
 have hwk:IntKind.i64.wrap (k:Int)=(k:Int):=IntWalk.i64_in _ ⟨by omega,by omega⟩
 clear q2 hp0
 refine wp_region_oneS (S:=fun w'=>Blk w' gl 87 #[.int .i64 x.1,.slice A n1 c1,.slice (some ⟨b,off,none⟩) (k+1) c2,.slice A3 n3 c3]∧w'.rangeAt b (off+k * 66) cb∧W.heap.size≤w'.heap.size) [(0,true),(1,true),(2,true),(3,true),(4,true),(5,true),(6,true),(7,true),(8,true),(9,true),(10,true),(11,true),(12,true),(13,false),(14,true),(15,false),(16,true)] (by kernel_rfl) (by kernel_rfl) (by kernel_rfl) (by decide) ⟨BL,hRW,Nat.le_refl _⟩ ?_
 repeat ((with_reducible refine pG ?_);(first|refine pT ?_|refine pF ?_);try go_frame)
 refine wpPerm_on (v:=.pointer (some ⟨b,off+k * 66,none⟩)) rfl rfl (wanted_free rfl) (fun w' hS=>by go_simp;intro h9;omega) ?_
 go_frame
 repeat ((with_reducible refine pG ?_);(first|refine pT ?_|refine pF ?_);try go_frame)
 refine wpPerm_on (v:=.pointer (some ⟨b,off+k * 66,none⟩)) rfl rfl (wanted_free rfl) (fun w' hS=>by go_simp;intro h9;omega) ?_
 go_frame
 refine wpPerm_on rfl rfl (wanted_free rfl) (fun w' hS=>exec_load_mid 190 (.tmp 22) rfl b (off+k * 66) rfl cb _ hS.2.1 Tryz.underlying190 rfl hszb) ?_
 go_frame
 clear D
 have hd0:=(Below.refl W.heap.size W).drew
 have HF:=Lib.hid (hash_ (eBlk.ext HCB.out (hb1.drew)) hn hc)
 refine pD fun K hK=>?_;go_simp
 refine HF.out.mono ?_
 rintro e w8 ⟨rfl,hb8⟩
 have hbb:=hd0.trans hb8
 have BL8:=BL.ext hbb
 have hR8:w8.rangeAt b (off+k * 66) cb:=fun j u hu=>(hbb.cell (p:=⟨b,off+k * 66+j,none⟩) (Nat.lt_of_lt_of_le hbl hb1.size)).trans (hRW j u hu)
 have hs8:=hbb.size
 have BR8:=HBR.out.ext hbb
 have hbw8:=hb1.trans (Below.mono hbb hb1.size)
 obtain ⟨H,hH⟩:∃ H,shaL (blkT n p r c)=H:=⟨_,rfl⟩
 have hHl:H.length=32:=by rw [←hH];exact shaL_len _
 have HH9:=Lib.hid hH
 rw [hH]
 refine hK.out _ _ ⟨BL8,hR8,hs8⟩ ?_
 clear hK K HF hH hbb hb8 BL hRW hb1 hd0 BR
 refine wpPerm_on rfl rfl (wanted_free rfl) (fun w' hS=>exec_build (ps:=[(0,.int .i64 n),(1,.agg (cellsB H).toArray)]) 34 _ rfl shape_dig rfl (fill_dig n H hHl)) ?_
 go_frame
 have hDl:=digC_len n H hHl
 have hsz9:=size_dig n H hHl
 have hone:=digC_one n H
 obtain ⟨DC,hDC⟩:∃ D,D=digC n H:=⟨_,rfl⟩
 rw [←hDC] at hDl hsz9 hone ⊢
 have hth9:=Blk.there (o:=0) (n:=33) BR8 (by rw [digC_len _ _ h0_len];omega)
 obtain ⟨B9,hg9⟩:=Blk.lay DC 0 BR8 (by rw [hDl,digC_len _ _ h0_len];omega)
 rw [laid_all _ _ (by rw [hDl,digC_len _ _ h0_len])] at B9
 have hbw9:=hbw8.grown hg9 hbw8.size (fun k hk=>by injection hk with hk;omega)
 refine wpPerm_do rfl (wanted_free rfl) (fun K hK=>?_)
 refine wp_store_wide 34 (.tmp 2) (.tmp 25) rfl rfl gr 0 DC rfl rfl (by rw [hDl];exact hth9) hsz9 hone ?_
 refine hK.out _ _ ⟨BL8.grown hg9 (by simpa using hne),fun j u hu=>(World.cell?_of_block (hg9.block b (Nat.lt_of_lt_of_le hbl hbw8.size) (by simpa using hneb))).trans (hR8 j u hu),Nat.le_trans hs8 hg9.size⟩ ?_
 clear hK K hth9 hg9 BR8
 generalize w8.setCells gr 0 DC=w9 at *
 repeat ((with_reducible refine pG ?_);(first|refine pT ?_|refine pF ?_);try go_frame)
 refine wpPerm_done ?_
 go_wp2
 exact bodyPost_ret (v:=.tuple #[.agg DC.toArray,.int .i64 0]) (results_row_tmp rfl _ _ gr _ _ (0,0) _ rfl B9 Tryz.underlying34 rfl (by rw [List.size_toArray];exact hsz9) rfl) rfl ⟨by rw [hDC,←HH9.out],hbw9⟩
def okTx (x:TxD):Prop:=x.2.length≤1000∧∀ c∈x.2,okChg c
theorem lownTx_ {w:World} {F:Blocks} {cs0:List Value} {x0:TxD} (h0:eTx.rel w F cs0 x0) (hok:okTx x0):Calls Tryz.prog 114 #[.agg cs0.toArray] w (Owned eTx x0 w):=by
 obtain ⟨A,n,c,rfl,h⟩:=eTx_inv h0
 obtain ⟨id,x⟩:=x0
 obtain ⟨hn,hok⟩:=hok
 simp only at h hn hok ⊢
 obtain ⟨i0,hi,hz0,hz1,hz2⟩:=info_parts (P:=Tryz.prog) (e:=155) (z:=.agg #[.string ⟨#[]⟩,.int .i64 0,.slice none 0 0]) (size:=3) (bytes:=48) (by kernel_rfl)
 clear h0
 have HS:=Lib.hid h
 have HL:=Lib.hid h.len
 have hn:n≤1000:=by have:=h.len;omega
 clear h
 have HK:=Lib.hid hok
 clear hok
 go_enter Tryz.func114,Tryz.ntmps114
 go_upto_region 1 with fail
 obtain ⟨W,hW_,hb0,BT,BR⟩:=al2 w 125 125 #[.int .i64 id,.slice A n c] #[.int .i64 0,.slice none 0 0]
 rw [←hW_]
 clear hW_
 obtain ⟨gt,hgt⟩:∃ g,w.heap.size=g:=⟨_,rfl⟩
 obtain ⟨gr,hgr⟩:∃ g,w.heap.size+1=g:=⟨_,rfl⟩
 have hgrw:w.heap.size≤gr:=by omega
 rw [hgr] at BR ⊢
 rw [hgt] at BT ⊢
 have HNE:=Lib.hid (show gt≠gr by omega)
 clear hgt hgr
 have HS:=Lib.hid (HS.out.ext hb0)
 have HB00:=Lib.hid hb0
 have HBT:=Lib.hid BT
 have HBR:=Lib.hid BR
 have qt1:=BT.cell 1
 go_wp2_with (at_make;refine wpList_make_full _ rfl _ _ 123 rfl W.heap.size 155 i0 (.agg #[.string ⟨#[]⟩,.int .i64 0,.slice none 0 0]) 3 Tryz.underlying123 hi hz0 hz1 _ _ _ _ n rfl rfl rfl rfl ?b2 ?b3 (Nat.le_refl _) ?_)
 case b2=>rw [hz2];omega
 case b3=>unfold maxLen;omega
 intro w1 hown hgrow
 obtain ⟨Z,BO,hZl⟩:=made_blk hown
 have hb1:=(Below.refl W.heap.size W).grown hgrow (Nat.le_refl _) (fun k hk=>by cases hk)
 have HT1:=Lib.hid (BT.ext hb1)
 have qt1:=HT1.out.cell 1
 have HT1:=Lib.hid (BT.ext hb1)
 have qt1:=HT1.out.cell 1
 obtain ⟨go,hgo⟩:∃ g,W.heap.size=g:=⟨_,rfl⟩
 have BO0:Blk w1 W.heap.size 155 ((([]:List (List Value)).flatten++Z.drop (0 * 3)).toArray):=by simpa using BO
 have HB0:=Lib.hid (And.intro BO0 hb1)
 clear hown hgrow BO BO0 hb1
 rw [hgo] at HB0
 have hgw:go=W.heap.size:=hgo.symm
 rw [hgo]
 clear hgo
 have HGW:=Lib.hid hgw
 clear hgw
 go_wp2_with fail
 go_loopw [13] (fun i wr=>∃ (k:Nat) (css:List (List Value)),i=.int .i64 k∧k≤n∧Hid (Els eChg wr (fun b=>go<b) css (x.take k))∧Hid (Blk wr go 155 (css.flatten++Z.drop (k * 3)).toArray∧Below go W wr)) (fun i _=>n - (intOf i).toNat)
 case atStart=>exact ⟨0,[],rfl,Nat.zero_le _,Lib.hid (by simpa using Els.nil _ _),HB0⟩
 case round =>
  clear HB0
  obtain ⟨k,css,rfl,hk,HE,HB⟩:=hrel
  rcases Nat.lt_or_ge k n with hlt|hge
  ·have hd:decide ((k:Int)<(n:Int))=true:=by simp;omega
   have hkn:(k:Int)<(n:Int):=by omega
   obtain ⟨y,hy⟩:∃ y,x[k]? = some y:=⟨_,List.getElem?_eq_getElem (by have:=HL.out;omega)⟩
   have HY:=Lib.hid hy
   obtain ⟨b0,off,rfl,hnc,hFb,hbl⟩:=HS.out.some_ (by omega)
   have hbw:=HB.out.2
   have hsz:=HB.out.1.lt
   have hS:=HS.out.ext (show Below W.heap.size W wr by rw [←HGW.out];exact hbw)
   obtain ⟨cs,hcs,hcell⟩:=hS.at_ hy
   have hcl1:cs.length=3:=eChg.len hcs
   obtain ⟨Ar,nr,cr,hcs9,hSr⟩:=eChg_inv hcs
   have HCS:=Lib.hid hcs9
   clear hcs9
   have hone:=eChg.one hcs
   have hcz:(Tryz.prog.info? 155).map (·.size)=some cs.length:=by rw [hcl1];kernel_rfl
   have C7:=Blk.new wr 155 (([.string ⟨#[]⟩,.int .i64 0,.slice none 0 0]:List Value)).toArray
   have hth7:=Blk.there (o:=0) (n:=3) C7 (by simp)
   obtain ⟨B7,hg7⟩:=Blk.lay cs 0 C7 (by rw [hcl1];simp)
   rw [laid_all _ _ (by rw [hcl1];rfl)] at B7
   have hb7:Below wr.heap.size wr ((wr.alloc (.cells #[.string ⟨#[]⟩,.int .i64 0,.slice none 0 0] 155)).setCells wr.heap.size 0 cs):=((Below.refl _ _).alloc (Nat.le_refl _) _).grown hg7 (by simp) (fun k hk=>by injection hk with hk;omega)
   clear hg7 C7
   have hrg:wr.rangeAt b0 (off+k * 3) cs:=fun j u hu=>hcell j u hu
   have HR:=Lib.hid hrg
   clear hrg hcell hS hy
   go_upto_region 5 with (first|((with_reducible show wpList _ _ _ (Oper.mk (some 17) _ _ _ _ _::_) _ _);(refine wpList_load_mid rfl 155 _ rfl b0 (off+k * 3) rfl cs _ HR.out Tryz.underlying155 rfl hcz ?_)) |
    ((with_reducible show wpList _ _ _ (Oper.mk none (Op.store _ (Operand.tmp 5) _) _ _ _ _::_) _ _);(refine wpList_store_mid rfl 155 _ _ rfl wr.heap.size 0 cs.toArray rfl rfl ?s5 ?s6 (all_oneCell_toArray hone) ?_)))
   case s5=>exact (show cs.toArray.size=3 by simp [hcl1]) ▸ hth7
   case s6=>rw [List.size_toArray];exact hcz
   have hSr7:=hSr.ext hb7
   clear hcs hSr
   generalize (wr.alloc (.cells #[.string ⟨#[]⟩,.int .i64 0,.slice none 0 0] 155)).setCells wr.heap.size 0 cs=W7 at *
   have q7:W7.cell? ⟨wr.heap.size,2,none⟩=some (.slice Ar nr cr):=by rw [B7.cell 2,HCS.out];rfl
   have hnr:nr≤1000:=by have h1:=hSr7.len;have h2:okRow y.2.2:=HK.out y (List.mem_of_getElem? HY.out);unfold okRow at h2;omega
   have HF:=Lib.hid (copyV hSr7 (by omega))
   have hW7:wr.heap.size<W7.heap.size:=B7.lt
   clear hSr7
   go_wp2_with fail
   refine HF.out.mono ?_
   rintro e w4 ⟨A4,c4,rfl,hown4,hb4⟩
   clear HF q7
   obtain ⟨cs4,hcs4⟩:∃ z,z=([.string y.1,.int .i64 y.2.1,.slice A4 y.2.2.length c4]:List Value):=⟨_,rfl⟩
   have hr40:eChg.rel w4 (fun b=>W7.heap.size≤b) cs4 y:=by rw [hcs4];exact eChg_mk (hown4.sl (fun b h _=>h) (fun b h=>h.1))
   have B74:=B7.ext hb4
   have q:w4.cell? ⟨wr.heap.size,2,none⟩=some (.slice Ar nr cr):=by rw [B74.cell 2,HCS.out];rfl
   have f:=B74.frozen 2
   have hg7:=set_grown w4 wr.heap.size 2 (.slice A4 y.2.2.length c4)
   have B75:=B74.set_ 2 (.slice A4 y.2.2.length c4)
   rw [HCS.out] at B75
   have hr41:=eChg.keep hr40 (Keep.grown hg7 (fun g hg hlt=>by injection hg with hg;omega))
   have hall:=(hb7.trans (Below.mono hb4 hb7.size)).grown hg7 (Nat.le_of_lt B74.lt) (fun k hk=>by injection hk with hk;omega)
   clear hown4 hr40 hg7 B7
   go_upto_region 6 with fail
   clear q f B74
   generalize w4.setCell ⟨wr.heap.size,2,none⟩ (.slice A4 y.2.2.length c4)=w5 at *
   have B75:Blk w5 wr.heap.size 155 cs4.toArray:=by rw [hcs4];exact B75
   have hr4:=hr41
   clear hcs4
   have hcl4:cs4.length=3:=eChg.len hr4
   have hone4:=eChg.one hr4
   have hcz4:(Tryz.prog.info? 155).map (·.size)=some cs4.length:=by rw [hcl4];kernel_rfl
   have hr4:=eChg.mono hr4 (G:=fun b=>go<b) (fun b h=>by have:=hb7.size;omega)
   have hE4:=Els.snoc (HE.out.ext hall) HY.out hr4
   have hfl:css.flatten.length=k * 3:=by have h9:=HE.out.flen;rw [List.length_take,Nat.min_eq_left (by have:=HL.out;omega)] at h9;exact h9
   have B4:=HB.out.1.ext hall
   have hbw4:=hbw.trans (Below.mono hall (Nat.le_of_lt hsz))
   have hkk:(k+1) * 3≤n * 3:=Nat.mul_le_mul_right _ hlt
   have hth:=Blk.there (o:=k * 3) (n:=3) B4 (by rw [List.length_append,List.length_drop,hfl,hZl];omega)
   obtain ⟨B5,hg5⟩:=Blk.lay cs4 (k * 3) B4 (by rw [List.length_append,List.length_drop,hfl,hZl];omega)
   rw [lay_at css.flatten Z cs4 k 3 hfl hcl4 (by rw [hZl];exact hkk)] at B5
   have hE5:=Els.keep hE4 (Keep.grown hg5 (fun g hg hlt=>by injection hg with hg;omega))
   have hbw5:=hbw4.grown hg5 (Nat.le_of_lt B4.lt) (fun k hk=>by injection hk with hk;omega)
   have HE5:=Lib.hid hE5
   have HB5:=Lib.hid (show Blk _ go 155 ((css++[cs4]).flatten++Z.drop ((k+1) * 3)).toArray∧Below go W _ from ⟨by rw [List.flatten_append,List.flatten_singleton];exact B5,hbw5⟩)
   clear hE5 hg5 B5 hbw5 hE4 hr4 hfl B4 hbw4 hbw
   go_upto_region 7 with (first|((with_reducible show wpList _ _ _ (Oper.mk (some 24) _ _ _ _ _::_) _ _);(refine wpList_load_mid rfl 155 _ rfl wr.heap.size 0 rfl cs4 _ (Blk.whole B75) Tryz.underlying155 rfl hcz4 ?_))|((with_reducible show wpList _ _ _ (Oper.mk none (Op.store _ (Operand.tmp 25) _) _ _ _ _::_) _ _);(refine wpList_store_mid rfl 155 _ _ rfl go (k * 3) cs4.toArray rfl rfl ?s7 ?s8 (all_oneCell_toArray hone4) ?_)))
   case s7=>exact (show cs4.toArray.size=3 by simp [hcl4]) ▸ hth
   case s8=>rw [List.size_toArray];exact hcz4
   generalize w5.setCells go (k * 3) cs4=W5 at *
   clear hth hone hone4
   go_wp2_with fail
   go_roundw
   case rel=>exact ⟨k+1,_,by go_num,by omega,HE5,HB5⟩
   case measure=>simp [intOf];omega
  ·obtain rfl:k=n:=by omega
   have hd:decide ((k:Int)<(k:Int))=false:=by simp
   have hxk:x.length=k:=HL.out
   subst hxk
   have hE:=HE.out
   rw [List.take_length] at hE
   have hB:=HB.out
   rw [List.drop_eq_nil_of_le (by omega),List.append_nil] at hB
   have HR:=Lib.hid (show OwnE eChg 155 wr W.heap.size (fun b=>W.heap.size≤b∧(some ⟨go,0,none⟩:Option Addr)≠some ⟨b,0,none⟩) (some ⟨go,0,none⟩) x.length x.length x from ⟨css,own_of_blk hB.1 hE.flen (by rw [HGW.out];exact Nat.le_refl _) hn,hE.mono (fun b h=>⟨by have:=HGW.out;omega,fun e=>by injection e with e;injection e with e;omega⟩),rfl⟩)
   have hbw:Below W.heap.size W wr:=by rw [←HGW.out];exact hB.2
   clear hE hB HE HB
   have hr:=eTx_mk (x:=(id,x)) (HR.out.sl (G:=fun b=>W.heap.size≤b) (fun b h _=>h) (fun b h=>h.1))
   have hgrl:gr<W.heap.size:=HBR.out.lt
   have BT8:=HBT.out.ext hbw
   have qt0:=BT8.cell 0
   have BR8:=HBR.out.ext hbw
   have hbw8:=HB00.out.trans (Below.mono hbw HB00.out.size)
   obtain ⟨cz,hcz⟩:∃ z,z=([.int .i64 id,.slice (some ⟨go,0,none⟩) x.length x.length]:List Value):=⟨_,rfl⟩
   have hczl:cz.length=2:=by rw [hcz];rfl
   have hone:∀ u∈cz,u.oneCell'=true:=by rw [hcz];exact eTx.one hr
   rw [←hcz] at hr
   have HCZ:=Lib.hid hcz
   have hsz:(Tryz.prog.info? 125).map (·.size)=some cz.length:=by rw [hczl];kernel_rfl
   have hth:=Blk.there (o:=0) (n:=2) BR8 (by simp)
   obtain ⟨B9,hg9⟩:=Blk.lay cz 0 BR8 (by rw [hczl];simp)
   rw [laid_all _ _ (by rw [hczl];rfl)] at B9
   have hbw9:=hbw8.grown hg9 hbw8.size (fun k hk=>by injection hk with hk;omega)
   have hr9:=eTx.mono (eTx.keep hr (Keep.grown hg9 (fun g hg hlt=>by injection hg with hg;omega))) (G:=fun b=>w.heap.size≤b) (fun b h=>Nat.le_trans HB00.out.size h)
   have HR9:=Lib.hid hr9
   clear hr hr9 hg9 BR8 hbw8 HR hcz
   go_wp2_with ((with_reducible show wpList _ _ _ (Oper.mk none (Op.store _ (Operand.tmp 2) _) _ _ _ _::_) _ _);(refine wpList_store_mid rfl 125 _ _ rfl gr 0 cz.toArray rfl (by rw [HCZ.out];rfl) ?s1 ?s2 (all_oneCell_toArray hone) ?_))
   generalize wr.setCells gr 0 cz=w9 at *
   clear hth BT8 qt0
   exact bodyPost_ret (v:=.agg cz.toArray) (results_cell_row rfl _ _ gr _ _ (0,0) _ rfl B9 Tryz.underlying125 rfl (by rw [List.size_toArray];exact hsz)) rfl ⟨cz,rfl,HR9.out,hbw9⟩
theorem lownTxs_ {w:World} {F:Blocks} {A:Option Addr} {n c:Nat} {x:List TxD} (h:Sl eTx w F A n c x) (hn:x.length≤1000) (hok:∀ y∈x,okTx y):Calls Tryz.prog 126 #[.slice A n c] w (CopiedT eTx 125 x w):=by
 obtain ⟨i0,hi,hz0,hz1,hz2⟩:=info_parts (P:=Tryz.prog) (e:=125) (z:=.agg #[.int .i64 0,.slice none 0 0]) (size:=2) (bytes:=32) (by kernel_rfl)
 have HS:=Lib.hid h
 have HL:=Lib.hid h.len
 have hn:n≤1000:=by have:=h.len;omega
 clear h
 have HK:=Lib.hid hok
 clear hok
 go_enter Tryz.func126,Tryz.ntmps126
 go_wp2_with (at_make;refine wpList_make_full _ rfl _ _ 83 rfl w.heap.size 125 i0 (.agg #[.int .i64 0,.slice none 0 0]) 2 Tryz.underlying83 hi hz0 hz1 _ _ _ _ n rfl rfl rfl rfl ?b2 ?b3 (Nat.le_refl _) ?_)
 case b2=>rw [hz2];omega
 case b3=>unfold maxLen;omega
 intro w1 hown hgrow
 obtain ⟨Z,BO,hZl⟩:=made_blk hown
 have hb1:=(Below.refl w.heap.size w).grown hgrow (Nat.le_refl _) (fun k hk=>by cases hk)
 obtain ⟨go,hgo⟩:∃ g,w.heap.size=g:=⟨_,rfl⟩
 have BO0:Blk w1 w.heap.size 125 ((([]:List (List Value)).flatten++Z.drop (0 * 2)).toArray):=by simpa using BO
 have HB0:=Lib.hid (And.intro BO0 hb1)
 clear hown hgrow BO BO0 hb1
 rw [hgo] at HB0
 have hgw:go=w.heap.size:=hgo.symm
 rw [hgo]
 clear hgo
 have HGW:=Lib.hid hgw
 clear hgw
 go_wp2_with fail
 go_loopw [11] (fun i wr=>∃ (k:Nat) (css:List (List Value)),i=.int .i64 k∧k≤n∧Hid (Els eTx wr (fun b=>go<b) css (x.take k))∧Hid (Blk wr go 125 (css.flatten++Z.drop (k * 2)).toArray∧Below go w wr)) (fun i _=>n - (intOf i).toNat)
 case atStart=>exact ⟨0,[],rfl,Nat.zero_le _,Lib.hid (by simpa using Els.nil _ _),HB0⟩
 case round =>
  clear HB0
  obtain ⟨k,css,rfl,hk,HE,HB⟩:=hrel
  rcases Nat.lt_or_ge k n with hlt|hge
  ·have hd:decide ((k:Int)<(n:Int))=true:=by simp;omega
   have hkn:(k:Int)<(n:Int):=by omega
   obtain ⟨y,hy⟩:∃ y,x[k]? = some y:=⟨_,List.getElem?_eq_getElem (by have:=HL.out;omega)⟩
   have HY:=Lib.hid hy
   obtain ⟨b0,off,rfl,hnc,hFb,hbl⟩:=HS.out.some_ (by omega)
   have hbw:=HB.out.2
   have hsz:=HB.out.1.lt
   have hS:=HS.out.ext (show Below w.heap.size w wr by rw [←HGW.out];exact hbw)
   obtain ⟨cs,hcs,hcell⟩:=hS.at_ hy
   have hcl1:cs.length=2:=eTx.len hcs
   have hone:=eTx.one hcs
   have hcz:(Tryz.prog.info? 125).map (·.size)=some cs.length:=by rw [hcl1];kernel_rfl
   have C7:=Blk.new wr 125 (([.int .i64 0,.slice none 0 0]:List Value)).toArray
   have hth7:=Blk.there (o:=0) (n:=2) C7 (by simp)
   obtain ⟨B7,hg7⟩:=Blk.lay cs 0 C7 (by rw [hcl1];simp)
   rw [laid_all _ _ (by rw [hcl1];rfl)] at B7
   have hb7:Below wr.heap.size wr ((wr.alloc (.cells #[.int .i64 0,.slice none 0 0] 125)).setCells wr.heap.size 0 cs):=((Below.refl _ _).alloc (Nat.le_refl _) _).grown hg7 (by simp) (fun k hk=>by injection hk with hk;omega)
   clear hg7 C7
   have hrg:wr.rangeAt b0 (off+k * 2) cs:=fun j u hu=>hcell j u hu
   have HR:=Lib.hid hrg
   clear hrg hcell hS hy
   go_upto_region 5 with (first|((with_reducible show wpList _ _ _ (Oper.mk (some 15) _ _ _ _ _::_) _ _);(refine wpList_load_mid rfl 125 _ rfl b0 (off+k * 2) rfl cs _ HR.out Tryz.underlying125 rfl hcz ?_)) |
    ((with_reducible show wpList _ _ _ (Oper.mk none (Op.store _ (Operand.tmp 5) _) _ _ _ _::_) _ _);(refine wpList_store_mid rfl 125 _ _ rfl wr.heap.size 0 cs.toArray rfl rfl ?s5 ?s6 (all_oneCell_toArray hone) ?_)))
   case s5=>exact (show cs.toArray.size=2 by simp [hcl1]) ▸ hth7
   case s6=>rw [List.size_toArray];exact hcz
   have HC:=Lib.hid (eTx.ext hcs hb7)
   clear hcs
   generalize (wr.alloc (.cells #[.int .i64 0,.slice none 0 0] 125)).setCells wr.heap.size 0 cs=W7 at *
   have HF:=Lib.hid (lownTx_ HC.out (HK.out y (List.mem_of_getElem? HY.out)))
   go_wp2_with ((with_reducible show wpList _ _ _ (Oper.mk (some 18) _ _ _ _ _::_) _ _);(refine wpList_load_mid rfl 125 _ rfl wr.heap.size 0 rfl cs _ (Blk.whole B7) Tryz.underlying125 rfl hcz ?_))
   refine HF.out.mono ?_
   rintro e w4 ⟨cs4,rfl,hr4,hb4⟩
   clear HF HC B7
   have hcl4:cs4.length=2:=eTx.len hr4
   have hone4:=eTx.one hr4
   have hcz4:(Tryz.prog.info? 125).map (·.size)=some cs4.length:=by rw [hcl4];kernel_rfl
   have hr4:=eTx.mono hr4 (G:=fun b=>go<b) (fun b h=>by have:=hb7.size;omega)
   have hE4:=Els.snoc ((HE.out.ext hb7).ext hb4) HY.out hr4
   have hfl:css.flatten.length=k * 2:=by have h9:=HE.out.flen;rw [List.length_take,Nat.min_eq_left (by have:=HL.out;omega)] at h9;exact h9
   have B4:=(HB.out.1.ext hb7).ext hb4
   have hbw4:=(hbw.trans (Below.mono hb7 (Nat.le_of_lt hsz))).trans (Below.mono hb4 (Nat.le_trans (Nat.le_of_lt hsz) hb7.size))
   have hkk:(k+1) * 2≤n * 2:=Nat.mul_le_mul_right _ hlt
   have hth:=Blk.there (o:=k * 2) (n:=2) B4 (by rw [List.length_append,List.length_drop,hfl,hZl];omega)
   obtain ⟨B5,hg5⟩:=Blk.lay cs4 (k * 2) B4 (by rw [List.length_append,List.length_drop,hfl,hZl];omega)
   rw [lay_at css.flatten Z cs4 k 2 hfl hcl4 (by rw [hZl];exact hkk)] at B5
   have hE5:=Els.keep hE4 (Keep.grown hg5 (fun g hg hlt=>by injection hg with hg;omega))
   have hbw5:=hbw4.grown hg5 (Nat.le_of_lt B4.lt) (fun k hk=>by injection hk with hk;omega)
   have HE5:=Lib.hid hE5
   have HB5:=Lib.hid (show Blk _ go 125 ((css++[cs4]).flatten++Z.drop ((k+1) * 2)).toArray∧Below go w _ from ⟨by rw [List.flatten_append,List.flatten_singleton];exact B5,hbw5⟩)
   clear hE5 hg5 B5 hbw5 hE4 hr4 hfl B4 hbw4 hbw
   go_upto_region 6 with ((with_reducible show wpList _ _ _ (Oper.mk none (Op.store _ (Operand.tmp 20) _) _ _ _ _::_) _ _);(refine wpList_store_mid rfl 125 _ _ rfl go (k * 2) cs4.toArray rfl rfl ?s7 ?s8 (all_oneCell_toArray hone4) ?_))
   case s7=>exact (show cs4.toArray.size=2 by simp [hcl4]) ▸ hth
   case s8=>rw [List.size_toArray];exact hcz4
   generalize w4.setCells go (k * 2) cs4=W5 at *
   clear hth hone hone4
   go_wp2_with fail
   go_roundw
   case rel=>exact ⟨k+1,_,by go_num,by omega,HE5,HB5⟩
   case measure=>simp [intOf];omega
  ·obtain rfl:k=n:=by omega
   have hd:decide ((k:Int)<(k:Int))=false:=by simp
   have hxk:x.length=k:=HL.out
   subst hxk
   have hE:=HE.out
   rw [List.take_length] at hE
   have hB:=HB.out
   rw [List.drop_eq_nil_of_le (by omega),List.append_nil] at hB
   have HR:=Lib.hid (show OwnE eTx 125 wr w.heap.size (fun b=>w.heap.size≤b∧(some ⟨go,0,none⟩:Option Addr)≠some ⟨b,0,none⟩) (some ⟨go,0,none⟩) x.length x.length x from ⟨css,own_of_blk hB.1 hE.flen (by rw [HGW.out];exact Nat.le_refl _) hn,hE.mono (fun b h=>⟨by have:=HGW.out;omega,fun e=>by injection e with e;injection e with e;omega⟩),rfl⟩)
   have hbw:Below w.heap.size w wr:=by rw [←HGW.out];exact hB.2
   clear hE hB HE HB
   go_wp2
   go_ret
   exact ⟨_,rfl,HR.out,hbw⟩
end Go.Proofs.YtgbcdkmjcokclaaGreat.tp
namespace Go.Proofs.YtgbcdkmjcokclaaGreat.lib
open Go.ChangeShapes Go.WideShapes Go.ChangeAt Go.RowKit
section
variable {P:Program} {ops:Array Oper} {Q:Exit→Act→World→Prop} {md:Region.Mode} {S:World→Prop}
inductive Br where
 | fin:Br
 | seq:List (Nat × Bool)→Br→Br
 | two:Nat→Br→Nat→Br→Br
 | three:Nat→Br→Nat→Br→Nat→Br→Br
def BrQ (K:Act→World→Prop) (Q:Exit→Act→World→Prop):Exit→Act→World→Prop
 | .normal,a,w=>K a w
 | e,a,w=>Q e a w
def wpBr (P:Program) (ops:Array Oper) (Q:Exit→Act→World→Prop) (S:World→Prop):Br→Act→World→Prop
 | .fin=>fun a w=>Q .normal a w
 | .seq l t=>fun a w=>wpPerm P ops (BrQ (wpBr P ops Q S t) Q) S l a w
 | .two i t j u=>fun a w=>wpPerm P ops (BrQ (wpBr P ops Q S t) Q) S [(i,false)] a w∧wpPerm P ops (BrQ (wpBr P ops Q S u) Q) S [(j,false)] a w
 | .three i t j u k v=>fun a w=>wpPerm P ops (BrQ (wpBr P ops Q S t) Q) S [(i,false)] a w∧wpPerm P ops (BrQ (wpBr P ops Q S u) Q) S [(j,false)] a w∧wpPerm P ops (BrQ (wpBr P ops Q S v) Q) S [(k,false)] a w
def preOk (md:Region.Mode) (ops:Array Oper):List (Nat × Bool)→Array Bool→Bool
 | [],_=>true
 | (i,true)::r,listed=>(Region.ready md ops listed).contains i && Region.free md ops listed i && preOk md ops r (listed.setIfInBounds i true)
 | (i,false)::r,listed=>(match Region.ready md ops listed with | [j]=>j == i|_=>false) && preOk md ops r (listed.setIfInBounds i true)
def brOk (md:Region.Mode) (ops:Array Oper):Br→Array Bool→Bool
 | .fin,listed=>(Region.ready md ops listed).isEmpty
 | .seq l t,listed=>preOk md ops l listed && brOk md ops t (lay l listed)
 | .two i t j u,listed=>(Region.ready md ops listed == [i,j]) && brOk md ops t (listed.setIfInBounds i true) && brOk md ops u (listed.setIfInBounds j true)
 | .three i t j u k v,listed=>(Region.ready md ops listed == [i,j,k]) && brOk md ops t (listed.setIfInBounds i true) && brOk md ops u (listed.setIfInBounds j true) && brOk md ops v (listed.setIfInBounds k true)
def high:Br→Nat
 | .fin=>0
 | .seq l t=>l.length+high t
 | .two _ t _ u=>1+max (high t) (high u)
 | .three _ t _ u _ v=>1+max (high t) (max (high u) (high v))
theorem BrQ.mono_op {K2:Act→World→Prop} {i:Nat} {a:Act} {w:World} {K:Act→World→Prop} (h:wpOp P ops (BrQ K2 Q) i K a w):wpOp P ops Q i K a w:=by
 unfold wpOp at *
 split
 ·exact by simpa [*] using h
 ·rename_i o ho
  simp only [ho] at h
  split
  ·rename_i hw
   simp only [hw,if_true] at h
   rcases h with h|h
   ·refine .inl ?_
    unfold Oper.wp at *
    generalize (execOp a.eval o).run P w=r at *
    cases r with
    | ok n w' =>
     cases n <;> simp only [Oper.upon] at h ⊢
     case value u=>exact h
     case skip=>exact h
     case defer d=>exact h
     case enter f args =>
      refine Calls.mono h fun e w'' he=>?_
      cases e with
      | returned u=>exact he
      | panicked c=>exact he
      | outgrown=>exact he
     case row row args=>exact h
    | halt x w' =>
     cases x <;> simp only [Oper.upon] at h ⊢
     case panic u=>exact h
   ·exact .inr h
  ·rename_i hw
   simp only [hw] at h
   exact h
theorem perm1 {K:Act→World→Prop} {i:Nat} {a:Act} {w:World} (h:wpPerm P ops (BrQ K Q) S [(i,false)] a w):wpOp P ops Q i (fun a' w'=>S w'∧K a' w') a w:=by
 have h:wpOp P ops (BrQ K Q) i (fun a' w'=>S w'∧K a' w') a w:=by with_unfolding_all exact h
 exact BrQ.mono_op h
theorem wpAnyH_of_pre {K:Act→World→Prop} {m:Nat} (hs:Region.noSelect ops=true) (hQ:∀ c a d v w,Q (.panic c) (a.put d v) w→Q (.panic c) a w) :
  ∀ (l:List (Nat × Bool)) (fuel:Nat) (listed:Array Bool) (a:Act) (w:World),preOk md ops l listed=true→l.length+m≤fuel→S w→wpPerm P ops (BrQ K Q) S l a w →
   (∀ fuel a w,m≤fuel→S w→K a w→wpAnyH P md ops Q S fuel (lay l listed) a w)→wpAnyH P md ops Q S fuel listed a w
 | [],fuel,listed,a,w,hp,hf,hS,h,hK=>hK fuel a w (by simpa using hf) hS (by with_unfolding_all exact h)
 | (i,true)::r,0,listed,a,w,_,hf,_,_,_=>absurd hf (by simp)
 | (i,false)::r,0,listed,a,w,_,hf,_,_,_=>absurd hf (by simp)
 | (i,true)::r,fuel+1,listed,a,w,hp,hf,hS,h,hK=>by
  simp only [preOk,Bool.and_eq_true] at hp
  obtain ⟨⟨h1,h2⟩,h3⟩:=hp
  have h:∃ o v,ops[i]? = some o∧YieldsIf P ops S o v a∧wpPerm P ops (BrQ K Q) S r (a.put o.dst v) w:=by with_unfolding_all exact h
  obtain ⟨o,v,ho,hy,hr⟩:=h
  exact wpAnyH_take ho hs h2 h1 (fun c a w=>hQ c a _ _ w) hy hS (wpAnyH_of_pre hs hQ r fuel _ _ _ h3 (by simp at hf;omega) hS hr hK)
 | (i,false)::r,fuel+1,listed,a,w,hp,hf,hS,h,hK=>by
  simp only [preOk,Bool.and_eq_true] at hp
  obtain ⟨h1,h3⟩:=hp
  have hr:Region.ready md ops listed=[i]:=by
   revert h1
   match Region.ready md ops listed with
   | []=>simp
   | [j]=>simp
   | _::_::_=>simp
  have h:wpOp P ops (BrQ K Q) i (fun a' w'=>S w'∧wpPerm P ops (BrQ K Q) S r a' w') a w:=by with_unfolding_all exact h
  refine wpAnyH_all hr (by simp) ?_
  intro j hj
  have hj:j=i:=by simpa using hj
  subst hj
  exact wpOp_mono (fun a' w' h'=>⟨h'.1,wpAnyH_of_pre hs hQ r fuel _ a' w' h3 (by simp at hf;omega) h'.1 h'.2 hK⟩) (BrQ.mono_op h)
theorem wpAnyH_of_br (hs:Region.noSelect ops=true) (hQ:∀ c a d v w,Q (.panic c) (a.put d v) w→Q (.panic c) a w) :
  ∀ (t:Br) (fuel:Nat) (listed:Array Bool) (a:Act) (w:World),brOk md ops t listed=true→high t≤fuel→S w→wpBr P ops Q S t a w→wpAnyH P md ops Q S fuel listed a w:=by
 intro t
 induction t with
 | fin =>
  intro fuel listed a w hp _ _ h
  exact wpAnyH_done (by simpa [brOk] using hp) h fuel
 | seq l t ih =>
  intro fuel listed a w hp hf hS h
  simp only [brOk,Bool.and_eq_true] at hp
  exact wpAnyH_of_pre (m:=high t) hs hQ l fuel listed a w hp.1 hf hS h (fun fuel a w hf hS hk=>ih fuel _ a w hp.2 hf hS hk)
 | two i t j u iht ihu =>
  intro fuel listed a w hp hf hS h
  simp only [brOk,Bool.and_eq_true,beq_iff_eq] at hp
  obtain ⟨⟨h0,h1⟩,h2⟩:=hp
  have hf:1+max (high t) (high u)≤fuel:=hf
  obtain ⟨f,rfl⟩:∃ f,fuel=f+1:=⟨fuel - 1,by omega⟩
  refine wpAnyH_all h0 (by simp) ?_
  intro k hk
  simp only [List.mem_cons,List.not_mem_nil,or_false] at hk
  rcases hk with rfl|rfl
  ·exact wpOp_mono (fun a' w' h'=>⟨h'.1,iht f _ a' w' h1 (by omega) h'.1 h'.2⟩) (perm1 h.1)
  ·exact wpOp_mono (fun a' w' h'=>⟨h'.1,ihu f _ a' w' h2 (by omega) h'.1 h'.2⟩) (perm1 h.2)
 | three i t j u k v iht ihu ihv =>
  intro fuel listed a w hp hf hS h
  simp only [brOk,Bool.and_eq_true,beq_iff_eq] at hp
  obtain ⟨⟨⟨h0,h1⟩,h2⟩,h3⟩:=hp
  have hf:1+max (high t) (max (high u) (high v))≤fuel:=hf
  obtain ⟨f,rfl⟩:∃ f,fuel=f+1:=⟨fuel - 1,by omega⟩
  refine wpAnyH_all h0 (by simp) ?_
  intro m hm
  simp only [List.mem_cons,List.not_mem_nil,or_false] at hm
  rcases hm with rfl|rfl|rfl
  ·exact wpOp_mono (fun a' w' h'=>⟨h'.1,iht f _ a' w' h1 (by omega) h'.1 h'.2⟩) (perm1 h.1)
  ·exact wpOp_mono (fun a' w' h'=>⟨h'.1,ihu f _ a' w' h2 (by omega) h'.1 h'.2⟩) (perm1 h.2.1)
  ·exact wpOp_mono (fun a' w' h'=>⟨h'.1,ihv f _ a' w' h3 (by omega) h'.1 h'.2⟩) (perm1 h.2.2)
theorem wp_region_br {id:Nat} {a:Act} {w:World} (t:Br) (hm:P.follows .mixedOrders=true) (hc:(Region.noSelect ops && brOk .any ops t (Array.replicate ops.size false) && decide (high t≤ops.size))=true)
  (hS:S w.drew) (h:wpBr P ops (NoPanic Q) S t a w.drew):(Code.region id ops true).wp P Q a w:=by
 simp only [Bool.and_eq_true,decide_eq_true_eq] at hc
 obtain ⟨⟨h1,h2⟩,h3⟩:=hc
 exact wp_region_noPanic (wp_region_held_drew (S:=S) hm hS (fun _=>wpAnyH_of_br h1 (fun _ _ _ _ _ h=>h) t ops.size _ a _ h2 h3 hS h))
theorem wpBr_fin {a:Act} {w:World} (h:Q .normal a w):wpBr P ops (NoPanic Q) S .fin a w:=h
theorem wpBr_seq {l:List (Nat × Bool)} {t:Br} {a:Act} {w:World} (h:wpPerm P ops (BrQ (wpBr P ops Q S t) Q) S l a w):wpBr P ops Q S (.seq l t) a w:=h
theorem wpBr_two {i j:Nat} {t u:Br} {a:Act} {w:World} (h1:wpPerm P ops (BrQ (wpBr P ops Q S t) Q) S [(i,false)] a w) (h2:wpPerm P ops (BrQ (wpBr P ops Q S u) Q) S [(j,false)] a w):wpBr P ops Q S (.two i t j u) a w:=⟨h1,h2⟩
theorem wpBr_three {i j k:Nat} {t u v:Br} {a:Act} {w:World} (h1:wpPerm P ops (BrQ (wpBr P ops Q S t) Q) S [(i,false)] a w) (h2:wpPerm P ops (BrQ (wpBr P ops Q S u) Q) S [(j,false)] a w) (h3:wpPerm P ops (BrQ (wpBr P ops Q S v) Q) S [(k,false)] a w):wpBr P ops Q S (.three i t j u k v) a w:=⟨h1,h2,h3⟩
theorem wpBr_next {K:Act→World→Prop} {a:Act} {w:World} (h:K a w):wpPerm P ops (BrQ K Q) S [] a w:=by with_unfolding_all exact h
end
end Go.Proofs.YtgbcdkmjcokclaaGreat.lib
namespace Go.Proofs.YtgbcdkmjcokclaaGreat.tp
open Go.ChangeShapes Go.WideShapes Go.ChangeAt Go.RowKit Go.Proofs.YtgbcdkmjcokclaaGreat.lib
theorem copyK {w:World} {F:Blocks} {A:Option Addr} {n c:Nat} {x:List BlkD} (h:Sl eBlk w F A n c x) (hn:n≤1000000):Calls Tryz.prog 127 #[.slice A n c] w (Copied eBlk 190 x w):=by
 obtain ⟨css,h1,h2,h3,h4,h5⟩:=h.clone
 exact (cloneK css.flatten A n c w hn h1 h2 h3).mono fun e w' h=>Copied.of_c flat_blk h5 rfl h4 h
theorem Sl.empty {α:Type} {E:Enc α} (w:World) (F:Blocks) (c:Nat) (ad:Addr):Sl E w F (some ad) 0 c []:=⟨[],.inr (.inl ⟨ad,rfl,rfl,Nat.zero_le _,rfl⟩),Els.nil w F,rfl⟩
theorem OwnE.slB {α:Type} {E:Enc α} {t:TypeId} {w:World} {B:Nat} {F G:Blocks} {A:Option Addr} {n c:Nat} {xs:List α} (h:OwnE E t w B F A n c xs) (hB:∀ b,A=some ⟨b,0,none⟩→G b) (hF:∀ b,F b→G b):Sl E w G A n c xs:=by
 obtain ⟨css,h1,h2,h3⟩:=h
 refine ⟨css,?_,h2.mono hF,h3⟩
 rcases RowF.of_row (F:=fun _=>True) (Row.of_own h1) (fun _ _ _=>trivial) with q|q|⟨b,off,q1,q2,q3,q4,q5⟩
 ·exact .inl q
 ·exact .inr (.inl q)
 ·refine .inr (.inr ⟨b,off,q1,q2,hB b ?_,q4,q5⟩)
  rcases h1.2 with ⟨z,_⟩|⟨g',cap,cur,z,_⟩
  ·injection z with z;rw [z] at q1;cases q1
  ·injection z with z;rw [z] at q1 ⊢;injection q1 with q1;injection q1 with q1;rw [q1]
theorem OwnE.keepF {α:Type} {E:Enc α} (hf:Flat E) {t:TypeId} {w w':World} {B:Nat} {F G:Blocks} {A:Option Addr} {n c:Nat} {x:List α} (h:OwnE E t w B F A n c x) (hk:Keep G w w') (hA:∀ b,A=some ⟨b,0,none⟩→G b):OwnE E t w' B F A n c x:=by
 obtain ⟨css,h1,h2,h3⟩:=h
 exact ⟨css,own_keep h1 hk hA,⟨h2.1,fun i cs y e1 e2=>hf.any (h2.2 i cs y e1 e2) _ _⟩,h3⟩
def okLed (x:LedD):Prop:=(x.2.1.length≤1000∧∀ y∈x.2.1,okTx y)∧x.2.2.1.length≤1000∧∀ l∈x.2.2.2,l.length≤1000∧∀ y∈l,okTx y
def N1 (n:Nat) (A:Option Addr):Blocks:=fun b=>n≤b∧A≠some ⟨b,0,none⟩
def OwnLw (x:LedD) (B:Nat) (w':World) (A A2:Option Addr) (c2:Nat) (A3:Option Addr):Prop :=
 Sl eTx w' (N1 B A2) A x.2.1.length x.2.1.length x.2.1∧OwnE eBlk 190 w' B (N1 B A2) A2 x.2.2.1.length c2 x.2.2.1∧Sl (eSl eTx) w' (N1 B A2) A3 x.2.2.2.length x.2.2.2.length x.2.2.2
def OwnL (x:LedD) (w:World) (e:Ending) (w':World):Prop:=∃ A A2 c2 A3,e=.returned (.agg #[.int .i64 x.1,.slice A x.2.1.length x.2.1.length,.slice A2 x.2.2.1.length c2,.slice A3 x.2.2.2.length x.2.2.2.length])∧OwnLw x w.heap.size w' A A2 c2 A3∧Below w.heap.size w w'
theorem OwnL.owned {x:LedD} {w w':World} {e:Ending} (h:OwnL x w e w'):Owned eLed x w e w':=by
 obtain ⟨A,A2,c2,A3,h1,⟨h2,h3,h4⟩,h5⟩:=h
 exact ⟨_,h1,eLed_mk (h2.mono (fun b h=>h.1)) (h3.sl (fun b h _=>h) (fun b h=>h.1)) (h4.mono (fun b h=>h.1)),h5⟩
theorem nil_at (D:List Value) (z:Value) (n k:Nat) (hD:D.length=k) (hk:k<n):(D++(List.replicate n z).drop (k * 1)).toArray[k]? = some z:=by
 subst hD
 simp [List.getElem?_append_right,List.getElem?_replicate]
 omega
theorem set_at (D Z:List Value) (v:Value) (k:Nat) (hD:D.length=k) (hk:k<Z.length):(D++Z.drop (k * 1)).toArray.setIfInBounds k v=((D++[v])++Z.drop (k+1)).toArray:=by
 subst hD
 rw [Nat.mul_one,List.drop_eq_getElem_cons hk,List.setIfInBounds_toArray,List.set_append_right _ _ (Nat.le_refl _),Nat.sub_self,List.set_cons_zero]
 simp
theorem lown_ {w:World} {F:Blocks} {cs:List Value} {x:LedD} (h:eLed.rel w F cs x) (hok:okLed x) (h3k:x.2.2.2.length≤1000):Calls Tryz.prog 62 #[.agg cs.toArray] w (OwnL x w):=by
 obtain ⟨A,n,c,A2,n2,c2,A3,n3,c3,rfl,h1,h2,h3⟩:=eLed_inv h
 have hn3:n3≤1000:=by have:=h3.len;omega
 have HS1:=Lib.hid h1
 have HS2:=Lib.hid h2
 have HS3:=Lib.hid h3
 have hn2:n2≤1000:=by have:=h2.len;have:=hok.2.1;omega
 have HOK:=Lib.hid hok
 obtain ⟨i0,hi,hz0,hz1,hz2⟩:=info_parts (P:=Tryz.prog) (e:=83) (z:=.slice none 0 0) (size:=1) (bytes:=24) (by kernel_rfl)
 have hmake:∀ w,(Instr.makeSlice 85 (.int .i64 (n3:Int)) (.int .i64 (n3:Int))).run Tryz.prog w=.ok (.slice (some ⟨w.heap.size,0,none⟩) n3 n3) (w.alloc (.cells (Array.replicate n3 (.slice none 0 0)) 83)):=fun w=>by
  have h:=run_make (P:=Tryz.prog) w 85 83 i0 _ Tryz.underlying85 hi hz0 .i64 .i64 (n3:Int) (n3:Int) (by omega) (Int.le_refl _) (by rw [hz2];omega) (by omega)
  rw [h,hz1,Nat.mul_one,Int.toNat_natCast]
  show Result.ok _ (w.alloc (.cells (madeCells (Array.replicate 1 (.slice none 0 0)) n3) _))=_
  rw [made_rep 1 _ _ (by decide)]
 clear h h1 h2 h3 hok hi hz0 hz1 hz2
 go_enter Tryz.func62,Tryz.ntmps62
 go_upto_region 1 with fail
 obtain ⟨W,hW_,hb1,BL,BR⟩:=al2 w 87 87 #[.int .i64 x.1,.slice A n c,.slice A2 n2 c2,.slice A3 n3 c3] #[.int .i64 0,.slice none 0 0,.slice none 0 0,.slice none 0 0]
 rw [←hW_]
 clear hW_
 obtain ⟨gl,hgl⟩:∃ g,w.heap.size=g:=⟨_,rfl⟩
 obtain ⟨gr,hgr⟩:∃ g,w.heap.size+1=g:=⟨_,rfl⟩
 have hgrw:w.heap.size≤gr:=by omega
 have hglr:gl<gr:=by omega
 rw [hgr] at BR ⊢
 rw [hgl] at BL ⊢
 clear hgr hgl
 have HBL:=Lib.hid BL
 have HBR:=Lib.hid BR
 have HW1:=Lib.hid hb1
 have hww:=hb1.size
 clear BR
 have D:∀ w',Below W.heap.size W.drew w'→w'.cell? ⟨gl,0,none⟩=some (.int .i64 x.1)∧w'.cell? ⟨gl,1,none⟩=some (.slice A n c)∧w'.cell? ⟨gl,2,none⟩=some (.slice A2 n2 c2)∧w'.cell? ⟨gl,3,none⟩=some (.slice A3 n3 c3):=fun w' h=>four BL (Below.trans (Below.refl _ _).drew h)
 clear BL
 refine Code.wp_mono (Q:=fun e a' w'=>e=.normal∧∃ A5 A6 c6 g1 g3,a'=({ tmps:=#[.agg #[.int .i64 x.1,.slice A n c,.slice A2 n2 c2,.slice A3 n3 c3],.pointer (some ⟨gl,0,none⟩),.pointer (some ⟨gr,0,none⟩),.pointer (some ⟨g3,0,none⟩),undef,undef,.pointer (some ⟨gl,0,none⟩),.int .i64 x.1,.pointer (some ⟨gl,1,none⟩),.slice A n c,.slice A5 x.2.1.length x.2.1.length,.pointer (some ⟨gl,2,none⟩),.slice A2 n2 c2,.slice A6 x.2.2.1.length c6,.pointer (some ⟨gl,3,none⟩),.slice A3 n3 c3,.int .i64 (n3:Int),.slice (some ⟨g1,0,none⟩) n3 n3,.agg #[.int .i64 x.1,.slice A5 x.2.1.length x.2.1.length,.slice A6 x.2.2.1.length c6,.slice (some ⟨g1,0,none⟩) n3 n3],undef,undef,undef,undef,undef,undef,undef,undef,undef,undef,undef,undef,undef,undef,undef,undef],defers:=[] }:Act)∧Below W.heap.size W w'∧Sl eTx w' (fun b=>N1 W.heap.size A6 b∧b≠g1) A5 x.2.1.length x.2.1.length x.2.1∧OwnE eBlk 190 w' w.heap.size (N1 w.heap.size A6) A6 x.2.2.1.length c6 x.2.2.1∧(∀ b,A6=some ⟨b,0,none⟩→W.heap.size≤b∧b≠g1)∧Blk w' g1 83 (Array.replicate n3 (.slice none 0 0))∧Blk w' g3 87 [.int .i64 x.1,.slice A5 x.2.1.length x.2.1.length,.slice A6 x.2.2.1.length c6,.slice (some ⟨g1,0,none⟩) n3 n3].toArray∧W.heap.size≤g1∧W.heap.size≤g3∧g1≠g3) ?_ ?_
 case refine_2 =>
  refine wp_region_br (S:=fun w'=>Below W.heap.size W.drew w') (.seq [(0,true),(1,true),(2,true),(3,true),(5,true),(6,true),(8,true),(9,true),(10,true)] (.three 4 (.three 7 (.two 11 (.seq [(12,true),(13,false),(14,false)] .fin) 13 (.seq [(11,false)] (.seq [(12,true),(14,false)] .fin))) 11 (.two 7 (.seq [(12,true),(13,false),(14,false)] .fin) 13 (.seq [(7,false)] (.seq [(12,true),(14,false)] .fin))) 13 (.two 7 (.seq [(11,false)] (.seq [(12,true),(14,false)] .fin)) 11 (.seq [(7,false)] (.seq [(12,true),(14,false)] .fin)))) 11 (.two 4 (.two 7 (.seq [(12,true),(13,false),(14,false)] .fin) 13 (.seq [(7,false)] (.seq [(12,true),(14,false)] .fin))) 13 (.seq [(4,false)] (.seq [(7,false)] (.seq [(12,true),(14,false)] .fin)))) 13 (.two 4 (.two 7 (.seq [(11,false)] (.seq [(12,true),(14,false)] .fin)) 11 (.seq [(7,false)] (.seq [(12,true),(14,false)] .fin))) 11 (.seq [(4,false)] (.seq [(7,false)] (.seq [(12,true),(14,false)] .fin)))))) (by kernel_rfl) (by kernel_rfl) (Below.refl _ _) ?_
  refine wpBr_seq ?_
  repeat ((with_reducible refine pG ?_);(first|refine pT ?_|refine pF ?_);try go_frame)
  refine wpBr_next ?_
  clear D
  have hWv:Below W.heap.size W W.drew:=(Below.refl _ _).drew
  have HC:=Lib.hid (Below.refl W.heap.size W.drew)
  generalize W.drew=v at *
  have HW:=Lib.hid hWv
  have hv0:W.heap.size≤v.heap.size:=hWv.size
  clear hWv
  repeat' (first
   | (with_reducible refine wpBr_three ?_ ?_ ?_)
   | (with_reducible refine wpBr_two ?_ ?_)
   | (with_reducible refine wpBr_seq ?_)
   | ((with_reducible refine pG ?_);(refine pT ?_);try go_frame)
   | ((with_reducible refine pN 4 ?_);(refine pD fun K hK=>?_);go_simp;
       (refine (lownTxs_ (w:=v) (HS1.out.ext (HW1.out.tr (HW.out.trans HC.out))) HOK.out.1.1 HOK.out.1.2).mono ?_);
       (rintro e v ⟨A5,rfl,ho,hb⟩);
       (have hz4:=hb.size);
       (have H4:=Lib.hid ((ho.bound bnd_tx).slB (fun b e=>ho.lt e) (fun b h=>⟨h.1.1,h.2⟩)));
       (replace HC:=Lib.hid (HC.out.tr hb));
       (refine hK.out _ _ HC.out ?_);
       (have hb:=Lib.hid hb);clear hK K ho)
   | ((with_reducible refine pN 7 ?_);(refine pD fun K hK=>?_);go_simp;
       (refine (copyK (w:=v) (HS2.out.ext (HW1.out.tr (HW.out.trans HC.out))) (by omega)).mono ?_);
       (rintro e v ⟨A6,c6,rfl,ho,hb⟩);
       (have hz7:=hb.size);
       (have hq7:=HC.out.size);
       (have HN:=Lib.hid (fun b e=>ho.lt (b:=b) e));
       (have H7:=Lib.hid ((ho.base (B':=w.heap.size) (by omega)).mono (G:=N1 w.heap.size A6) (fun b h=>⟨by have:=h.1;omega,h.2⟩)));
       (replace HC:=Lib.hid (HC.out.tr hb));
       (refine hK.out _ _ HC.out ?_);
       (have hb:=Lib.hid hb);clear hK K ho)
   | ((with_reducible refine pN 11 ?_);(refine pD fun K hK=>?_);go_simp;
       (have hb:=Lib.hid ((Below.refl v.heap.size v).alloc (Nat.le_refl _) (.cells (Array.replicate n3 (.slice none 0 0)) 83)));
       (have hq11:=HC.out.size);
       (have H11:=Lib.hid (Blk.new v 83 (Array.replicate n3 (.slice none 0 0))));
       (have hz11:=H11.out.lt);
       (replace HC:=Lib.hid (HC.out.tr hb.out));
       (refine hK.out _ _ HC.out ?_);clear hK K;
       (obtain ⟨g1,hg1⟩:∃ g,v.heap.size=g:=⟨_,rfl⟩);
       (rw [hg1] at H11 hz11 hq11 ⊢);(have hg1a:=Nat.le_of_eq hg1);clear hg1;
       (generalize v.alloc (.cells (Array.replicate n3 (.slice none 0 0)) 83)=v at *))
   | ((with_reducible refine pN 13 ?_);(refine pD fun K hK=>?_);go_simp;
       (have hb:=Lib.hid ((Below.refl v.heap.size v).alloc (Nat.le_refl _) (.cells #[.int .i64 0,.slice none 0 0,.slice none 0 0,.slice none 0 0] 87)));
       (have hq13:=HC.out.size);
       (have H13:=Lib.hid (Blk.new v 87 #[.int .i64 0,.slice none 0 0,.slice none 0 0,.slice none 0 0]));
       (have hz13:=H13.out.lt);
       (replace HC:=Lib.hid (HC.out.tr hb.out));
       (refine hK.out _ _ HC.out ?_);clear hK K;
       (obtain ⟨g3,hg3⟩:∃ g,v.heap.size=g:=⟨_,rfl⟩);
       (rw [hg3] at H13 hz13 hq13 ⊢);(have hg3a:=Nat.le_of_eq hg3);clear hg3;
       (generalize v.alloc (.cells #[.int .i64 0,.slice none 0 0,.slice none 0 0,.slice none 0 0] 87)=v at *))
   | ((with_reducible refine pN 14 ?_);
       (obtain ⟨cl,hcl⟩:∃ z,z=([.int .i64 x.1,.slice A5 x.2.1.length x.2.1.length,.slice A6 x.2.2.1.length c6,.slice (some ⟨g1,0,none⟩) n3 n3]:List Value):=⟨_,rfl⟩);
       (have hcll:cl.length=4:=by rw [hcl];rfl);
       (have B3:=H13.out.ext (w':=v) (by repeat (first|exact Below.refl _ _|refine bl_tr ?_ (by assumption))));
       (have B1:=H11.out.ext (w':=v) (by repeat (first|exact Below.refl _ _|refine bl_tr ?_ (by assumption))));
       (have H4':=H4.out.ext (w':=v) (by repeat (first|exact Below.refl _ _|refine bl_tr ?_ (by assumption))));
       (have H7':=H7.out.ext (w':=v) (by repeat (first|exact Below.refl _ _|refine bl_tr ?_ (by assumption))));
       (have hth:=Blk.there (o:=0) (n:=4) B3 (by simp));
       (refine wpPerm_do rfl (wanted_free rfl) (fun K hK=>?_));
       (refine wp_store_wide 87 (.tmp 3) (.tmp 18) rfl rfl g3 0 cl rfl (by rw [hcl];rfl) (by rw [hcll];exact hth) (by rw [hcll];kernel_rfl) (by rw [hcl];exact oneSl _ _ _ _ rfl rfl rfl rfl) ?_);
       (obtain ⟨B4,hg6⟩:=Blk.lay cl 0 B3 (by rw [hcll];simp));
       (rw [laid_all _ _ (by rw [hcll];rfl)] at B4);
       (have hb6:=HC.out.grown hg6 (by have:=HC.out.size;omega) (fun k hk=>by injection hk with hk;omega));
       (refine hK.out _ _ hb6 (wpBr_next (wpBr_fin ?_)));
       (refine ⟨rfl,A5,A6,c6,g1,g3,rfl,HW.out.trans hb6,(((H4'.mono (G:=fun b=>b≠g3∧N1 W.heap.size A6 b∧b≠g1) (fun b h=>⟨?_,⟨?_,fun e=>?_⟩,?_⟩)).keep (Keep.grown hg6 (fun g hg h=>by injection hg with hg;exact h.1 hg.symm))).mono (fun b h=>h.2)),OwnE.keepF flat_blk H7' (Keep.grown (F:=fun b=>b≠g3) hg6 (fun g hg h=>by injection hg with hg;exact h hg.symm)) (fun b e=>?_),fun b e=>⟨?_,?_⟩,B1.grown hg6 (fun e=>?_),by rw [←hcl];exact B4,?_,?_,?_⟩);
       all_goals (first|omega|(have h1:=h.1;have h2:=h.2;(try have h3:=HN.out b e);omega)|(have h3:=HN.out b e;omega)|(injection e with e;omega)))
   | (with_reducible refine wpBr_next ?_))
 case refine_1 =>
  rintro e a9 w3 ⟨rfl,A5,A6,c6,g1,g3,rfl,hbW,h4,h7,hn,B1,B3,hl1,hl3,hne⟩
  have H4:=Lib.hid h4
  have H7:=Lib.hid h7
  have HN:=Lib.hid hn
  have hgrW:gr<W.heap.size:=HBR.out.lt
  have hbw3:=HW1.out.tr hbW
  have q3:=(HBL.out.ext hbW).cell 3
  have hz3:g1<w3.heap.size:=B1.lt
  have HB1:Hid (Blk w3 g1 83 (([]:List (List Value)).flatten++(List.replicate n3 (Value.slice none 0 0)).drop (0 * 1)).toArray∧w3.grownBy w3 (some g1)):=Lib.hid ⟨by simpa using B1,grown_refl _ _⟩
  obtain ⟨cl,hcl⟩:∃ z,z=([.int .i64 x.1,.slice A5 x.2.1.length x.2.1.length,.slice A6 x.2.2.1.length c6,.slice (some ⟨g1,0,none⟩) n3 n3]:List Value):=⟨_,rfl⟩
  have hcl3:cl[3]? = some (.slice (some ⟨g1,0,none⟩) n3 n3):=by rw [hcl];rfl
  have hcll:cl.length=4:=by rw [hcl];rfl
  have honl:∀ u∈cl,u.oneCell'=true:=by rw [hcl];exact oneSl _ _ _ _ rfl rfl rfl rfl
  have HB3:=Lib.hid (show Blk w3 g3 87 cl.toArray from hcl ▸ B3)
  have HCL:=Lib.hid hcl
  have hzw:W.heap.size≤w3.heap.size:=hbW.size
  clear hcl h4 h7 hn D B1 B3
  go_wp2_with fail
  clear q3
  go_loopw [22] (fun i wr=>∃ (k:Nat) (css:List (List Value)),i=.int .i64 k∧k≤n3∧Hid (Els (eSl eTx) wr (fun b=>w3.heap.size≤b) css (x.2.2.2.take k))∧Hid (Blk wr g1 83 (css.flatten++(List.replicate n3 (Value.slice none 0 0)).drop (k * 1)).toArray∧w3.grownBy wr (some g1))) (fun i _=>n3 - (intOf i).toNat)
  case atStart=>exact ⟨0,[],rfl,Nat.zero_le _,Lib.hid (by simpa using Els.nil _ _),HB1⟩
  case round =>
   clear HB1
   obtain ⟨k,css,rfl,hk,HE,HB⟩:=hrel
   rcases Nat.lt_or_ge k n3 with hlt|hge
   ·have hd:decide ((k:Int)<(n3:Int))=true:=by simp;omega
    have hkn:(k:Int)<(n3:Int):=by omega
    obtain ⟨y,hy⟩:∃ y,x.2.2.2[k]? = some y:=⟨_,List.getElem?_eq_getElem (by have:=HS3.out.len;omega)⟩
    have hbr:Below w.heap.size w wr:=hbw3.grown HB.out.2 hbw3.size (fun k hk=>by injection hk with hk;omega)
    have hzr:w3.heap.size≤wr.heap.size:=HB.out.2.size
    obtain ⟨b0,off,rfl,hnc,hFb,hbl⟩:=HS3.out.some_ (by omega)
    obtain ⟨cs,⟨A8,n8,c8,rfl,h8⟩,hcell⟩:=(HS3.out.ext hbr).at_ hy
    have q8:=hcell 0 _ rfl
    rw [show (eSl eTx).k=1 from rfl,Nat.mul_one,Nat.add_zero] at q8
    have H8:=Lib.hid h8
    have HY:=Lib.hid hy
    have BR3:Blk wr g3 87 cl.toArray:=HB3.out.grown HB.out.2 (by intro e;injection e with e;omega)
    have hfl:css.flatten.length=k:=by have h9:=HE.out.flen;rw [List.length_take,Nat.min_eq_left (by have:=HS3.out.len;omega),show (eSl eTx).k=1 from rfl,Nat.mul_one] at h9;exact h9
    clear hcell h8 hy
    go_upto_region 5 with fail
    clear q8
    have hdr:=(Below.refl wr.heap.size wr).drew
    have D:=fun w' (hS:Blk w' g3 87 cl.toArray)=>show w'.cell? ⟨g3,3,none⟩=some (.slice (some ⟨g1,0,none⟩) n3 n3) from (hS.cell 3).trans (by simpa using hcl3)
    refine wp_region_oneS (S:=fun w'=>Blk w' g3 87 cl.toArray) [(0,true),(1,true),(2,true),(3,true),(4,false),(5,true),(6,false)] (by kernel_rfl) (by kernel_rfl) (by kernel_rfl) (by decide) BR3 ?_
    repeat ((with_reducible refine pG ?_);(first|refine pT ?_|refine pF ?_);try go_frame)
    have HF:=Lib.hid (lownTxs_ (H8.out.ext hdr) (HOK.out.2.2 y (List.mem_of_getElem? HY.out)).1 (HOK.out.2.2 y (List.mem_of_getElem? HY.out)).2)
    refine pD fun K hK=>?_;go_simp
    refine HF.out.mono ?_
    rintro e w4 ⟨A9,rfl,ho9,hb4⟩
    have hb34:=hdr.trans hb4
    have B34:=BR3.ext hb34
    have B14:=HB.out.1.ext hb34
    refine hK.out _ _ B34 ?_
    clear hK K HF
    repeat ((with_reducible refine pG ?_);(first|refine pT ?_|refine pF ?_);try go_frame)
    have q:=(B14.cell k).trans (nil_at _ _ _ _ hfl hlt)
    have f:=B14.frozen k
    have hg5:=set_grown w4 g1 k (.slice A9 y.length y.length)
    have B35:=B34.grown hg5 (by intro e;injection e with e;omega)
    have B15:=B14.set_ k (.slice A9 y.length y.length)
    rw [set_at _ _ _ _ hfl (by simpa using hlt)] at B15
    refine pD fun K hK=>?_;go_simp
    refine hK.out _ _ B35 (wpPerm_done ?_)
    clear hK K q f D
    have hgr5:w3.grownBy (w4.setCell ⟨g1,k,none⟩ (.slice A9 y.length y.length)) (some g1):=grown_trans (grown_ext HB.out.2 hb34) hg5
    have hdz:wr.heap.size≤wr.drew.heap.size:=Nat.le_refl _
    have HE5:=Lib.hid (Els.snoc ((HE.out.ext hb34).keep (Keep.grown hg5 (fun g hg h=>by injection hg with hg;omega))) HY.out (show (eSl eTx).rel _ (fun b=>w3.heap.size≤b) [.slice A9 y.length y.length] y from ⟨A9,_,_,rfl,((ho9.slB (G:=fun b=>wr.heap.size≤b) (fun b e=>(ho9.lt e).1) (fun b h=>h.1)).keep (Keep.grown hg5 (fun g hg h=>by injection hg with hg;omega))).mono (fun b h=>by omega)⟩))
    have HB5:=Lib.hid (show Blk (w4.setCell ⟨g1,k,none⟩ (.slice A9 y.length y.length)) g1 83 ((css++[[Value.slice A9 y.length y.length]]).flatten++(List.replicate n3 (Value.slice none 0 0)).drop ((k+1) * 1)).toArray∧w3.grownBy (w4.setCell ⟨g1,k,none⟩ (.slice A9 y.length y.length)) (some g1) from ⟨by rw [List.flatten_append,List.flatten_singleton,Nat.mul_one];exact B15,hgr5⟩)
    generalize w4.setCell ⟨g1,k,none⟩ (.slice A9 y.length y.length)=w5 at *
    clear hgr5 hg5 B35 B15 B14 B34 ho9 hb4 hb34 hdr HB HE
    go_wp2_with fail
    go_roundw
    case rel=>exact ⟨k+1,_,by go_num,by omega,HE5,HB5⟩
    case measure=>simp [intOf];omega
   ·obtain rfl:k=n3:=by omega
    have hd:decide ((k:Int)<(k:Int))=false:=by simp
    have hxk:x.2.2.2.length=k:=HS3.out.len
    have hE:=HE.out
    rw [←hxk,List.take_length] at hE
    have hB:=HB.out.1
    rw [List.drop_eq_nil_of_le (by simp),List.append_nil] at hB
    have hgB:=HB.out.2
    have hbr:Below w.heap.size w wr:=hbw3.grown hgB hbw3.size (fun k hk=>by injection hk with hk;omega)
    have hbW5:Below W.heap.size W wr:=hbW.grown hgB hbW.size (fun k hk=>by injection hk with hk;omega)
    have BR5:=HBR.out.ext hbW5
    have B3:=HB3.out.grown hgB (by intro e;injection e with e;omega)
    have hzr:w3.heap.size≤wr.heap.size:=hgB.size
    have hsz:(Tryz.prog.info? 87).map (·.size)=some cl.length:=by rw [hcll];kernel_rfl
    have hth:=Blk.there (o:=0) (n:=4) BR5 (by simp)
    obtain ⟨B9,hg9⟩:=Blk.lay cl 0 BR5 (by rw [hcll];simp)
    rw [laid_all _ _ (by rw [hcll];rfl)] at B9
    have hbw9:=hbr.grown hg9 hbr.size (fun k hk=>by injection hk with hk;omega)
    have hkg:Keep (fun b=>b≠g1) w3 wr:=Keep.grown hgB (fun g hg h=>by injection hg with hg;exact h hg.symm)
    have hk9:Keep (fun b=>b≠gr) wr _:=Keep.grown hg9 (fun g hg h=>by injection hg with hg;exact h hg.symm)
    have hk39:Keep (fun b=>b≠g1∧b≠gr) w3 _:=(hkg.mono (fun b h=>h.1)).trans (hk9.mono (fun b h=>h.2))
    have hE9:=(hE.mono (G:=fun b=>b≠gr∧w3.heap.size≤b) (fun b h=>⟨by omega,h⟩)).keep (hk9.mono (fun b h=>h.1))
    have HL:=Lib.hid (show OwnLw x w.heap.size _ A5 A6 c6 (some ⟨g1,0,none⟩) from ⟨((H4.out.mono (G:=fun b=>(b≠g1∧b≠gr)∧N1 w.heap.size A6 b) (fun b h=>⟨⟨h.2,by have:=h.1.1;omega⟩,⟨by have:=h.1.1;omega,h.1.2⟩⟩)).keep (hk39.mono (fun b h=>h.1))).mono (fun b h=>h.2),OwnE.keepF flat_blk H7.out hk39 (fun b e=>by have:=HN.out b e;omega),
     ⟨css,.inr (.inr ⟨g1,0,rfl,Nat.le_refl _,⟨by omega,fun e=>(HN.out g1 e).2 rfl⟩,by have:=hg9.size;omega,fun i u hu=>by rw [Nat.zero_add,(hB.grown hg9 (by intro e;injection e with e;omega)).cell];simpa using hu⟩),hE9.mono (fun b h=>⟨by omega,fun e=>by have:=HN.out b e;have:=h.2;exact absurd (OwnE.lt (H7.out.ext (w':=w3) (Below.refl _ _)) e).2 (by omega)⟩),rfl⟩⟩)
    have hcl0:=HCL.out
    clear hk9 hk39 hkg hE hE9 H4 H7 HE HB
    go_wp2_with (first|((with_reducible show wpList _ _ _ (Oper.mk (some 34) _ _ _ _ _::_) _ _);(refine wpList_load_mid rfl 87 _ rfl g3 0 rfl cl _ (Blk.whole B3) Tryz.underlying87 rfl hsz ?_))|((with_reducible show wpList _ _ _ (Oper.mk none (Op.store _ (Operand.tmp 2) _) _ _ _ _::_) _ _);(refine wpList_store_mid rfl 87 _ _ rfl gr 0 cl.toArray rfl rfl ?s1 ?s2 (all_oneCell_toArray honl) ?_)))
    case s1=>exact (show cl.toArray.size=4 by simp [hcll]) ▸ hth
    case s2=>rw [List.size_toArray];exact hsz
    generalize wr.setCells gr 0 cl=w9 at *
    go_wp2
    exact bodyPost_ret (v:=.agg cl.toArray) (results_cell_row rfl _ _ gr _ _ (0,0) _ rfl B9 Tryz.underlying87 rfl (by rw [List.size_toArray];exact hsz)) rfl ⟨A5,A6,c6,some ⟨g1,0,none⟩,by rw [hcl0,hxk],HL.out,hbw9⟩
theorem lown0_ {w:World} {F:Blocks} {cs:List Value} {x:LedD} (h:eLed.rel w F cs x) (hok:okLed x) (hx:x.2.2.2=[]):Calls Tryz.prog 62 #[.agg cs.toArray] w (OwnL x w):=lown_ h hok (by rw [hx];simp)
theorem lown1_ {w:World} {F:Blocks} {cs:List Value} {x:LedD} (h:eLed.rel w F cs x) (hok:okLed x) (hx:x.2.1=[]) {l:List TxD} (hl:x.2.2.2=[l]):Calls Tryz.prog 62 #[.agg cs.toArray] w (OwnL x w):=lown_ h hok (by rw [hl];simp)
theorem run_load_ptr {P:Program} {f:FuncId} {fn:Func} (hf:P.funcs[f]? = some fn) (hname:(fn.name == "runtime.NumGoroutine")=false) (hb:fn.body.isNone=true) (hn:Extern.findNext fn=none)
  (he:Extern.find fn=some (Extern.Atomic.loadT .ptr)) {a:Addr} {b:Option Addr} {w:World} (hc:w.cell? a=some (.pointer b)):(callFunc f #[.pointer (some a)]).run P w=.ok (.value (.pointer b)) w:=by
 rw [run_callFunc_extern hf hname hb hn he]
 change (Sem.run P (do Extern.Atomic.read .ptr (←asAddr (.pointer (some a)))) w).andThen _=_
 simp [Extern.Atomic.read,asAddr,hc,Result.andThen]
theorem run_store_ptr {P:Program} {f:FuncId} {fn:Func} (hf:P.funcs[f]? = some fn) (hname:(fn.name == "runtime.NumGoroutine")=false) (hb:fn.body.isNone=true) (hn:Extern.findNext fn=none)
  (he:Extern.find fn=some Extern.Atomic.storeT) {a:Addr} {y:Option Addr} {u:Value} {w:World} (hc:w.cell? a=some u) (hz:w.frozen? a=false) :
  (callFunc f #[.pointer (some a),.pointer y]).run P w=.ok (.value (.tuple #[])) (w.setCell a (.pointer y)):=by
 rw [run_callFunc_extern hf hname hb hn he]
 change (Sem.run P (do
  store (←asAddr (.pointer (some a))) (.pointer y) .atomic
  pure Extern.Atomic.none_) w).andThen _=_
 simp [asAddr,hc,hz,run_store P w a (.pointer y) .atomic rfl,Result.andThen,Extern.Atomic.none_]
theorem shape_blk {w:World} {g:Nat} {t:TypeId} {cs:Array Value} (h:Blk w g t cs):w.shape? g=some (t,cs.size):=by
 unfold Blk at h
 unfold World.shape?
 rw [h]
theorem pload_ {w:World} {s g:Nat} {l:Value} {cs:Array Value} (h:Blk w s 97 #[l,.pointer (some ⟨g,0,none⟩)]) (hg:Blk w g 89 cs) (hc:cs.size=8) :
  Calls Tryz.prog 19 #[.pointer (some ⟨s,1,none⟩)] w fun e w'=>e=.returned (.pointer (some ⟨g,0,none⟩))∧w=w':=by
 have hl:=run_load_ptr (P:=Tryz.prog) Tryz.func61 (by kernel_rfl) (by kernel_rfl) (by kernel_rfl) (by kernel_rfl) (h.cell 1)
 obtain ⟨j,hj⟩:∃ j,Tryz.prog.info? 89=some j:=Option.isSome_iff_exists.1 (by kernel_rfl)
 have hv:=Lib.run_from_unsafe (P:=Tryz.prog) (w:=w) (u:=89) ⟨g,0,none⟩ Tryz.underlying93 Tryz.underlying82 hj (shape_blk hg) (by rw [hc];kernel_rfl)
 clear hj
 go_enter Tryz.func19,Tryz.ntmps19
 go_wp2
 go_ret
 exact ⟨rfl,rfl⟩
theorem pstore_ {w:World} {s g:Nat} {l u z:Value} {cs:Array Value} (h:Blk w s 97 #[l,u]) (hg:w.cell? ⟨g,0,none⟩=some z) :
  Calls Tryz.prog 18 #[.pointer (some ⟨s,1,none⟩),.pointer (some ⟨g,0,none⟩)] w fun e w'=>e=.returned (.tuple #[])∧w'=w.setCell ⟨s,1,none⟩ (.pointer (some ⟨g,0,none⟩)):=by
 have hl:=run_store_ptr (P:=Tryz.prog) Tryz.func60 (by kernel_rfl) (by kernel_rfl) (by kernel_rfl) (by kernel_rfl) (y:=some ⟨g,0,none⟩) (h.cell 1) (h.frozen 1)
 have hv:=run_convert_to_unsafe (P:=Tryz.prog) (t:=89) Tryz.underlying82 Tryz.underlying93 (by kernel_rfl) hg
 go_enter Tryz.func18,Tryz.ntmps18
 go_wp2
 first|go_end0|refine bodyPost_ret (results_none rfl _ _ _) rfl ?_
 exact ⟨rfl,rfl⟩
def eState:Enc (DBd × LedD):=eDB.pair eLed
theorem eState_inv {w:World} {F:Blocks} {cs:List Value} {x:DBd} {L:LedD} (h:eState.rel w F cs (x,L)):∃ A n c A2 n2 c2 A3 n3 c3 A4 n4 c4 B m d B2 m2 d2 B3 m3 d3,cs=[.slice A n c,.slice A2 n2 c2,.slice A3 n3 c3,.slice A4 n4 c4,.int .i64 L.1,.slice B m d,.slice B2 m2 d2,.slice B3 m3 d3]∧eDB.rel w F [.slice A n c,.slice A2 n2 c2,.slice A3 n3 c3,.slice A4 n4 c4] x∧eLed.rel w F [.int .i64 L.1,.slice B m d,.slice B2 m2 d2,.slice B3 m3 d3] L:=by
 obtain ⟨a,b,e,h1,h2⟩:=h
 obtain ⟨A,n,c,A2,n2,c2,A3,n3,c3,A4,n4,c4,rfl,k1,k2,k3,k4⟩:=eDB_inv h1
 obtain ⟨B,m,d,B2,m2,d2,B3,m3,d3,rfl,l1,l2,l3⟩:=eLed_inv h2
 exact ⟨A,n,c,A2,n2,c2,A3,n3,c3,A4,n4,c4,B,m,d,B2,m2,d2,B3,m3,d3,by rw [e];rfl,h1,h2⟩
theorem eState_mk {w:World} {F:Blocks} {x:DBd} {L:LedD} {A A2 A3 A4:Option Addr} {n c n2 c2 n3 c3 n4 c4:Nat} {ds:List Value} (h:eDB.rel w F [.slice A n c,.slice A2 n2 c2,.slice A3 n3 c3,.slice A4 n4 c4] x) (h2:eLed.rel w F ds L):eState.rel w F (.slice A n c::.slice A2 n2 c2::.slice A3 n3 c3::.slice A4 n4 c4::ds) (x,L) :=
 ⟨_,_,rfl,h,h2⟩
def Off (s lg d gs gn:Nat):Blocks:=fun b=>b≠s∧b≠lg∧b≠d∧b≠gs∧b≠gn
def On (s lg d gs gn:Nat):Blocks:=fun b=>b=d∨b=gs∨b=gn∨b=lg∨b=s
structure Sto (w:World) (s lg d gs gn np:Nat) (rs:List (List UInt8)) (x:DBd) (L:LedD):Prop where
 dk:∃ l,Dk w d gs gn np l (.slice none 0 0)∧Logd l np rs
 lgb:Lg w lg d (recs rs).length rs.length
 st:∃ g cs,Blk w s 97 #[.pointer (some ⟨lg,0,none⟩),.pointer (some ⟨g,0,none⟩)]∧Blk w g 89 cs.toArray∧eState.rel w (Off s lg d gs gn) cs (x,L)∧Off s lg d gs gn g
 ne:lg≠d∧lg≠gs∧lg≠gn∧s≠d∧s≠gs∧s≠gn∧s≠lg
section
variable {w w':World} {s lg d gs gn np:Nat} {rs:List (List UInt8)} {x:DBd} {L:LedD}
theorem Sto.ext (h:Sto w s lg d gs gn np rs x L) (hb:Below w.heap.size w w'):Sto w' s lg d gs gn np rs x L:=by
 obtain ⟨l,h1,h2⟩:=h.dk
 obtain ⟨g,cs,h3,h4,h5,h6⟩:=h.st
 exact ⟨⟨l,h1.ext hb,h2⟩,⟨h.lgb.blk.ext hb⟩,⟨g,cs,h3.ext hb,h4.ext hb,eState.ext h5 hb,h6⟩,h.ne⟩
theorem Sto.s_lt (h:Sto w s lg d gs gn np rs x L):s<w.heap.size:=by obtain ⟨g,cs,h3,_⟩:=h.st;exact h3.lt
theorem Sto.lt (h:Sto w s lg d gs gn np rs x L) {b:Nat} (hb:On s lg d gs gn b):b<w.heap.size:=by
 obtain ⟨l,h1,h2⟩:=h.dk
 have:=h1.lt
 rcases hb with rfl|rfl|rfl|rfl|rfl
 ·exact this.1
 ·exact this.2.1
 ·exact this.2.2
 ·exact h.lgb.blk.lt
 ·exact h.s_lt
theorem Off.of_lo {n b:Nat} (h:∀ k,On s lg d gs gn k→k<n) (hb:n≤b):Off s lg d gs gn b:=by
 have h1:=h d (.inl rfl)
 have h2:=h gs (.inr (.inl rfl))
 have h3:=h gn (.inr (.inr (.inl rfl)))
 have h4:=h lg (.inr (.inr (.inr (.inl rfl))))
 have h5:=h s (.inr (.inr (.inr (.inr rfl))))
 refine ⟨?_,?_,?_,?_,?_⟩ <;> omega
theorem Off.not_on {b:Nat} (h:Off s lg d gs gn b):¬On s lg d gs gn b:=by
 rintro (e|e|e|e|e)
 ·exact h.2.2.1 e
 ·exact h.2.2.2.1 e
 ·exact h.2.2.2.2 e
 ·exact h.2.1 e
 ·exact h.1 e
end
def blkC (n:Int) (p r:List UInt8) (c:Int):List Value:=.int .i64 n::(cellsB p++(cellsB r++[.int .i64 c]))
theorem blkC_len (n:Int) (p r:List UInt8) (c:Int) (hp:p.length=32) (hr:r.length=32):(blkC n p r c).length=66:=by simp [blkC,lenB,hp,hr]
theorem blkC_one (n:Int) (p r:List UInt8) (c:Int):∀ u∈blkC n p r c,u.oneCell'=true:=by
 intro u hu
 simp only [blkC,List.mem_cons,List.mem_append,List.not_mem_nil,or_false] at hu
 rcases hu with rfl|hu|hu|rfl
 ·rfl
 ·exact oneB _ u hu
 ·exact oneB _ u hu
 ·rfl
theorem blkC_rel (w:World) (F:Blocks) (n:Int) (p r:List UInt8) (c:Int) (hp:p.length=32) (hr:r.length=32):eBlk.rel w F (blkC n p r c) (n,p,r,c):=eBlk_mk (x:=(n,p,r,c)) hp hr
theorem shape_blk_:shapeOf Tryz.prog 190=some (blkC 0 h0 h0 0,[(0,1),(1,32),(33,32),(65,1)]):=by kernel_rfl
theorem fill_blk (n:Int) (H:List UInt8) (c:Int) (h:H.length=32):fillL [(0,1),(1,32),(33,32),(65,1)] (blkC 0 h0 h0 0) [(0,.int .i64 n),(2,.agg (cellsB H).toArray),(3,.int .i64 c)]=some (blkC n h0 H c):=by
 have h1:laid (blkC 0 h0 h0 0) 0 [.int .i64 n]=blkC n h0 h0 0:=by simp [laid,blkC]
 have h2:laid (blkC n h0 h0 0) 33 (cellsB H)=blkC n h0 H 0:=by
  have:=laid_mid (.int .i64 n::cellsB h0) (cellsB h0) [.int .i64 0] (cellsB H) (by rw [lenB,lenB,h,h0_len])
  rw [List.length_cons,lenB,h0_len] at this
  simpa [blkC] using this
 have h3:laid (blkC n h0 H 0) 65 [.int .i64 c]=blkC n h0 H c:=by
  have:=laid_mid (.int .i64 n::(cellsB h0++cellsB H)) [.int .i64 0] [] [.int .i64 c] rfl
  rw [List.length_cons,List.length_append,lenB,lenB,h0_len,h] at this
  simpa [blkC] using this
 have c1:∀ m:Int,(Value.int .i64 m).cells.toList=[.int .i64 m]:=fun _=>rfl
 have c2:(Value.agg (cellsB H).toArray).cells.toList=cellsB H:=rfl
 unfold fillL
 simp only [List.getElem?_cons_zero]
 rw [if_pos ⟨rfl,by rw [blkC_len _ _ _ _ h0_len h0_len];omega⟩,c1,h1]
 unfold fillL
 simp only [List.getElem?_cons_succ,List.getElem?_cons_zero]
 rw [if_pos ⟨by show (cellsB H).length=32;rw [lenB,h],by rw [blkC_len _ _ _ _ h0_len h0_len];omega⟩,c2,h2]
 unfold fillL
 simp only [List.getElem?_cons_succ,List.getElem?_cons_zero]
 rw [if_pos ⟨rfl,by rw [blkC_len _ _ _ _ h0_len h];omega⟩,c1,h3]
 rfl
theorem zero_blk (w:World):(zeroValue 190).run Tryz.prog w=.ok (.agg (blkC 0 h0 h0 0).toArray) w:=by kernel_rfl
theorem size_blk_ (n:Int) (p r:List UInt8) (c:Int) (hp:p.length=32) (hr:r.length=32):(Tryz.prog.info? 190).map (·.size)=some (blkC n p r c).length:=by rw [blkC_len _ _ _ _ hp hr];kernel_rfl
def blk1 (id:Nat) (x:Chg):BlkD:=(1,h0,entH id x,1)
theorem own_not {w:World} {B k n c q:Nat} {t t':TypeId} {A:Option Addr} {xs:List Value} {cs:Array Value} (h:w.ownsRow B t k (.slice A n c) n xs) (hq:Blk w q t' cs) (ht:t'≠t):∀ b,A=some ⟨b,0,none⟩→b≠q:=by
 rintro b rfl rfl
 rcases h.2 with ⟨z,_⟩|⟨g',cap,cur,z,_,hh,_⟩
 ·cases z
 ·injection z with z
  injection z with z
  injection z with z
  subst z
  have h2:=hh.symm.trans hq
  injection h2 with h2
  injection h2 with _ h2
  exact ht h2.symm
def CB (B q:Nat):Blocks:=fun b=>B≤b∧b≠q
theorem lclose_ {w:World} {q B id c2:Nat} {nx o m s:Int} {x:Chg} {A A2 A3:Option Addr}
  (hq:Blk w q 188 #[.int .i64 nx,.slice A 1 1,.slice A2 0 c2,.slice A3 0 0,.int .u32 o,.int .i32 m,.int .u32 s])
  (h1:Sl eTx w (fun b=>CB B q b∧A2≠some ⟨b,0,none⟩) A 1 1 [((id:Int),[x])]) (h2:OwnE eBlk 190 w B (CB B q) A2 0 c2 [])
  (hA2:∀ b,A2=some ⟨b,0,none⟩→b≠q) (hok:OkC x) (hid:id<9223372036854775808) (hBq:B≤q) :
  Calls Tryz.prog 63 #[.pointer (some ⟨q,0,none⟩)] w fun e w'=>e=.returned (.tuple #[])∧∃ A5 c5 A6 c6,Blk w' q 188 #[.int .i64 nx,.slice none 0 0,.slice A5 1 c5,.slice A6 1 c6,.int .u32 o,.int .i32 m,.int .u32 s]∧Sl eBlk w' (CB B q) A5 1 c5 [blk1 id x]∧Sl (eSl eTx) w' (CB B q) A6 1 c6 [[((id:Int),[x])]]∧Below B w w':=by
 obtain ⟨b,off,rfl,_,hFb,hbl⟩:=h1.some_ (by omega)
 have HS:=Lib.hid h1
 have HO:=Lib.hid h2
 have HA:=Lib.hid hA2
 have hBw:B≤w.heap.size:=by have:=hq.lt;omega
 have hqw:q<w.heap.size:=hq.lt
 obtain ⟨i0,hi0,hy0,hy1,hy2⟩:=info_parts (P:=Tryz.prog) (e:=32) (z:=.agg (cellsB h0).toArray) (size:=32) (bytes:=32) (by kernel_rfl)
 have hzs:(Value.agg (cellsB h0).toArray).cells.size=32:=by kernel_rfl
 have hqb:q≠b:=fun e=>hFb.1.2 e.symm
 obtain ⟨cs0,hcs0,hcell0⟩:=h1.at_ (show [((id:Int),[x])][0]? = some ((id:Int),[x]) from rfl)
 obtain ⟨A3',n3,c3,rfl,hr3⟩:=eTx_inv hcs0
 simp only [show eTx.k=2 from rfl,Nat.zero_mul,Nat.add_zero] at hcell0
 have p0:=hcell0 0 _ rfl
 have p1:=hcell0 1 _ rfl
 simp only [Nat.add_zero] at p0
 have HC0:=Lib.hid hcs0
 have q1:=hq.cell 1
 clear hcell0 h1 h2 hA2 hr3 hcs0
 go_enter Tryz.func63,Tryz.ntmps63
 go_wp2_with fail
 refine wp_loop_rounds 2 ?_
 rw [rounds_succ]
 go_upto_region 4 with fail
 clear p0 p1 q1
 obtain ⟨W,hW_,hb1,BT⟩:=al1 w 125 #[.int .i64 (id:Int),.slice A3' n3 c3]
 rw [←hW_]
 clear hW_
 obtain ⟨gt,hgt⟩:∃ g,w.heap.size=g:=⟨_,rfl⟩
 rw [hgt] at BT ⊢
 clear hgt
 have BQ1:=hq.ext hb1
 have HF:=Lib.hid (entry_ (eTx.ext HC0.out hb1) hok hid)
 have qt:=two_ BT (Below.refl _ _)
 go_wp2_with fail
 refine HF.out.mono ?_
 rintro e w3 ⟨rfl,hb3⟩
 have hbw3:=hb1.trans (Below.mono hb3 hb1.size)
 obtain ⟨H,hH⟩:∃ H,entH id x=H:=⟨_,rfl⟩
 have hHl:H.length=32:=by rw [←hH];exact shaL_len _
 have HH:=Lib.hid hH
 rw [hH]
 clear hH HF qt BT hb3 hb1 BQ1 HC0
 go_upto_region 5 with (first|((with_reducible show wpList _ _ _ (Oper.mk (some 20) _ _ _ _ _::_) _ _);(refine wpList_plain rfl fun K hK=>?_);(refine wp_slice1d 20 115 32 (.tmp 19) rfl rfl (cellsB H) rfl i0 _ Tryz.underlying115 hi0 hy0 (by rw [hy1,lenB,hHl]) (by rw [lenB,hHl];omega) (by rw [lenB,hHl];omega) ?_);(refine hK _ _ ?_)) |
  (at_builtin;(refine wpList_append_own _ rfl (.tmp 17) (.tmp 20) 115 rfl w3.heap.size 32 i0 _ 32 32 Tryz.underlying115 hi0 hy0 hy1 hy2 hzs (by decide) _ 0 _ rfl (own_nil _ _ _ _) ⟨w3.heap.size,0,none⟩ 1 1 (cellsB H) rfl ?a1 ?a2 ?a3 ?a4 ?a5 ?a6 ?_)))
 case a1=>rw [lenB,hHl]
 case a2=>exact (Row.of_blk (lo:=0) (Blk.new w3 32 (cellsB H).toArray) (Nat.zero_le _) 1 1 (Nat.le_refl _)).src
 case a3=>exact oneB H
 case a4=>unfold maxLen;omega
 case a5=>omega
 case a6=>simp
 clear hi0 hy0 hy1 hy2 hzs i0
 intro v' w4 hown hgrow _
 obtain ⟨A4,c4,rfl⟩:=own_slice hown
 obtain ⟨g4,rfl,hg4lo,hg4hi⟩:=own_some1 hown (by omega)
 have hba:=(Below.refl w3.heap.size w3).alloc (Nat.le_refl _) (.cells (cellsB H).toArray 32)
 have hb4:=hba.grown hgrow hba.size (fun k hk=>by simp [Value.ownBlock] at hk)
 have hrow:=Row.of_own hown
 have HRG:=Lib.hid (show w4.rangeAt g4 0 (cellsB H) from fun j u hu=>hrow.at_ hu)
 have hc4:1≤c4:=hrow.le_
 have hbw4:=hbw3.trans (Below.mono hb4 hbw3.size)
 have BQ4:=hq.ext hbw4
 have hw4:=hbw4.size
 clear hown hgrow hba hb4 hrow hbw3
 go_wp2_with fail
 rw [rounds_succ]
 go_upto_region 6 with fail
 have hzb:=zero_blk
 have D:∀ w',Below w4.heap.size w4.drew w'→w'.cell? ⟨q,2,none⟩=some (.slice A2 0 c2):=fun w' h=>(BQ4.ext ((Below.refl _ _).drew.trans h)).cell 2
 refine wp_region_mix1 ⟨12,5,fun g=>.pointer (some ⟨g,0,none⟩),.cells (blkC 0 h0 h0 0).toArray 190⟩
  [(0,true),(1,true),(2,true),(3,true),(4,true),(5,true),(6,true),(7,true),(9,true),(10,true)] [(8,false),(11,true)] [(13,false)] (by kernel_rfl) (by kernel_rfl) ?_
 repeat ((with_reducible refine iG ?_);(first|refine iT ?_|refine iF ?_);try go_frame)
 refine wpI_done ⟨?_,?_⟩
 ·intro y hy
  simp only [List.mem_cons,List.not_mem_nil,or_false] at hy
  subst hy
  exact ⟨_,rfl,rfl,wanted_free rfl,fun w=>by go_simp⟩
 clear D hzb
 refine iD fun wI hI hSI K hK=>?_;go_simp
 have hbI:=(Below.refl w4.heap.size w4).drew.trans hI
 have HF:=Lib.hid (root1_ hHl (show wI.rangeAt g4 0 (cellsB H) from fun j u hu=>(hbI.cell (p:=⟨g4,0+j,none⟩) hg4hi).trans (HRG.out j u hu)) (Nat.lt_of_lt_of_le hg4hi hbI.size) hc4)
 refine HF.out.mono ?_
 rintro e w5 ⟨rfl,hb5⟩
 refine hK.out _ _ hb5 ?_
 clear hK K HF hI hSI hbI hb5
 refine wpI_on rfl rfl (wanted_free rfl) (fun w' hS=>exec_build (ps:=[(0,.int .i64 1),(2,.agg (cellsB H).toArray),(3,.int .i64 1)]) 190 _ rfl shape_blk_ rfl (fill_blk 1 H 1 hHl)) ?_
 go_frame
 refine wpI_done ?_
 intro g5 wf he hb hlo1 hhi1 hat1
 try simp only [List.setIfInBounds_toArray,List.set_cons_zero,List.set_cons_succ]
 have B5:Blk wf g5 190 (blkC 0 h0 h0 0).toArray:=hat1
 clear hat1 he
 have hkl:=blkC_len 1 h0 H 1 h0_len hHl
 have hone:=blkC_one 1 h0 H 1
 have hsz:=size_blk_ 1 h0 H 1 h0_len hHl
 obtain ⟨bc,hbc⟩:∃ z,z=blkC 1 h0 H 1:=⟨_,rfl⟩
 rw [←hbc] at hkl hone hsz ⊢
 have hth:=Blk.there (o:=0) (n:=66) B5 (by rw [blkC_len _ _ _ _ h0_len h0_len];omega)
 refine wpPerm_do rfl (wanted_free rfl) (fun K hK=>?_)
 refine wp_store_wide 190 (.tmp 5) (.tmp 34) rfl rfl g5 0 bc rfl rfl (by rw [hkl];exact hth) hsz hone ?_
 obtain ⟨B6,hg6⟩:=Blk.lay bc 0 B5 (by rw [hkl,blkC_len _ _ _ _ h0_len h0_len];omega)
 rw [laid_all _ _ (by rw [hkl,blkC_len _ _ _ _ h0_len h0_len])] at B6
 have hwf:w4.heap.size≤wf.heap.size:=hb.size
 have hb6:=hb.grown hg6 hwf (fun k hk=>by injection hk with hk;omega)
 refine hK.out _ _ hb6 (wpPerm_done ?_)
 clear hK K hth B5 hb
 have hb46:=(Below.refl w4.heap.size w4).drew.trans hb6
 have BQ6:=BQ4.ext hb46
 have hbw6:=hbw4.trans (Below.mono hb46 hbw4.size)
 clear hb6 hb46 hg6 BQ4 hbw4 HRG
 generalize wf.setCells g5 0 bc=w6 at *
 have HBC:=Lib.hid hbc
 clear hbc hwf hhi1
 have q2:=BQ6.cell 2
 go_upto_region 10 with fail
 have HB6:=Lib.hid B6
 have hOB:=HO.out
 obtain ⟨css,hown,hcs,_⟩:=(HO.out.ext hbw6)
 have hcss:css=[]:=List.length_eq_zero_iff.1 hcs.1
 subst hcss
 obtain ⟨iB,hbi,hb0,hb1,hb2⟩:=info_parts (P:=Tryz.prog) (e:=190) (z:=.agg (blkC 0 h0 h0 0).toArray) (size:=66) (bytes:=80) (by kernel_rfl)
 have hbz:(Value.agg (blkC 0 h0 h0 0).toArray).cells.size=66:=by kernel_rfl
 have D:=fun w' (hS:Blk w' q 188 #[.int .i64 nx,.slice (some ⟨b,off,none⟩) 1 1,.slice A2 0 c2,.slice A3 0 0,.int .u32 o,.int .i32 m,.int .u32 s]∧Blk w' g5 190 bc.toArray)=>show w'.cell? ⟨q,2,none⟩=some (.slice A2 0 c2) from hS.1.cell 2
 refine wp_region_tail (S:=fun w'=>Blk w' q 188 #[.int .i64 nx,.slice (some ⟨b,off,none⟩) 1 1,.slice A2 0 c2,.slice A3 0 0,.int .u32 o,.int .i32 m,.int .u32 s]∧Blk w' g5 190 bc.toArray)
  [(0,true),(1,true),(2,true),(3,true),(4,true),(5,true),(6,true),(7,false),(8,false),(9,true),(10,true),(11,true)] [(12,false)] (by kernel_rfl) (by kernel_rfl) ⟨Blk.drew BQ6,Blk.drew B6⟩ ?_
 iterate 6 (((with_reducible refine pG ?_);(first|refine pT ?_|refine pF ?_);try go_frame))
 refine wpPerm_on rfl rfl (wanted_free rfl) (fun w' hS=>exec_load_mid 190 (.tmp 5) rfl g5 0 rfl bc _ (Blk.whole hS.2) Tryz.underlying190 rfl hsz) ?_
 go_frame
 refine wpPerm_do rfl (wanted_free rfl) (fun K hK=>?_)
 refine wp_slice1d 61 84 190 (.tmp 60) rfl rfl bc rfl iB _ Tryz.underlying84 hbi hb0 (by rw [hb1,hkl]) (by rw [hkl];omega) (by rw [hkl];omega) ?_
 go_frame
 have BQ7:=Blk.alloc (Blk.drew BQ6) (.cells bc.toArray 190)
 have B7:=Blk.alloc (Blk.drew B6) (.cells bc.toArray 190)
 have C7:Blk (w6.drew.alloc (.cells bc.toArray 190)) w6.drew.heap.size 190 bc.toArray:=Blk.new _ _ _
 have hb67:Below w6.heap.size w6 (w6.drew.alloc (.cells bc.toArray 190)):=((Below.refl w6.heap.size w6).drew).alloc (Nat.le_refl _) _
 refine hK.out _ _ ⟨BQ7,B7⟩ ?_
 clear hK K
 have hown7:=own_ext hown hb67
 have hbw7:=hbw6.trans (Below.mono hb67 hbw6.size)
 obtain ⟨g7,hg7⟩:∃ g,w6.drew.heap.size=g:=⟨_,rfl⟩
 have hg7':w6.heap.size=g7:=hg7
 generalize w6.drew.alloc (.cells bc.toArray 190)=w7 at *
 rw [hg7] at C7 ⊢
 have hB7:=Nat.le_trans hBw hbw7.size
 have HR2:=Lib.hid (fun g hg=>hOB.row (g:=g) hg)
 have hA2w:∀ g,(Value.slice A2 0 c2).ownBlock=some g→g≠q∧g<w.heap.size∧B≤g:=fun g hg=>by
  have e:=hOB.row hg
  exact ⟨HA.out g e,(hOB.lt e).2,(hOB.lt e).1⟩
 clear hOB BQ6 B6 hb67 hown hg7 hg7'
 have hHS7:=Lib.hid (HS.out.ext hbw7)
 have hg5b:w.heap.size≤g5:=Nat.le_trans hw4 hlo1
 refine wpPerm_do rfl (wanted_free rfl) (fun K hK=>?_)
 refine wp_append_d 62 (.tmp 59) (.tmp 61) 84 rfl rfl B 190 iB _ 66 80 Tryz.underlying84 hbi hb0 hb1 hb2 hbz (by decide) _ 0 _ rfl hown7 ⟨g7,0,none⟩ 1 1 bc rfl (by rw [hkl]) (fun j u hu=>by rw [Addr.add_mid];exact Blk.whole C7 j u hu) hone (by unfold maxLen;omega) (by omega) hB7 ?_
 intro A5 c5 w8 hO8 hg8
 go_frame
 rw [show [].flatten++bc=bc from rfl] at hO8
 have hk8:Keep (fun b=>A2≠some ⟨b,0,none⟩) w7 w8:=Keep.grown hg8 (fun g hg h=>h (HR2.out g hg))
 have BQ8:=BQ7.grown hg8 (fun e=>(hA2w _ e.symm).1 rfl)
 have B8:=B7.grown hg8 (fun e=>by have:=(hA2w _ e.symm).2.1;omega)
 have hbw8:Below B w w8:=(Below.mono hbw7 hBw).grown hg8 hB7 (fun k hk=>(hA2w k hk).2.2)
 refine hK.out _ _ ⟨BQ8,B8⟩ ?_
 clear hK K D
 have HS8:=Lib.hid (hHS7.out.keep (hk8.mono (fun b h=>h.2)))
 have HO8:=Lib.hid hO8
 have hB8:=Nat.le_trans hB7 hg8.size
 clear hO8 hg8 hk8 hHS7 hown7 BQ7 B7 C7 hbw7 hA2w hB7 hbi hb0 hb1 hb2 hbz iB
 repeat ((with_reducible refine pG ?_);(first|refine pT ?_|refine pF ?_);try go_frame)
 refine wpTail_done ?_
 have q2:=BQ8.cell 2
 have f2:=BQ8.frozen 2
 refine pD fun K hK=>?_;go_simp
 refine hK.out _ _ trivial (wpPerm_done ?_)
 clear hK K q2 f2
 have hg9:=set_grown w8 q 2 (.slice A5 1 c5)
 have BQ9:Blk (w8.setCell ⟨q,2,none⟩ (.slice A5 1 c5)) q 188 #[.int .i64 nx,.slice (some ⟨b,off,none⟩) 1 1,.slice A5 1 c5,.slice A3 0 0,.int .u32 o,.int .i32 m,.int .u32 s]:=BQ8.set_ 2 _
 have hnq:=own_not HO8.out BQ8 (by decide)
 have hblk:Sl eBlk w8 (CB B q) A5 1 c5 [blk1 id x]:=by
  have hE:OwnE eBlk 190 w8 B (CB B q) A5 1 c5 [blk1 id x]:=⟨[bc],by rw [show [bc].flatten=bc by simp];exact HO8.out,Els.one_ (by rw [HBC.out];unfold blk1;rw [HH.out];exact blkC_rel _ _ _ _ _ _ h0_len hHl),rfl⟩
  exact hE.slB (fun b e=>⟨(hE.lt e).1,hnq b e⟩) (fun b h=>h)
 have hk9:Keep (fun b=>b≠q) w8 (w8.setCell ⟨q,2,none⟩ (.slice A5 1 c5)):=Keep.grown hg9 (fun g hg h=>by injection hg with hg;exact h hg.symm)
 have HK9:=Lib.hid (hblk.keep (hk9.mono (fun b h=>h.2)))
 have HS9:=Lib.hid (HS8.out.keep (hk9.mono (fun b h=>h.1.2)))
 have hbw9:=hbw8.grown hg9 hB8 (fun k hk=>by injection hk with hk;omega)
 have hB9:=Nat.le_trans hB8 hg9.size
 clear hblk hnq hk9 hg9 BQ8 B8 hbw8 hB8 HS8 HO8
 generalize w8.setCell ⟨q,2,none⟩ (.slice A5 1 c5)=w9 at *
 go_upto_region 11 with fail
 have D:=fun w' (hS:Blk w' q 188 #[.int .i64 nx,.slice (some ⟨b,off,none⟩) 1 1,.slice A5 1 c5,.slice A3 0 0,.int .u32 o,.int .i32 m,.int .u32 s])=>show w'.cell? ⟨q,1,none⟩=some (.slice (some ⟨b,off,none⟩) 1 1)∧w'.cell? ⟨q,3,none⟩=some (.slice A3 0 0) from ⟨hS.cell 1,hS.cell 3⟩
 refine wp_region_tail (S:=fun w'=>Blk w' q 188 #[.int .i64 nx,.slice (some ⟨b,off,none⟩) 1 1,.slice A5 1 c5,.slice A3 0 0,.int .u32 o,.int .i32 m,.int .u32 s])
  [(0,true),(1,true),(2,true),(3,true),(4,true),(5,true),(6,true),(7,true),(8,true),(9,true),(10,true),(11,false),(12,false),(13,true),(14,true),(15,true)] [(16,false)] (by kernel_rfl) (by kernel_rfl) (Blk.drew BQ9) ?_
 repeat ((with_reducible refine pG ?_);(first|refine pT ?_|refine pF ?_);try go_frame)
 refine pD fun K hK=>?_;go_simp
 have hba:Below w9.heap.size w9 (w9.alloc (.cells #[.slice (some ⟨b,off,none⟩) 1 1] 83)).drew:=((Below.refl _ _).alloc (Nat.le_refl _) _).drew
 have BV:Blk (w9.alloc (.cells #[.slice (some ⟨b,off,none⟩) 1 1] 83)).drew w9.heap.size 83 #[.slice (some ⟨b,off,none⟩) 1 1]:=Blk.new _ _ _
 obtain ⟨gv,hgv⟩:∃ g,w9.heap.size=g:=⟨_,rfl⟩
 obtain ⟨Wa,hWa⟩:∃ W,W=(w9.alloc (.cells #[.slice (some ⟨b,off,none⟩) 1 1] 83)).drew:=⟨_,rfl⟩
 rw [←hWa] at hba BV ⊢
 rw [hgv] at BV ⊢
 have BQa:=BQ9.ext hba
 refine hK.out _ _ BQa ?_
 clear hK K hWa hgv
 obtain ⟨iT,hti,ht0,ht1,ht2⟩:=info_parts (P:=Tryz.prog) (e:=83) (z:=.slice none 0 0) (size:=1) (bytes:=24) (by kernel_rfl)
 refine wpPerm_do rfl (wanted_free rfl) (fun K hK=>?_)
 refine wp_append_full 78 (.tmp 71) (.tmp 77) 85 rfl rfl 83 iT _ 1 24 Tryz.underlying85 hti ht0 ht1 ht2 rfl (by decide) A3 0 0 [] rfl (fun _=>⟨rfl,rfl⟩) rfl (fun b hb j u hu=>by simp at hu) ⟨gv,0,none⟩ 1 1 [.slice (some ⟨b,off,none⟩) 1 1] rfl rfl (fun j u hu=>by rw [Addr.add_mid];match j with|0=>rw [←hu];exact BV.cell 0|j+1=>simp at hu) (fun u hu=>by simp at hu;subst hu;rfl) (by omega) (by unfold maxLen;omega) (by omega) ?_
 intro A6 c6 w10 hown hgr
 have hbc:Below Wa.heap.size Wa w10:=(Below.refl _ _).grown hgr (Nat.le_refl _) (fun k hk=>by cases hk)
 have BQ10:=BQa.ext hbc
 refine hK.out _ _ BQ10 ?_
 clear hK K D
 have hbac:=hba.trans (Below.mono hbc hba.size)
 have HS10:=Lib.hid (HS9.out.ext hbac)
 have HK10:=Lib.hid (HK9.out.ext hbac)
 have hbw10:=hbw9.trans (Below.mono hbac hB9)
 have hB10:=Nat.le_trans hB9 hbac.size
 have hBa:=Nat.le_trans hB9 hba.size
 have HO10:=Lib.hid hown
 clear hown hgr hbc hbac hba BV BQa BQ9 HS9 HK9 hbw9 hB9 hti ht0 ht1 ht2 iT
 repeat ((with_reducible refine pG ?_);(first|refine pT ?_|refine pF ?_);try go_frame)
 refine wpTail_done ?_
 have q3:=BQ10.cell 3
 have f3:=BQ10.frozen 3
 refine pD fun K hK=>?_;go_simp
 refine hK.out _ _ trivial (wpPerm_done ?_)
 clear hK K q3 f3
 have hnq:=own_not HO10.out BQ10 (by decide)
 have htx:Sl (eSl eTx) w10 (CB B q) A6 1 c6 [[((id:Int),[x])]]:=by
  have hE:OwnE (eSl eTx) 83 w10 B (CB B q) A6 1 c6 [[((id:Int),[x])]]:=⟨[[.slice (some ⟨b,off,none⟩) 1 1]],by rw [show [[Value.slice (some ⟨b,off,none⟩) 1 1]].flatten=[]++[Value.slice (some ⟨b,off,none⟩) 1 1] by simp];exact own_base HO10.out hBa,Els.one_ ⟨_,_,_,rfl,HS10.out.mono (fun b h=>h.1)⟩,rfl⟩
  exact hE.slB (fun b e=>⟨(hE.lt e).1,hnq b e⟩) (fun b h=>h)
 have hg11:=grown_trans (set_grown w10 q 3 (.slice A6 1 c6)) (set_grown _ q 1 (.slice none 0 0))
 have BQ11:Blk (w10.setCell ⟨q,3,none⟩ (.slice A6 1 c6)) q 188 #[.int .i64 nx,.slice (some ⟨b,off,none⟩) 1 1,.slice A5 1 c5,.slice A6 1 c6,.int .u32 o,.int .i32 m,.int .u32 s]:=BQ10.set_ 3 _
 have BQ12:Blk ((w10.setCell ⟨q,3,none⟩ (.slice A6 1 c6)).setCell ⟨q,1,none⟩ (.slice none 0 0)) q 188 #[.int .i64 nx,.slice none 0 0,.slice A5 1 c5,.slice A6 1 c6,.int .u32 o,.int .i32 m,.int .u32 s]:=BQ11.set_ 1 _
 have hk12:Keep (CB B q) w10 ((w10.setCell ⟨q,3,none⟩ (.slice A6 1 c6)).setCell ⟨q,1,none⟩ (.slice none 0 0)):=Keep.grown hg11 (fun g hg h=>by injection hg with hg;exact h.2 hg.symm)
 have HE:=Lib.hid (And.intro (HK10.out.keep hk12) (And.intro (htx.keep hk12) (hbw10.grown hg11 hB10 (fun k hk=>by injection hk with hk;omega))))
 have q1:=BQ11.cell 1
 have f1:=BQ11.frozen 1
 clear hnq htx hg11 hk12 BQ10 HS10 HK10 hbw10 HO10 BQ11
 go_wp2_with fail
 go_end0
 exact ⟨rfl,A5,c5,A6,c6,BQ12,HE.out⟩
end Go.Proofs.YtgbcdkmjcokclaaGreat.tp
