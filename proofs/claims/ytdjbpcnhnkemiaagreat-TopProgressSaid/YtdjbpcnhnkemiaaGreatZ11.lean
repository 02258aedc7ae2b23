/- Laws of its own that the claim's proof needs; no condition beyond those that each states. -/
import Derived.Test.YtdjbpcnhnkemiaaGreatZ10
import Derived.Test.YtdjbpcnhnkemiaaGreatZ1
import Derived.ChangeSlices
import Derived.WideShapes
import Derived.Test.YtdjbpcnhnkemiaaGreatZ2
import Derived.Test.YtdjbpcnhnkemiaaGreatZ9
set_option linter.unusedVariables false
set_option maxRecDepth 1000000
set_option maxHeartbeats 16000000
namespace Go.Proofs.YtdjbpcnhnkemiaaGreat.tp
open Go.ChangeShapes Go.WideShapes Go.ChangeAt Go.RowKit Go.Proofs.YtdjbpcnhnkemiaaGreat.lib
variable {w w':World}
variable {n c g B b off i j k m n2 n3 c2 c3 c4 c5 c6 gs gn np lo gr gd id b2 off2:Nat}
variable {A A2 A3 A4 A5 A6:Option Addr}
variable {cs:List Value}
variable {l r:List UInt8}
variable {rs:List (List UInt8)}
variable {s o e:Int}
variable {nm:ByteArray}
variable {F G:qab}
variable {x:DBd}
theorem Fnd.bound {gf gm:Nat} {D:qab} {nx:Int} {op:List (List UInt8)} {bl:List BlkD} {M:List (Int × Value)} (h:Fnd w gf gm D x nx op bl M):Fnd w gf gm (fun b=>D b/\b<w.heap.size) x nx op bl M:=by
 obtain ⟨A1,A2,A3,A4,n1,c1,n2,c2,n3,c3,n4,c4,O,m,c,B,k,d,h1,h2,h3,h4⟩:=h.st
 exact ⟨⟨A1,A2,A3,A4,n1,c1,n2,c2,n3,c3,n4,c4,O,m,c,B,k,d,h1,eDB.mono (qhu h2) (fun b hb=>⟨⟨hb.1.1,hb.2⟩,hb.1.2⟩),h3,h4⟩,h.mp,h.ne,h.nl⟩
theorem Recs.some_ (h:Recs w F A n c rs) (hn:0<n):∃ b off,A=some ⟨b,off,none⟩/\n<=c/\F b/\b<w.heap.size:=by
 obtain ⟨hs,hr,hl,hl2,_⟩:=h
 rcases hr with ⟨_,h0,_⟩|⟨_,_,h0,_⟩|⟨b,off,e,hnc,hF,hb,_⟩
 ·omega
 ·omega
 ·exact ⟨b,off,e,hnc,hF,hb⟩
theorem verify3_ {d N:Nat} {ws:Value} (h:Dk w d gs gn np l ws) (hl:Logd l np [tabB schX,txB 0 (chX N),blkB 1 (H1 0 (chX N))])
  (hr:w.rangeAt b off (digC 1 (H1 0 (chX N)))) (hbl:b<w.heap.size) (hok:OkC (chX N)) (hN:N<9223372036854775808) (hput:tb.putL SX.cols SX.key [] (rX N)=(0,[rX N])) :
  Calls Tryz.prog 20 #[.pointer (some ⟨d,0,none⟩),.slice (some ⟨b,off,none⟩) 1 c] w fun e w'=>e=.returned (.slice none 0 0)/\Below w.heap.size w w':=by
 have HD0:=zh h
 have HL0:=zh hl
 have HRG:=zh hr
 have HOK:=zh hok
 have HPT:=zh hput
 clear h hl hr hok hput
 go_enter Tryz.func20,Tryz.ntmps20
 have hmm:=@run_makeMap Tryz.prog
 go_wp2_with fail
 refine wp_scope_straight ?_
 have hbq:∀ g,Tryz.prog.built 180 [(6,.map (some g))]=some (fndC none none none none 0 0 0 0 0 0 0 0 0 none 0 0 none 0 0 g):=fun g=>by rw [qoe shape_fnd (fill_fnd g)]
 go_upto_region 2 with (first|((with_reducible refine sT 12 ?_);(refine wpList_build rfl _ _ rfl (by simp) ?_);go_frame;simp only [List.map_cons,List.map_nil,hbq,Option.getD_some]))
 obtain ⟨W,hW⟩:∃ z,z=(((w.alloc (.map #[] 0)).alloc (.cells #[.int .u32 0,.int .i32 0,.int .u32 0,.slice none 0 0,.slice none 0 0,.slice none 0 0,.slice none 0 0,.slice none 0 0,.int .i64 0,.slice none 0 0,.slice none 0 0,.map (some w.heap.size)] 180)).alloc (.cells #[.pointer (some ⟨w.heap.size+1,0,none⟩)] 176)):=⟨_,rfl⟩
 rw [<-hW]
 have HFN:=zh (fnd_new w W hW)
 clear hW hmm hbq
 obtain ⟨gm,hgm⟩:∃ g,w.heap.size=g:=⟨_,rfl⟩
 obtain ⟨gf,hgf⟩:∃ g,w.heap.size+1=g:=⟨_,rfl⟩
 obtain ⟨gp,hgp⟩:∃ g,w.heap.size+2=g:=⟨_,rfl⟩
 have hBe:=HFN.out.2.2
 have hFn0:=HFN.out.1
 have hBp:=HFN.out.2.1
 have hgmw:w.heap.size<=gm:=by omega
 have hgfw:w.heap.size<=gf:=by omega
 have hgpf:gp≠gf:=by omega
 have hgpm:gp≠gm:=by omega
 have hgfm:gf≠gm:=by omega
 rw [hgf,hgm] at hFn0
 rw [hgf,hgp] at hBp
 rw [show w.heap.size+1+1=gp from hgp]
 rw [hgf]
 have hpl:gp<W.heap.size:=hBp.lt
 have hfl:gf<W.heap.size:=hFn0.lt.1
 have hml:gm<W.heap.size:=hFn0.lt.2
 clear HFN hgm hgf hgp
 have HS:=zh (scan_ (HD0.out.ext hBe) HL0.out)
 clear HD0 HL0
 go_wp2_with fail
 refine HS.out.mono ?_
 rintro e w1 ⟨A,c1,rfl,hr,hb1⟩
 obtain ⟨F1,hF1⟩:∃ F:qab,F=fun x=>W.heap.size<=x/\x<w1.heap.size:=⟨_,rfl⟩
 obtain ⟨rb,ro,rfl,_,hrb,hrbl⟩:=hr.some_ (by simp)
 have HR1:=zh (show Recs w1 F1 (some ⟨rb,ro,none⟩) 3 c1 [tabB schX,txB 0 (chX N),blkB 1 (H1 0 (chX N))] from hF1 ▸ hr.bound)
 have HW1:=zh hF1
 have HF1:=zh (hFn0.ext hb1)
 have HP1:=hBp.ext hb1
 have HB1:=(hBe.tr hb1)
 have hsW1:W.heap.size<=w1.heap.size:=hb1.size
 clear HS hr hb1 hF1 hFn0 hBp hBe
 have q1:=HP1.cell 0
 have HM:=zh (fun (w':World) a b c d=>qdu (w:=w') (f:=.pointer (some ⟨gf,0,none⟩)) a b c d)
 go_wp2_with fail
 refine (HM.out _ _ _ _ _).mono ?_
 rintro e w2 ⟨rfl,hb2⟩
 have HF2:=zh (HF1.out.ext hb2)
 have HR2:=zh (HR1.out.ext hb2)
 have HP2:=HP1.ext hb2
 have HB2:=(HB1.tr hb2)
 have hsW2:w1.heap.size<=w2.heap.size:=hb2.size
 clear hb2 HF1 HR1 HP1 HB1 HM q1
 go_wp2_with fail
 try refine wp_label ?_
 go_wp2_with fail
 refine wp_loop_rounds 4 ?_
 rw [rounds_succ]
 obtain ⟨A0,k0,q0,hy0⟩:=HR2.out.at_ (show [tabB schX,txB 0 (chX N),blkB 1 (H1 0 (chX N))][0]? = some (tabB schX) from rfl)
 rw [Nat.add_zero] at q0
 have HY0:=zh hy0
 clear hy0
 go_upto_region 7 with fail
 clear q0
 obtain ⟨Wa,hW_,hba,BK⟩:=al1 w2 3 #[.int .i64 0]
 rw [<-hW_]
 clear hW_
 obtain ⟨gk,hgk⟩:∃ g,w2.heap.size=g:=⟨_,rfl⟩
 have hgk2:w2.heap.size<=gk:=by omega
 rw [hgk] at BK ⊢
 clear hgk
 have HF:=zh (vread1_ (HY0.out.ext hba))
 go_wp2_with fail
 refine HF.out.mono ?_
 rintro e w3 ⟨As,cs,rfl,hSs,hb3⟩
 have BK3:=BK.ext hb3
 have hb23:=(hba.tr hb3)
 have HP3:=HP2.ext hb23
 have HF3:=zh (HF2.out.ext hb23)
 have HR3:=zh (HR2.out.ext hb23)
 have HB3:=(HB2.tr hb23)
 have hs3:w2.heap.size<=w3.heap.size:=hb23.size
 have HS3:=zh hSs
 clear HF hba hb3 BK hb23 HP2 HF2 HR2 HB2 HY0 hSs
 obtain ⟨rc,hrc⟩:∃ x,x=recC false 1 [.string ⟨#[120]⟩,.slice As 1 cs,.int .i64 0,.bool false] ⟨#[]⟩ tr0 0 h0:=⟨_,rfl⟩
 have hrl:rc.length=108:=by rw [hrc];exact qaq _ _ _ _ _ _ _ rfl qap qaf
 have hro:∀ u∈rc,u.oneCell'=true:=by rw [hrc];exact qde _ _ _ _ _ _ _ (qig _ _ _ _ rfl rfl rfl rfl) qfk
 have hrs:(Tryz.prog.info? 189).map (·.size)=some rc.length:=by rw [hrc];exact qcr _ _ _ _ _ _ _ rfl qap qaf
 have r0:rc.toArray[0]? = some (.bool false):=by rw [hrc];rfl
 have rj:rc.toArray[1]? = some (.int .i64 1):=by rw [hrc];rfl
 have rk:rc.toArray[2]? = some (.string ⟨#[120]⟩):=by rw [hrc];rfl
 have rl:rc.toArray[3]? = some (.slice As 1 cs):=by rw [hrc];rfl
 have r4:rc.toArray[4]? = some (.int .i64 0):=by rw [hrc];rfl
 have r5:rc.toArray[5]? = some (.bool false):=by rw [hrc];rfl
 rw [<-hrc]
 clear hrc
 obtain ⟨Wq,hWq⟩:∃ W',W'=w3.alloc (.cells (recC false 0 sch0 ⟨#[]⟩ tr0 0 h0).toArray 189):=⟨_,rfl⟩
 have hbq:Below w3.heap.size w3 Wq:=by rw [hWq];exact (zb _ _).alloc (zl _) _
 have BQ0:Blk Wq w3.heap.size 189 (recC false 0 sch0 ⟨#[]⟩ tr0 0 h0).toArray:=by rw [hWq];exact Blk.new _ _ _
 have hthq:=Blk.there (o:=0) (n:=108) BQ0 (by rw [qaq _ _ _ _ _ _ _ rfl qap qaf];omega)
 obtain ⟨BQ,hgq⟩:=Blk.lay rc 0 BQ0 (by rw [hrl,qaq _ _ _ _ _ _ _ rfl qap qaf];omega)
 rw [qai _ _ (by rw [hrl,qaq _ _ _ _ _ _ _ rfl qap qaf])] at BQ
 have hbq5:=(hbq.gw hgq)
 have HWq:=zh hWq
 have hz:=qfh
 clear hWq
 go_upto_region 9 with ((with_reducible refine sS 10 ?_);(rw [<-HWq.out]);(refine wpList_store_mid rfl 189 _ _ rfl w3.heap.size 0 rc.toArray rfl rfl ?h1 ?h2 (all_oneCell_toArray hro) ?_))
 case h1=>exact (show rc.toArray.size=108 by simp [hrl]) ▸ hthq
 case h2=>exact (show rc.toArray.size=rc.length by simp) ▸ hrs
 clear hthq hgq hbq BQ0 hz
 obtain ⟨g10,hg10⟩:∃ g,w3.heap.size=g:=⟨_,rfl⟩
 have hg10w:w2.heap.size<=g10:=by omega
 have BK4:=BK3.ext hbq5
 have HP4:=HP3.ext hbq5
 have HF4:=zh (HF3.out.ext hbq5)
 have HR4:=zh (HR3.out.ext hbq5)
 have HS4:=zh (HS3.out.ext hbq5)
 have HB4:=(HB3.tr hbq5)
 have hs4:w2.heap.size<=(Wq.setCells w3.heap.size 0 rc).heap.size:=Nat.le_trans hs3 hbq5.size
 rw [hg10] at BQ BK4 HP4 HF4 HR4 HS4 HB4 hs4 ⊢
 clear hg10 BK3 HP3 HF3 HR3 HS3 HB3 hbq5 hs3
 generalize Wq.setCells g10 0 rc=w4 at *
 clear HWq
 have q0:=(BQ.cell 0).trans r0
 have q1:=(BQ.cell 1).trans rj
 have q2:=(BQ.cell 2).trans rk
 have q3:=(BQ.cell 3).trans rl
 have q4:=(BQ.cell 4).trans r4
 have q5:=(BQ.cell 5).trans r5
 have qp:=HP4.cell 0
 have qk:=BK4.cell 0
 have HF:=zh (vmadeO_ (kk:=0) HF4.out HS4.out)
 go_wp2_with fail
 refine HF.out.mono ?_
 rintro e w5 ⟨rfl,hF5,hfr5,At,ct,ht5,hth5⟩
 clear HF q0 q1 q2 q3 q4 q5 qp qk r0 rj rk rl r4 r5 hrl hro hrs BQ BK4 HF4 HS4
 have hF1k:∀ k,F1 k->W.heap.size<=k/\k<w1.heap.size:=by rw [HW1.out];exact fun k h=>h
 have HP5:=hfr5.blk HP4 (fun h=>h.elim hgpf hgpm)
 have HB5:=HB4.trans (hfr5.to_below HB4.size (fun k hk h=>by rcases h with h|h <;> omega))
 have HR5:=zh (HR4.out.keep (hfr5.keep (fun k hk _ h=>by have:=hF1k k hk;rcases h with h|h <;> omega)))
 have hs5:w4.heap.size<=w5.heap.size:=hfr5.size
 obtain ⟨D5,hD5⟩:∃ D:qab,D=fun x=>w4.heap.size<=x/\x<w5.heap.size:=⟨_,rfl⟩
 have hDk:∀ k,D5 k->w4.heap.size<=k/\k<w5.heap.size:=by rw [hD5];exact fun k h=>h
 have HT5:Hid (∃ A c,w5.cell? ⟨gf,4,none⟩=some (.slice A 1 c)/\TH w5 D5 A):=zh (by
  obtain ⟨tb,e,hlo,hth,hlt⟩:=hth5
  exact ⟨At,ct,ht5,tb,e,by rw [hD5];exact ⟨hlo,hlt⟩,hth,hlt⟩)
 have HF5:=zh (show Fnd w5 gf gm D5 dbX ((0:Nat):Int) [] [] [] from hD5 ▸ hF5)
 clear hF5 hfr5 HR4 HP4 HB4 hth5 ht5 hD5
 go_wp2_with fail
 rw [rounds_succ]
 obtain ⟨A0,k0,q0,hy0⟩:=HR5.out.at_ (show [tabB schX,txB 0 (chX N),blkB 1 (H1 0 (chX N))][1]? = some (txB 0 (chX N)) from rfl)
 have HY0:=zh hy0
 clear hy0
 go_upto_region 7 with fail
 clear q0
 obtain ⟨Wa,hW_,hba,BK⟩:=al1 w5 3 #[.int .i64 1]
 rw [<-hW_]
 clear hW_
 obtain ⟨gk,hgk⟩:∃ g,w5.heap.size=g:=⟨_,rfl⟩
 rw [hgk] at BK ⊢
 clear hgk
 have HF:=zh (show Calls Tryz.prog 53 #[.slice A0 (txB 0 (chX N)).length k0] Wa fun e w'=>∃ A' c' B d,e=.returned (.agg (recC false 3 sch0 ⟨#[]⟩ (trC ((0:Nat):Int) (.slice A' 1 c') (.slice B 1 d) (rowH 0 0 (chX N)) false h0) 0 h0).toArray)/\Sl eChg w' (fun b=>Wa.heap.size<=b) A' 1 c' [chX N]/\Sl eHash w' (fun b=>Wa.heap.size<=b) B 1 d [rowH 0 0 (chX N)]/\Below Wa.heap.size Wa w' from vread3_ (id:=0) (nm:=[120]) (HY0.out.ext hba) (by decide) hN (by decide))
 go_wp2_with fail
 refine HF.out.mono ?_
 rintro e w6 ⟨Ac,cc,Bc,dc,rfl,hSc,hSh,hb6⟩
 have hb56:=(hba.tr hb6)
 have HP6:=HP5.ext hb56
 have HF6:=zh (HF5.out.ext hb56)
 have HR6:=zh (HR5.out.ext hb56)
 have HB6:=(HB5.tr hb56)
 have hsa:w5.heap.size<=Wa.heap.size:=hba.size
 have hs6:Wa.heap.size<=w6.heap.size:=hb6.size
 have HT6:Hid (∃ A c,w6.cell? ⟨gf,4,none⟩=some (.slice A 1 c)/\TH w6 D5 A):=zh (by
  obtain ⟨A,c,h1,h2⟩:=HT5.out
  exact ⟨A,c,(hb56.cell (p:=⟨gf,4,none⟩) HF5.out.lt.1).trans h1,h2.ext hb56⟩)
 have HC6:=zh hSc
 have HH6:=zh hSh
 clear HF hba hb6 BK hb56 HP5 HF5 HR5 HB5 HY0 hSc hSh HT5
 have hRl:(rowH 0 0 (chX N)).length=32:=qbh _
 obtain ⟨tc,htc⟩:∃ x,x=trC ((0:Nat):Int) (.slice Ac 1 cc) (.slice Bc 1 dc) (rowH 0 0 (chX N)) false h0:=⟨_,rfl⟩
 have htl:tc.length=68:=by rw [htc];exact qem _ _ _ _ _ _ hRl qaf
 have hto:∀ u∈tc,u.oneCell'=true:=by rw [htc];exact qjx _ _ _ _ _ _ rfl rfl
 have hts:(Tryz.prog.info? 187).map (·.size)=some tc.length:=by rw [htc];exact qmk _ _ _ _ _ _ hRl qaf
 have HTC:=zh htc
 rw [<-htc]
 clear htc hRl
 obtain ⟨rc,hrc⟩:∃ x,x=recC false 3 sch0 ⟨#[]⟩ tc 0 h0:=⟨_,rfl⟩
 have hrl:rc.length=108:=by rw [hrc];exact qaq _ _ _ _ _ _ _ rfl htl qaf
 have hro:∀ u∈rc,u.oneCell'=true:=by rw [hrc];exact qde _ _ _ _ _ _ _ qej hto
 have hrs:(Tryz.prog.info? 189).map (·.size)=some rc.length:=by rw [hrc];exact qcr _ _ _ _ _ _ _ rfl htl qaf
 have r0:rc.toArray[0]? = some (.bool false):=by rw [hrc];rfl
 have rj:rc.toArray[1]? = some (.int .i64 3):=by rw [hrc];rfl
 have hrt:(rc.drop 7).take tc.length=tc:=by
  rw [hrc]
  show (tc++(Value.int .i64 0::qaa h0)).take tc.length=tc
  rw [List.take_append_of_le_length (zl _),List.take_of_length_le (zl _)]
 rw [<-hrc]
 clear hrc
 obtain ⟨Wq,hWq⟩:∃ W',W'=w6.alloc (.cells (recC false 0 sch0 ⟨#[]⟩ tr0 0 h0).toArray 189):=⟨_,rfl⟩
 have hbq:Below w6.heap.size w6 Wq:=by rw [hWq];exact (zb _ _).alloc (zl _) _
 have BQ0:Blk Wq w6.heap.size 189 (recC false 0 sch0 ⟨#[]⟩ tr0 0 h0).toArray:=by rw [hWq];exact Blk.new _ _ _
 have hthq:=Blk.there (o:=0) (n:=108) BQ0 (by rw [qaq _ _ _ _ _ _ _ rfl qap qaf];omega)
 obtain ⟨BQ,hgq⟩:=Blk.lay rc 0 BQ0 (by rw [hrl,qaq _ _ _ _ _ _ _ rfl qap qaf];omega)
 rw [qai _ _ (by rw [hrl,qaq _ _ _ _ _ _ _ rfl qap qaf])] at BQ
 have hbq5:=(hbq.gw hgq)
 have HWq:=zh hWq
 have hz:=qfh
 clear hWq
 go_upto_region 9 with ((with_reducible refine sS 10 ?_);(rw [<-HWq.out]);(refine wpList_store_mid rfl 189 _ _ rfl w6.heap.size 0 rc.toArray rfl rfl ?h1 ?h2 (all_oneCell_toArray hro) ?_))
 case h1=>exact (show rc.toArray.size=108 by simp [hrl]) ▸ hthq
 case h2=>exact (show rc.toArray.size=rc.length by simp) ▸ hrs
 clear hthq hgq hbq BQ0 hz
 obtain ⟨g10,hg10⟩:∃ g,w6.heap.size=g:=⟨_,rfl⟩
 have HP7:=HP6.ext hbq5
 have HF7:=zh (HF6.out.ext hbq5)
 have HR7:=zh (HR6.out.ext hbq5)
 have HC7:=zh (HC6.out.ext hbq5)
 have HH7:=zh (HH6.out.ext hbq5)
 have HB7:=(HB6.tr hbq5)
 have HT7:Hid (∃ A c,(Wq.setCells w6.heap.size 0 rc).cell? ⟨gf,4,none⟩=some (.slice A 1 c)/\TH (Wq.setCells w6.heap.size 0 rc) D5 A):=zh (by
  obtain ⟨A,c,h1,h2⟩:=HT6.out
  exact ⟨A,c,(hbq5.cell (p:=⟨gf,4,none⟩) HF6.out.lt.1).trans h1,h2.ext hbq5⟩)
 have hs7:w6.heap.size<=(Wq.setCells w6.heap.size 0 rc).heap.size:=hbq5.size
 have hs67:Wa.heap.size<=(Wq.setCells w6.heap.size 0 rc).heap.size:=Nat.le_trans hs6 hs7
 rw [hg10] at BQ HP7 HF7 HR7 HC7 HH7 HB7 HT7 hs67 ⊢
 clear hg10 HP6 HF6 HR6 HC6 HH6 HB6 HT6 hbq5 hs7 hs6
 generalize Wq.setCells g10 0 rc=w7 at *
 clear HWq
 have q0:=(BQ.cell 0).trans r0
 have q1:=(BQ.cell 1).trans rj
 have qp:=HP7.cell 0
 have HF:=zh (show Calls Tryz.prog 59 #[.pointer (some ⟨gf,0,none⟩),.agg tc.toArray] w7 fun e w'=>e=.returned (.tuple #[])/\(∃ D',Fnd w' gf gm D' (dbY N) (((0:Nat):Int)+1) [entH 0 (chX N)] [] [])/\Frm (fun b=>b=gf\/D5 b) w7 w' from by
  rw [HTC.out]
  exact vtx_ HF7.out HT7.out HC7.out HH7.out (fun b hb=>⟨fun h=>by have:=hDk b h;omega,by have:=HF7.out.lt;omega⟩) (fun b hb=>by have:=hDk b hb;omega) HOK.out (by decide) HPT.out)
 go_wp2_with ((with_reducible refine sT 72 ?_);(refine wpList_load_mid rfl 187 _ rfl g10 7 rfl tc _ (Blk.range BQ hrt) Tryz.underlying187 rfl hts ?_))
 refine HF.out.mono ?_
 rintro e w8 ⟨rfl,⟨D8,hF8⟩,hfr8⟩
 clear HF q0 q1 qp r0 rj hrl hro hrs hrt htl hto hts BQ HTC HC7 HH7 HF7 HT7
 have hG8:∀ k,k<w1.heap.size\/k=gp->k≠gf->¬(k=gf\/D5 k):=fun k hk hne h=>by
  rcases h with h|h
  ·exact hne h
  ·have:=hDk k h
   omega
 have HP8:=hfr8.blk HP7 (hG8 gp (.inr rfl) hgpf)
 have HB8:=HB7.trans (hfr8.to_below HB7.size (fun k hk=>hG8 k (.inl (by omega)) (by omega)))
 have HR8:=zh (HR7.out.keep (hfr8.keep (fun k hk _=>by have:=hF1k k hk;exact hG8 k (.inl (by omega)) (by omega))))
 have hs8:w7.heap.size<=w8.heap.size:=hfr8.size
 have HF8:=zh hF8.bound
 clear hF8 hfr8 HR7 HP7 HB7
 go_wp2_with fail
 rw [rounds_succ]
 obtain ⟨H,hH⟩:∃ H,H1 0 (chX N)=H:=⟨_,rfl⟩
 have hHl:H.length=32:=by rw [<-hH];exact qbh _
 have hHe:shaL (blkT 1 h0 (entH 0 (chX N)) 1)=H:=hH
 have HRH:=zh (show w.rangeAt b off (digC 1 H) from hH ▸ HRG.out)
 obtain ⟨A0,k0,q0,hy0⟩:=HR8.out.at_ (show [tabB schX,txB 0 (chX N),blkB 1 (H1 0 (chX N))][2]? = some (blkB 1 (H1 0 (chX N))) from rfl)
 rw [hH] at q0 hy0
 have HY0:=zh hy0
 have HHE:=zh hHe
 clear hy0 hH hHe HRG
 go_upto_region 7 with fail
 clear q0
 obtain ⟨Wa,hW_,hba,BK⟩:=al1 w8 3 #[.int .i64 2]
 rw [<-hW_]
 clear hW_
 obtain ⟨gk,hgk⟩:∃ g,w8.heap.size=g:=⟨_,rfl⟩
 rw [hgk] at BK ⊢
 clear hgk
 have HF:=zh (vread4_ (HY0.out.ext hba) (by decide) hHl)
 go_wp2_with fail
 refine HF.out.mono ?_
 rintro e w9 ⟨rfl,hb9⟩
 have hb89:=(hba.tr hb9)
 have HP9:=HP8.ext hb89
 have HF9:=zh (HF8.out.ext hb89)
 have HB9:=(HB8.tr hb89)
 have hs9:w8.heap.size<=w9.heap.size:=hb89.size
 clear HF hba hb9 BK hb89 HP8 HF8 HR8 HB8 HY0
 obtain ⟨rc,hrc⟩:∃ x,x=recC false 4 sch0 ⟨#[]⟩ tr0 ((1:Nat):Int) H:=⟨_,rfl⟩
 have hrl:rc.length=108:=by rw [hrc];exact qaq _ _ _ _ _ _ _ rfl qap hHl
 have hro:∀ u∈rc,u.oneCell'=true:=by rw [hrc];exact qde _ _ _ _ _ _ _ qej qfk
 have hrs:(Tryz.prog.info? 189).map (·.size)=some rc.length:=by rw [hrc];exact qcr _ _ _ _ _ _ _ rfl qap hHl
 have r0:rc.toArray[0]? = some (.bool false):=by rw [hrc];rfl
 have rj:rc.toArray[1]? = some (.int .i64 4):=by rw [hrc];rfl
 have r75:rc.toArray[75]? = some (.int .i64 1):=by rw [hrc];exact qov _ _ _ _ _ _ _ rfl qap
 have hrt:(rc.drop 76).take (qaa H).length=qaa H:=by
  rw [hrc]
  show (((sch0++(.string ⟨#[]⟩::(tr0++(Value.int .i64 ((1:Nat):Int)::qaa H)))).drop 74)).take (qaa H).length=qaa H
  rw [show (sch0++(.string ⟨#[]⟩::(tr0++(Value.int .i64 ((1:Nat):Int)::qaa H)))).drop 74=(tr0++(Value.int .i64 ((1:Nat):Int)::qaa H)).drop 69 from rfl,List.drop_append,qap,List.drop_of_length_le (by rw [qap];omega)]
  show (qaa H).take (qaa H).length=qaa H
  rw [List.take_of_length_le (zl _)]
 rw [<-hrc]
 clear hrc
 obtain ⟨Wq,hWq⟩:∃ W',W'=w9.alloc (.cells (recC false 0 sch0 ⟨#[]⟩ tr0 0 h0).toArray 189):=⟨_,rfl⟩
 have hbq:Below w9.heap.size w9 Wq:=by rw [hWq];exact (zb _ _).alloc (zl _) _
 have BQ0:Blk Wq w9.heap.size 189 (recC false 0 sch0 ⟨#[]⟩ tr0 0 h0).toArray:=by rw [hWq];exact Blk.new _ _ _
 have hthq:=Blk.there (o:=0) (n:=108) BQ0 (by rw [qaq _ _ _ _ _ _ _ rfl qap qaf];omega)
 obtain ⟨BQ,hgq⟩:=Blk.lay rc 0 BQ0 (by rw [hrl,qaq _ _ _ _ _ _ _ rfl qap qaf];omega)
 rw [qai _ _ (by rw [hrl,qaq _ _ _ _ _ _ _ rfl qap qaf])] at BQ
 have hbq5:=(hbq.gw hgq)
 have HWq:=zh hWq
 have hz:=qfh
 clear hWq
 go_upto_region 9 with ((with_reducible refine sS 10 ?_);(rw [<-HWq.out]);(refine wpList_store_mid rfl 189 _ _ rfl w9.heap.size 0 rc.toArray rfl rfl ?h3 ?h4 (all_oneCell_toArray hro) ?_))
 case h3=>exact (show rc.toArray.size=108 by simp [hrl]) ▸ hthq
 case h4=>exact (show rc.toArray.size=rc.length by simp) ▸ hrs
 clear hthq hgq hbq BQ0 hz
 obtain ⟨g10,hg10⟩:∃ g,w9.heap.size=g:=⟨_,rfl⟩
 have HP10:=HP9.ext hbq5
 have HF10:=zh (HF9.out.ext hbq5)
 have HB10:=(HB9.tr hbq5)
 have hs10:w9.heap.size<=(Wq.setCells w9.heap.size 0 rc).heap.size:=hbq5.size
 rw [hg10] at BQ HP10 HF10 HB10 hs10 ⊢
 have hs10':w9.heap.size<=(Wq.setCells g10 0 rc).heap.size:=by omega
 clear HP9 HF9 HB9 hbq5 hs10 hg10
 generalize Wq.setCells g10 0 rc=w10 at *
 clear HWq
 have hsH:=qbq H hHl
 have q0:=(BQ.cell 0).trans r0
 have q1:=(BQ.cell 1).trans rj
 have q75:=(BQ.cell 75).trans r75
 have qp:=HP10.cell 0
 have HF:=zh (vblock_ HF10.out (qbh _) HHE.out (fun b hb=>by have:=hb.2;omega))
 go_wp2_with ((with_reducible refine sT 38 ?_);(refine wpList_load_mid rfl 76 _ rfl g10 76 rfl (qaa H) _ (Blk.range BQ hrt) Tryz.underlying76 rfl hsH ?_))
 refine HF.out.mono ?_
 rintro e w11 ⟨rfl,hF11,hfr11⟩
 have HP11:=hfr11.blk HP10 (fun h=>h.elim hgpf hgpm)
 have HB11:=HB10.trans (hfr11.to_below HB10.size (fun k hk h=>by rcases h with h|h <;> omega))
 have HF11:=zh hF11
 clear HF q0 q1 q75 qp r0 rj r75 hrl hro hrs hrt BQ hfr11 hF11 HF10 HP10 HB10 hsH
 go_wp2_with fail
 rw [rounds_succ]
 have qp:=HP11.cell 0
 have HF:=zh (vdig1_ (c:=c) HF11.out hHl (show w11.rangeAt b off (digC 1 H) from fun j u hu=>(HB11.cell (p:=⟨b,off+j,none⟩) hbl).trans (HRH.out j u hu)) (Nat.lt_of_lt_of_le hbl HB11.size))
 go_wp2_with fail
 refine HF.out.mono ?_
 rintro e w12 ⟨rfl,hb12⟩
 have qp:=(HP11.ext hb12).cell 0
 have q3:=(HF11.out.ext hb12).found
 have HB12:=zh ((HB11.tr hb12))
 clear HF HP11 HF11 HB11 hb12
 go_wp2_with fail
 refine clone0_.mono ?_
 rintro e w13 ⟨rfl,rfl⟩
 go_wp2
 unfold Exit.noGoto
 go_ret
 exact ⟨rfl,HB12.out⟩
theorem le0:le 8 0=List.replicate 8 0:=by decide +kernel
theorem logd0 (np:Nat) (h2:2<=np):Logd (List.replicate (np * 64) 0) np []:=by
 refine ⟨⟨List.replicate 48 0,?_⟩,⟨_,(List.nil_append _).symm⟩,fun r hr=>by cases hr⟩
 have e:(recs []).length=0:=rfl
 rw [e,List.length_nil,le0,List.take_replicate,List.replicate_append_replicate,List.replicate_append_replicate]
 congr 1
 omega
def dbB:DBd:=([(schX,[])],[(0,[],[])],[],[])
def dbP:DBd:=putD dbB (posG (cmpT ⟨#[120]⟩) dbB.1) (posG (cmpW 0) dbB.2.1) (qaz SX [rX 5]) (0,[]++[(⟨#[120]⟩,1,qbf (rX 5))],[]) (lk.askL (lkOf dbB) ⟨0,⟨#[120]⟩,true⟩)
instance:DecidableEq val.V:=fun a b=>decidable_of_iff (a.k=b.k/\a.n=b.n/\a.s=b.s) (by
 obtain ⟨a1,a2,a3⟩:=a
 obtain ⟨b1,b2,b3⟩:=b
 simp)
theorem putX5:tb.putL SX.cols SX.key [] (rX 5)=(0,[rX 5]):=by decide +kernel
theorem okX0:okDB dbX:=by
 refine ⟨by simp [dbX],fun t ht=>?_,by simp [dbX],fun k hk=>?_,by simp [dbX],by simp [dbX]⟩
 ·simp [dbX] at ht;subst ht;exact ⟨by decide,by decide,fun r hr=>by cases hr⟩
 ·simp [dbX] at hk
theorem okB:okDB dbB:=by
 refine ⟨by simp [dbB],fun t ht=>?_,by simp [dbB],fun k hk=>?_,by simp [dbB],by simp [dbB]⟩
 ·simp [dbB] at ht;subst ht;exact ⟨by decide,by decide,fun r hr=>by cases hr⟩
 ·simp [dbB] at hk;subst hk;exact ⟨by decide,(fun c hc=>by cases hc),by decide⟩
theorem sesB:qex dbB:=fun y hy=>by simp [dbB] at hy;subst hy;decide
theorem posT0:posG (cmpT ⟨#[120]⟩) dbB.1=0:=by decide +kernel
theorem posW0:posG (cmpW 0) dbB.2.1=0:=by decide +kernel
theorem mono1 {α:Type} {f:α->Int} (x:α) (h:¬f x<0):Mono f [x]:=fun i j r r' hij h1 h2 h3=>by
 have hj:j<1:=(List.getElem?_eq_some_iff.1 h2).1
 have e1:i=0:=by omega
 have e2:j=0:=by omega
 subst e1 e2
 rw [h1] at h2
 injection h2 with h2
 rw [h2];exact h3
theorem mono0 {α:Type} {f:α->Int}:Mono f ([]:List α):=fun i j r r' _ h=>by cases h
theorem putOkB:PutOk dbB 0 ⟨#[120]⟩ SX [] [rX 5] (rX 5) [] [] 0 where
 ok:=okB
 ses:=sesB
 s1:=by decide
 mt:=mono1 _ (by decide +kernel)
 mw:=mono1 _ (by decide +kernel)
 isw:=by decide +kernel
 ist:=by decide +kernel
 free:=by decide +kernel
 tab:=by rw [posT0];rfl
 wrk:=by rw [posW0];rfl
 few:=by decide
 put:=putX5
 small:=fun v hv=>by simp [rX] at hv;subst hv;exact Nat.zero_le _
 tok:=okX
 cols:=by decide
 rows_:=by decide
 row_:=by decide
 rows2:=by decide
 rows3:=by decide
 lks:=by decide +kernel
theorem okP:okDB dbP:=by
 refine ⟨by decide +kernel,fun t ht=>?_,by decide +kernel,fun k hk=>?_,by decide +kernel,by decide +kernel⟩
 ·have e:dbP.1=[qaz SX [rX 5]]:=by simp only [dbP,putD,posT0];rfl
  rw [e] at ht
  simp at ht;subst ht
  exact ⟨by decide,by decide,fun r hr=>by simp [qaz] at hr;subst hr;show _<=_;decide⟩
 ·have e:dbP.2.1=[(0,[chX 5],[])]:=by simp only [dbP,putD,posW0];rfl
  rw [e] at hk
  simp at hk;subst hk
  exact ⟨by decide,fun c hc=>by simp at hc;subst hc;show _<=_;decide,by decide⟩
theorem worksP:dbP.2.1=[(0,[chX 5],[])]:=by simp only [dbP,putD,posW0];rfl
theorem okcX:OkC (chX 5):=⟨by decide,by decide,by decide,fun v hv=>by simp [chX] at hv;subst hv;exact ⟨by decide,by decide,by decide,by decide,by decide⟩,by decide⟩
theorem okE:okDB (endD dbP 0):=by
 obtain ⟨h1,h2,h3,h4,h5,h6⟩:=okP
 have e:(endD dbP 0).2.1=[]:=by decide +kernel
 refine ⟨h1,h2,by rw [e];decide,(fun k hk=>by rw [e] at hk;cases hk),by decide +kernel,by decide +kernel⟩
theorem oksX:OkS schX:=⟨by decide,by decide,fun c hc=>by simp [schX,qbj,colX,qdf] at hc;subst hc;decide,by decide,by decide⟩
theorem Sl.one_blk {α:Type} {E:Enc α} {t:TypeId} {x:α} (h:Blk w g t cs.toArray) (hF:F g) (hr:E.rel w F cs x) (hc:1<=c):Sl E w F (some ⟨g,0,none⟩) 1 c [x] :=
 ⟨[cs],.inr (.inr ⟨g,0,rfl,hc,hF,h.lt,fun i u hu=>by rw [Nat.zero_add,h.cell];simpa using hu⟩),Els.one_ hr,rfl⟩
theorem Blk.whole_set {t:TypeId} (h:Blk w g t cs.toArray) (vs:List Value) (hl:vs.length=cs.length):Blk (w.setCells g 0 vs) g t vs.toArray:=by
 have:=(Blk.lay vs 0 h (by omega)).1
 rwa [qai _ _ hl] at this
theorem qkn {P:Program} {ops:Array Oper} {Q:Exit->Act->World->Prop} {o:Oper} {rest:List Oper} {a:Act} (hw:Region.wanted o (yielded ops a.tmps)=true)
  (h:∀ K:Act->World->Prop,(∀ a w,wpList P ops Q rest a w->K a w)->o.wp P a w K Q):wpList P ops Q (o::rest) a w :=
 wpList_step fun K hK=>by simp only [hw,if_true];exact h K hK
theorem posWP:posG (cmpW 0) ([(0,[chX 5],[])]:List Wrk)=0:=by decide +kernel
theorem okTxX:okTx (((0:Nat):Int),[chX 5]):=⟨by decide,fun c hc=>by simp at hc;subst hc;show _<=_;decide⟩
theorem known_ (w:World):Calls Tryz.prog 4 #[] w fun e w'=>e=.returned (.bool true)/\Below w.heap.size w w':=by
 go_enter Tryz.func4,Tryz.ntmps4
 have HF:=zh (show Calls Tryz.prog 12 #[.int .i64 20] w fun e w'=>∃ d gs gn l,e=.returned (.tuple #[.pointer (some ⟨d,0,none⟩),.int .i64 0])/\Dk w' d gs gn 20 l (.slice none 0 0)/\Logd l 20 []/\w.heap.size<=d/\w.heap.size<=gs/\w.heap.size<=gn/\Below w.heap.size w w' from
  (new_ 20 (by decide) (by decide) w).mono (by rintro e w' ⟨d,gs,gn,h1,h2,h3⟩;exact ⟨d,gs,gn,_,h1,h2,logd0 20 (by decide),h3⟩))
 go_wp2_with fail
 refine HF.out.mono ?_
 rintro e w1 ⟨d,gs,gn,l,rfl,hDk,hLg,hd,hgs,hgn,hb1⟩
 have HD1:=zh hDk
 have HL1:=zh hLg
 clear HF hDk hLg
 have HF:=zh (sopen_ HD1.out HL1.out)
 go_wp2_with fail
 refine HF.out.mono ?_
 rintro e w2 ⟨s,lg,rfl,hSt,hs,hlg,hb2⟩
 have hw1:w.heap.size<=w1.heap.size:=hb1.size
 have hOn:∀ k,On s lg d gs gn k->w.heap.size<=k:=fun k hk=>by rcases hk with h|h|h|h|h <;> omega
 have HS2:=zh hSt
 have hb12:=(hb1.tr hb2)
 clear HF HD1 HL1 hSt hb1 hb2 hd hgs hgn hs hlg hw1
 go_wp2_with fail
 obtain ⟨W3,hW_,hb3,BC⟩:=al1 w2 63 #[.string ⟨#[97]⟩,.int .i64 2,.bool false]
 rw [<-hW_]
 clear hW_
 obtain ⟨gc,hgc⟩:∃ g,w2.heap.size=g:=⟨_,rfl⟩
 rw [hgc] at BC ⊢
 clear hgc
 have HS3:=zh (HS2.out.ext hb3)
 have hb13:=(hb12.tr hb3)
 have hcols:Sl eCol W3 (fun _=>True) (some ⟨gc,0,none⟩) 1 1 (colX.map qdf):=Sl.one_blk (E:=eCol) (cs:=[.string ⟨#[97]⟩,.int .i64 2,.bool false]) BC trivial (col_mk W3 _ ⟨⟨#[97]⟩,2,false⟩) (zl _)
 have HF:=zh (show Calls Tryz.prog 14 #[.pointer (some ⟨s,0,none⟩),.agg #[.string ⟨#[120]⟩,.slice (some ⟨gc,0,none⟩) 1 1,.int .i64 0,.bool false]] W3 fun e w'=>e=.returned (.int .i64 0)/\Sto w' s lg d gs gn 20 [tabB schX] dbX led0/\Frm (On s lg d gs gn) W3 w' from
  screate_ (nm:=nmX) (cols:=colX) (key:=0) (only:=false) HS3.out okdb0 hcols goodX mono0 rfl (by decide) rfl oksX (by decide +kernel) (by decide))
 clear HS2 hb12 hb3 BC
 go_wp2_with fail
 refine HF.out.mono ?_
 rintro e w4 ⟨rfl,hSt,hfr⟩
 have HS4:=zh hSt
 have hb4:=hb13.trans (hfr.to_below hb13.size (fun k hk h=>by have:=hOn k h;omega))
 clear HF HS3 hSt hfr hb13 hcols
 have HF:=zh (sdb_ HS4.out okX0)
 go_wp2_with fail
 refine HF.out.mono ?_
 rintro e w5 ⟨cs5,rfl,hr5,hb5⟩
 obtain ⟨A,n,c,A2,n2,c2,A3,n3,c3,A4,n4,c4,rfl,_⟩:=qav hr5
 have HS5:=zh (HS4.out.ext hb5)
 have hb05:=(hb4.tr hb5)
 have HF2:=zh (show Calls Tryz.prog 6 #[.agg #[.slice A n c,.slice A2 n2 c2,.slice A3 n3 c3,.slice A4 n4 c4],.int .i64 0] w5 (DBE dbB 0 w5) from
  begin_ (s:=0) hr5 okX0 (by decide) mono0 rfl (fun y hy=>by cases hy) (by decide))
 clear HF HS4 hb4 hb5 hr5
 go_wp2_with fail
 refine HF2.out.mono ?_
 rintro e w6 ⟨cs6,rfl,hr6,hb6⟩
 obtain ⟨A,n,c,A2,n2,c2,A3,n3,c3,A4,n4,c4,rfl,_⟩:=qav hr6
 have HS6:=zh (HS5.out.ext hb6)
 have hb06:=(hb05.tr hb6)
 have HR6:=zh hr6
 clear HF2 HS5 hb05 hb6 hr6
 go_upto_region 9 with fail
 obtain ⟨W7,hW_,hb7,BD⟩:=al1 w6 31 #[.slice A n c,.slice A2 n2 c2,.slice A3 n3 c3,.slice A4 n4 c4]
 rw [<-hW_]
 clear hW_
 obtain ⟨gb,hgb⟩:∃ g,w6.heap.size=g:=⟨_,rfl⟩
 have hgbw:w6.heap.size<=gb:=by omega
 rw [hgb] at BD ⊢
 clear hgb
 have HR7:=zh (eDB.ext HR6.out hb7)
 clear HR6
 have q:=four BD (zb _ _)
 have hf:=BD.frozen
 go_wp2_with fail
 obtain ⟨W8,hW_,hb8,BV⟩:=al1 W7 70 #[.int .i64 2,.int .i64 5,.string ⟨#[]⟩]
 rw [<-hW_]
 clear hW_
 obtain ⟨gv,hgv⟩:∃ g,W7.heap.size=g:=⟨_,rfl⟩
 rw [hgv] at BV ⊢
 clear hgv
 have hrow:Sl eVal W8 (fun _=>True) (some ⟨gv,0,none⟩) 1 1 (qbf (rX 5)):=Sl.one_blk (E:=eVal) (cs:=[.int .i64 2,.int .i64 5,.string ⟨#[]⟩]) BV trivial (val_mk W8 _ ⟨2,5,⟨#[]⟩⟩) (zl _)
 have HF:=zh (show Calls Tryz.prog 16 #[.agg #[.slice A n c,.slice A2 n2 c2,.slice A3 n3 c3,.slice A4 n4 c4],.int .i64 0,.string ⟨#[120]⟩,.slice (some ⟨gv,0,none⟩) 1 1] W8 (DBE dbP 0 W8) from
  xput_ (eDB.ext HR7.out hb8) putOkB hrow)
 have BD8:=BD.ext hb8
 have hb68:=(hb7.tr hb8)
 clear HR7 hb7 hb8 BV hrow q hf BD
 refine HF.out.mono ?_
 rintro e w9 ⟨cs9,rfl,hr9,hb9⟩
 obtain ⟨A,n,c,A2,n2,c2,A3,n3,c3,A4,n4,c4,rfl,_⟩:=qav hr9
 have hb69:=(hb68.tr hb9)
 have BD9:=BD8.ext hb9
 have hr9':eDB.rel w9 (fun b=>b≠gb) [.slice A n c,.slice A2 n2 c2,.slice A3 n3 c3,.slice A4 n4 c4] dbP:=eDB.mono hr9 (fun b hb=>by have:=BD8.lt;omega)
 have HR9:=zh hr9'
 clear HF hb68 hb9 BD8 hr9 hr9'
 have hf:=BD9.frozen
 have q:=four BD9 (zb _ _)
 go_upto_region 10 with fail
 obtain ⟨w10,hw10⟩:∃ W,W=w9.setCells gb 0 [.slice A n c,.slice A2 n2 c2,.slice A3 n3 c3,.slice A4 n4 c4]:=⟨_,rfl⟩
 have hgr:=qfj gb [.slice A n c,.slice A2 n2 c2,.slice A3 n3 c3,.slice A4 n4 c4] 0 w9
 have B10:=Blk.whole_set BD9 [.slice A n c,.slice A2 n2 c2,.slice A3 n3 c3,.slice A4 n4 c4] rfl
 rw [<-hw10] at hgr B10
 rw [show (((w9.setCell ⟨gb,0,none⟩ (.slice A n c)).setCell ⟨gb,1,none⟩ (.slice A2 n2 c2)).setCell ⟨gb,2,none⟩ (.slice A3 n3 c3)).setCell ⟨gb,3,none⟩ (.slice A4 n4 c4)=w10 from hw10.symm]
 have hb10:=(hb69.gw hgr)
 have HS10:=zh (HS6.out.ext hb10)
 have HR10:=zh (eDB.keep HR9.out (Keep.grown (F:=fun b=>b≠gb) hgr (fun k hk h=>by injection hk with hk;exact h hk.symm)))
 have hb010:=(hb06.tr hb10)
 clear hw10 hgr hb10 HS6 HR9 BD9 hb69 hb06 q hf
 have q:=four B10 (zb _ _)
 have HF:=zh (sset_ HS10.out HR10.out okP)
 go_wp2_with fail
 refine HF.out.mono ?_
 rintro e w11 ⟨rfl,hSt,hfr⟩
 have HS11:=zh hSt
 have hb11:=hb010.trans (hfr.to_below hb010.size (fun k hk h=>by have:=hOn k (.inr (.inr (.inr (.inr h))));omega))
 clear HF HS10 HR10 hSt hfr hb010 q B10
 have HF:=zh (show Calls Tryz.prog 18 #[.pointer (some ⟨s,0,none⟩),.int .i64 0] w11 fun e w'=>e=.returned (.tuple #[.int .i64 0,.int .i64 0])/\Sto w' s lg d gs gn 20 ([tabB schX]++[txB 0 (chX 5)]) (endD dbP 0) (((0+1:Nat):Int),[(((0:Nat):Int),[chX 5])],[],[])/\Frm (On s lg d gs gn) w11 w' from
  scommit_ (id:=0) (ses:=0) (s':=0) (t:=chX 5) (marks:=[]) HS11.out okP (fun y hy=>by rw [worksP] at hy;simp at hy;subst hy;decide) (by decide) (by rw [worksP];exact mono1 _ (by decide +kernel)) (by decide +kernel) (by rw [worksP,posWP];rfl) okE okcX okTxX (by decide) (by decide +kernel) (by decide +kernel) (by decide))
 go_wp2_with fail
 refine HF.out.mono ?_
 rintro e w12 ⟨rfl,hSt,hfr⟩
 have HS12:=zh hSt
 have hb12:=hb11.trans (hfr.to_below hb11.size (fun k hk h=>by have:=hOn k h;omega))
 clear HF HS11 hSt hfr hb11
 have HF:=zh (sdig1_ (id:=0) HS12.out okcX okTxX (by decide) (by decide +kernel) (by decide))
 have hz:=qiq
 go_wp2_with fail
 refine HF.out.mono ?_
 rintro e w13 ⟨rfl,hSt,hfr⟩
 have HS13:=zh hSt
 have hb13:=hb12.trans (hfr.to_below hb12.size (fun k hk h=>by have:=hOn k h;omega))
 clear HF HS12 hSt hfr hb12
 obtain ⟨H,hH⟩:∃ H,H1 0 (chX 5)=H:=⟨_,rfl⟩
 have hHl:H.length=32:=by rw [<-hH];exact qbh _
 have HHH:=zh hH
 rw [hH]
 clear hH
 obtain ⟨dc,hdc⟩:∃ x,x=digC 1 H:=⟨_,rfl⟩
 have hdl:dc.length=33:=by rw [hdc];exact qbg _ _ hHl
 have hdo:∀ u∈dc,u.oneCell'=true:=by rw [hdc];exact qix _ _
 have hds:(Tryz.prog.info? 78).map (·.size)=some dc.length:=by rw [hdc];exact qiw _ _ hHl
 have r0:dc.toArray[0]? = some (.int .i64 1):=by rw [hdc];rfl
 have HDC:=zh hdc
 rw [<-hdc]
 clear hdc
 obtain ⟨Wq,hWq⟩:∃ W',W'=w13.alloc (.cells (digC 0 h0).toArray 78):=⟨_,rfl⟩
 have hbq:Below w13.heap.size w13 Wq:=by rw [hWq];exact (zb _ _).alloc (zl _) _
 have BQ0:Blk Wq w13.heap.size 78 (digC 0 h0).toArray:=by rw [hWq];exact Blk.new _ _ _
 have hthq:=Blk.there (o:=0) (n:=33) BQ0 (by rw [qbg _ _ qaf];omega)
 obtain ⟨BQ,hgq⟩:=Blk.lay dc 0 BQ0 (by rw [hdl,qbg _ _ qaf];omega)
 rw [qai _ _ (by rw [hdl,qbg _ _ qaf])] at BQ
 have hbq5:=(hbq.gw hgq)
 have HWq:=zh hWq
 clear hWq
 go_upto_region 13 with ((with_reducible refine sS 11 ?_);(rw [<-HWq.out]);(refine wpList_store_mid rfl 78 _ _ rfl w13.heap.size 0 dc.toArray rfl rfl ?h1 ?h2 (all_oneCell_toArray hdo) ?_))
 case h1=>exact (show dc.toArray.size=33 by simp [hdl]) ▸ hthq
 case h2=>exact (show dc.toArray.size=dc.length by simp) ▸ hds
 clear hthq hgq hbq BQ0 hz
 obtain ⟨g11,hg11⟩:∃ g,w13.heap.size=g:=⟨_,rfl⟩
 have HS14:=zh (HS13.out.ext hbq5)
 have hb14:=(hb13.tr hbq5)
 rw [hg11] at BQ HS14 hb14 ⊢
 clear hg11 HS13 hb13 hbq5
 generalize Wq.setCells g11 0 dc=w14 at *
 clear HWq
 have q0:=(BQ.cell 0).trans r0
 obtain ⟨i0,hi0,hy0,hy1,hy2⟩:=ip Tryz.prog 78 (.agg (digC 0 h0).toArray) 33 40
 go_wp2_with (first|((with_reducible refine sT 90 ?_);(refine qkn (qcf rfl rfl rfl) fun K hK=>?_);(refine wp_load_mid 78 _ rfl g11 0 rfl dc _ (Blk.whole BQ) Tryz.underlying78 rfl hds ?_);(refine hK _ _ ?_)) |
  ((with_reducible refine sT 91 ?_);(refine qkn (qcf rfl rfl rfl) fun K hK=>?_);(refine qbs 91 83 78 (.tmp 90) rfl rfl dc rfl i0 _ Tryz.underlying83 hi0 hy0 (by rw [hy1,hdl]) (by rw [hdl];omega) (by rw [hdl];omega) ?_);(refine hK _ _ ?_)))
 obtain ⟨Wb,hWb⟩:∃ W,W=w14.alloc (.cells dc.toArray 78):=⟨_,rfl⟩
 have hbb:Below w14.heap.size w14 Wb:=by rw [hWb];exact (zb _ _).alloc (zl _) _
 have BH:Blk Wb w14.heap.size 78 dc.toArray:=by rw [hWb];exact Blk.new _ _ _
 obtain ⟨gh,hgh⟩:∃ g,w14.heap.size=g:=⟨_,rfl⟩
 rw [<-hWb]
 rw [hgh] at BH ⊢
 have hb15:=(hb14.tr hbb)
 obtain ⟨l',hdk,hlg⟩:=(HS14.out.ext hbb).dk
 have HF:=zh (verify3_ (N:=5) (c:=1) hdk hlg (show Wb.rangeAt gh 0 (digC 1 (H1 0 (chX 5))) from by rw [HHH.out,<-HDC.out];exact Blk.whole BH) BH.lt okcX (by decide) putX5)
 clear hWb hgh hb14 hbb hdk hlg BH BQ q0
 refine HF.out.mono ?_
 rintro e w16 ⟨rfl,hb16⟩
 have HB:=zh ((hb15.tr hb16))
 clear HF hb15 hb16
 go_wp2
 go_ret
 exact ⟨rfl,HB.out⟩
end Go.Proofs.YtdjbpcnhnkemiaaGreat.tp
namespace Go.Proofs.YtdjbpcnhnkemiaaGreat.lib
open Go.ChangeShapes Go.WideShapes Go.ChangeAt Go.RowKit
def Ints (w:World) (A:Option Addr) (zs:List Int):Prop:=0<zs.length->∃ b off,A=some ⟨b,off,none⟩/\b<w.heap.size/\∀ (i:Nat) z,zs[i]? = some z->w.cell? ⟨b,off+i,none⟩=some (.int .i64 z)
theorem Ints.ext {w w':World} {A:Option Addr} {zs:List Int} (h:Ints w A zs) (hb:Below w.heap.size w w'):Ints w' A zs:=fun hn=>by
 obtain ⟨b,off,e,hlt,hc⟩:=h hn
 exact ⟨b,off,e,Nat.lt_of_lt_of_le hlt hb.size,fun i z hz=>(hb.cell (by exact hlt)).trans (hc i z hz)⟩
theorem ints_arg {H:Type} {enc:TypeId × Value->H} {P:Program} {W:World} {base:Nat} {t e:TypeId} {v:Value} {d:DataW H} {p:List MemPlace} (ht:P.underlying t=some (.slice e)) (he:P.underlying e=some (.int .i64)) (hc:P.cellsOf e=1)
  (hval:Value.okWide P W .any base t v) (h:DataW.Trod enc P W 0 (fun _=>true) true t v d p) :
  ∃ (A:Option Addr) (n c:Nat) (zs:List Int),v=.slice A n c/\zs.length=n/\n<=maxLen/\(∀ z∈zs,-9223372036854775808<=z/\z<=9223372036854775807)/\Ints W A zs:=by
 obtain ⟨a,len,cap,rfl⟩:=okWide_slice ht hval
 obtain ⟨fuel,hf⟩:=h
 rcases open_ints ht he hc hf with ⟨hcs,_⟩|⟨a',len',cap',zs,hcs,_,hl,hm,hz,_,hcell,hwz⟩
 ·simp [Value.cells] at hcs
  obtain ⟨rfl,rfl,rfl⟩:=hcs
  exact ⟨none,0,0,[],rfl,rfl,Nat.zero_le _,fun z hz=>(by cases hz),fun h=>absurd h (by simp)⟩
 ·simp [Value.cells] at hcs
  obtain ⟨rfl,rfl,rfl⟩:=hcs
  simp only [if_true] at hz
  have hlen:(zs.take len).length=len:=by rw [List.length_take];omega
  refine ⟨some a',len,cap,zs.take len,rfl,hlen,Nat.le_trans hl hm,fun z hzm=>bd64 (hwz z (List.mem_of_mem_take hzm)),fun hn=>?_⟩
  obtain ⟨ab,ao,spot⟩:=a'
  have h0:=hcell 0 (by omega)
  have hspot:spot=none:=by simpa [Addr.add] using World.cell?_spot h0
  subst hspot
  refine ⟨ab,ao,rfl,?_,fun i z hi=>?_⟩
  ·have:=World.block_lt_of_cell? W _ h0
   simpa [Addr.add] using this
  ·have hil:i<len:=by have:=(List.getElem?_eq_some_iff.1 hi).1;omega
   have:=hcell i (by omega)
   rw [Addr.add_lit] at this
   rw [this]
   rw [List.getElem?_take_of_lt hil] at hi
   rw [List.getD_eq_getElem?_getD,hi]
   rfl
section
variable {P:Program} {ops:Array Oper} {Q:Exit->Act->World->Prop} {md:Region.Mode} {S:World->Prop}
theorem qnr {tail:List Nat} {i:Nat} {oi:Oper} {v:Value} (hi:ops[i]? = some oi) (hit:i∉tail) (hsel:∀ (j:Nat) (o:Oper) cs b,ops[j]? = some o->o.op≠.select cs b)
  (hQ:∀ c a w,Q (.panic c) (a.put oi.dst v) w->Q (.panic c) a w) (htl:∀ k∈tail,qfu md ops 12 k i=true) :
  ∀ (fuel:Nat) (listed:Array Bool) (a:Act) (w:World),Closed md ops listed ->
   (∀ j oj,ops[j]? = some oj->j≠i->listed.getD j true=false->(∀ e∈oj.after,Region.binds md e=true->e.on≠i)->oi.apart ops oj=true) ->
   i∈Region.ready md ops listed->YieldsIf P ops S oi v a->S w ->
   qfb P md ops Q S tail fuel (listed.setIfInBounds i true) (a.put oi.dst v) w->qfb P md ops Q S tail (fuel+1) listed a w:=by
 intro fuel
 induction fuel with
 | zero =>
  intro listed a w _ _ hr hy hS H
  refine ⟨fun h=>(by rw [h] at hr;cases hr),fun j hj=>?_⟩
  by_cases hji:j=i
  ·subst hji;exact hy.wpOp hi hS ⟨fun _=>hS,H⟩
  ·have:=ready_mono hj hji
   rw [H.1] at this
   cases this
 | succ fuel ih =>
  intro listed a w hcl hfree hr hy hS H
  refine ⟨fun h=>(by rw [h] at hr;cases hr),fun j hj=>?_⟩
  by_cases hji:j=i
  ·subst hji;exact hy.wpOp hi hS ⟨fun _=>hS,H⟩
  ·have h1:=H.2 j (ready_mono hj hji)
   obtain ⟨hjun,oj,hoj,hall⟩:=mem_ready.1 hj
   have hnot:∀ e∈oj.after,Region.binds md e=true->e.on≠i:=fun e he hb heq=>by
    have h1:=hall e he hb
    have h0:=(mem_ready.1 hr).1
    rw [heq] at h1
    rcases Nat.lt_or_ge i listed.size with h'|h'
    ·simp [h'] at h0 h1;rw [h0] at h1;cases h1
    ·simp [Array.getElem?_eq_none h'] at h1
   have hjt:j∉tail:=fun ht=>by
    have h1:=qgg hcl 12 j oj hoj hall (htl j ht)
    have h0:=(mem_ready.1 hr).1
    rcases Nat.lt_or_ge i listed.size with h'|h'
    ·simp [h'] at h0 h1;rw [h0] at h1;cases h1
    ·simp [Array.getElem?_eq_none h'] at h1
   have h2:=wpOp_putIf hoj (hfree j oj hoj hji hjun hnot) (fun cs b=>hsel i oi cs b hi) (fun cs b=>hsel j oj cs b hoj) hQ hy h1
   have hfree':∀ k ok,ops[k]? = some ok->k≠i->(listed.setIfInBounds j true).getD k true=false ->
     (∀ e∈ok.after,Region.binds md e=true->e.on≠i)->oi.apart ops ok=true:=fun k ok hk hki hun hno=>by
    refine hfree k ok hk hki ?_ hno
    by_cases hjk:j=k
    ·subst hjk;exact hjun
    ·rw [getD_set_ne true hjk] at hun;exact hun
   refine wpOp_mono (fun a' w' h3=>⟨h3.2.1,ih (listed.setIfInBounds j true) a' w' (hcl.set_ hj) hfree' (ready_mono hr (Ne.symm hji)) h3.1 (h3.2.1 hjt) ?_⟩) h2
   rw [Array.setIfInBounds_comm _ _ hji]
   exact h3.2.2
def edgeB2 (md:Region.Mode) (ops:Array Oper) (tail:List Nat) (i:Nat):Bool:=tail.all fun k=>qfu md ops 12 k i
def qfg (md:Region.Mode) (ops:Array Oper) (tail:List Nat) (l2:List (Nat × Bool)):List (Nat × Bool)->Array Bool->Bool
 | [],listed=>(List.range ops.size).all (fun i=>tail.contains i || listed.getD i true) && qcs md ops l2 listed
 | (i,true)::r,listed=>(Region.ready md ops listed).contains i && Region.free md ops listed i && !tail.contains i && edgeB2 md ops tail i && qfg md ops tail l2 r (listed.setIfInBounds i true)
 | (i,false)::r,listed=>(match Region.ready md ops listed with | [j]=>j == i|_=>false) && qfg md ops tail l2 r (listed.setIfInBounds i true)
theorem qer {tail:List Nat} {l2:List (Nat × Bool)} (hs:Region.noSelect ops=true) (hQ:∀ c a d v w,Q (.panic c) (a.put d v) w->Q (.panic c) a w) :
  ∀ (l:List (Nat × Bool)) (fuel:Nat) (listed:Array Bool) (a:Act) (w:World),qfg md ops tail l2 l listed=true->l.length+l2.length<=fuel->S w->qam P ops (TailQ P ops Q l2) S l a w->(∀ i,(i,false)∈l->i∉tail)->Closed md ops listed->qfb P md ops Q S tail fuel listed a w
 | [],fuel,listed,a,w,hp,hf,_,h,_,_=>by
  simp only [qfg,Bool.and_eq_true] at hp
  have h:qam P ops Q (fun _=>True) l2 a w:=by with_unfolding_all exact h
  refine qhd fuel listed a w (fun i hi ht=>?_) (qbx hs hQ l2 fuel listed a w hp.2 (by simpa using hf) trivial h)
  have:=List.all_eq_true.1 hp.1 i (List.mem_range.2 hi)
  simpa [ht] using this
 | (i,true)::r,0,listed,a,w,_,hf,_,_,_,_=>absurd hf (by simp)
 | (i,false)::r,0,listed,a,w,_,hf,_,_,_,_=>absurd hf (by simp)
 | (i,true)::r,fuel+1,listed,a,w,hp,hf,hS,h,hn,hcl=>by
  simp only [qfg,Bool.and_eq_true] at hp
  obtain ⟨⟨⟨⟨h1,h2⟩,h3⟩,h4⟩,h5⟩:=hp
  have h:∃ o v,ops[i]? = some o/\YieldsIf P ops S o v a/\qam P ops (TailQ P ops Q l2) S r (a.put o.dst v) w:=by with_unfolding_all exact h
  obtain ⟨o,v,ho,hy,hr⟩:=h
  refine qnr ho (by simpa using h3) (Region.noSelect_spec hs) (fun c a w=>hQ c a _ _ w) ?_ fuel listed a w hcl (Region.free_spec ho h2) (by simpa using h1) hy hS
   (qer hs hQ r fuel _ _ _ h5 (by simp at hf;omega) hS hr (fun i hi=>hn i (List.mem_cons_of_mem _ hi)) (hcl.set_ (by simpa using h1)))
  intro k hk
  exact List.all_eq_true.1 h4 k hk
 | (i,false)::r,fuel+1,listed,a,w,hp,hf,hS,h,hn,hcl=>by
  simp only [qfg,Bool.and_eq_true] at hp
  obtain ⟨h1,h3⟩:=hp
  have hr:Region.ready md ops listed=[i]:=by
   revert h1
   match Region.ready md ops listed with
   | []=>simp
   | [j]=>simp
   | _::_::_=>simp
  have h:wpOp P ops (TailQ P ops Q l2) i (fun a' w'=>S w'/\qam P ops (TailQ P ops Q l2) S r a' w') a w:=by with_unfolding_all exact h
  have hne:Region.ready md ops listed≠[]:=by rw [hr];simp
  refine ⟨fun h0=>absurd h0 hne,fun j hj=>?_⟩
  rw [hr] at hj
  have hj:j=i:=by simpa using hj
  subst hj
  exact wpOp_mono (fun a' w' h'=>⟨fun _=>h'.1,qer hs hQ r fuel _ a' w' h3 (by simp at hf;omega) h'.1 h'.2 (fun i hi=>hn i (List.mem_cons_of_mem _ hi)) (hcl.set_ (by rw [hr];simp))⟩) (TailQ.mono_op h)
def qot (md:Region.Mode) (ops:Array Oper) (l1 l2:List (Nat × Bool)):Bool :=
 Region.noSelect ops && qfg md ops (l2.map (·.1)) l2 l1 (Array.replicate ops.size false) && decide (l1.length+l2.length<=ops.size) && l1.all (fun x=>x.2 || !(l2.map (·.1)).contains x.1)
theorem qlv {id:Nat} {a:Act} {w:World} (l1 l2:List (Nat × Bool)) (hm:P.follows .mixedOrders=true) (hc:qot .any ops l1 l2=true)
  (hS:S w.drew) (h:qam P ops (TailQ P ops (NoPanic Q) l2) S l1 a w.drew):(Code.region id ops true).wp P Q a w:=by
 simp only [qot,Bool.and_eq_true,decide_eq_true_eq] at hc
 obtain ⟨⟨⟨h1,h2⟩,h3⟩,h4⟩:=hc
 refine wp_region_noPanic (wp_region_any hm (qit (S:=S) (tail:=l2.map (·.1)) _ _ _ _ (qer h1 (fun _ _ _ _ _ h=>h) l1 ops.size _ a _ h2 h3 hS h ?_ ?_)))
 case refine_2 =>
  intro j oj _ hl
  have h0:(Array.replicate ops.size false).getD j false=false:=by
   rw [Array.getD_eq_getD_getElem?,Array.getElem?_replicate]
   split <;> rfl
  rw [h0] at hl
  cases hl
 intro i hi ht
 have:=List.all_eq_true.1 h4 _ hi
 simp only [Bool.false_or,Bool.not_eq_true',List.contains_eq_mem,decide_eq_false_iff_not] at this
 exact this ht
end
end Go.Proofs.YtdjbpcnhnkemiaaGreat.lib
namespace Go.Proofs.YtdjbpcnhnkemiaaGreat.tp
open Go.ChangeShapes Go.WideShapes Go.ChangeAt Go.RowKit Go.Proofs.YtdjbpcnhnkemiaaGreat.lib
variable {w w':World}
variable {n c g B b off i j k m n2 n3 c2 c3 c4 c5 c6 gs gn np lo gr gd id b2 off2:Nat}
variable {A A2 A3 A4 A5 A6:Option Addr}
variable {cs:List Value}
variable {l r:List UInt8}
variable {rs:List (List UInt8)}
variable {s o e:Int}
variable {nm:ByteArray}
variable {F G:qab}
variable {x:DBd}
theorem beginG_ (hk:k<4) (h:eDB.rel w F cs (dbG (TT 3) (S0 k) ⟨[],[]⟩)):
  Calls Tryz.prog 6 #[.agg cs.toArray,.int .i64 k] w (DBE (dbG (TT 3) (S0 (k+1)) ⟨[],[]⟩) 0 w):=by
 have hp:=ps0 k (by omega)
 have hb:=beginS k hk
 have HF:=begin_ (s:=(k:Int)) h (hp.ok (by omega)) ⟨by omega,by omega⟩ (qgd hp.srt _) hb.1 (qhm hp.s4) (by have:=hp.len4;simp [dbG];omega)
 rw [show (dbG (TT 3) (S0 k) ⟨[],[]⟩).2.1=(S0 k).map w0 from rfl,hb.2] at HF
 exact HF
theorem holdT_ {S:List Int} {L:lk.Lk} {t:Nat} {xx:Bool} (h:eDB.rel w F cs (dbG (TT 3) S L)) (hp:PS S L m b) (hb:b<=800) (ht:t<3) (hs:0<=s/\s<4):
  Calls Tryz.prog 7 #[.agg cs.toArray,.int .i64 s,.string (nmB t),.bool xx] w (HoldX S L ⟨s,nmB t,xx⟩ (TT 3) w) :=
 xhold_ h (by rw [qhs];omega) (fun t ht=>(okTT 3 (by omega)).2.1 t ht) (hereT t ht).1 (hereT t ht).2 hp.srt hp.s4 hs hp.inv (by have:=hp.hl;omega)
def ComG (S:List Int) (L:lk.Lk) (s:Int) (w:World) (e:Ending) (w':World):Prop:=∃ (cs:List Value) (A:Option Addr) (c:Nat),e=.returned (.tuple #[.agg cs.toArray,.slice A 0 c,.int .i64 0])/\eDB.rel w' (fun b=>w.heap.size<=b) cs (dbG (TT 3) (S.filter fun z=>z != s) (lk.freeL L s))/\Below w.heap.size w w'
theorem commitG_ {S:List Int} {L:lk.Lk} (h:eDB.rel w F cs (dbG (TT 3) S L)) (hp:PS S L m b) (hb:b<=1000) (hs:s∈S):
  Calls Tryz.prog 11 #[.agg cs.toArray,.int .i64 s] w (ComG S L s w):=by
 have hs4:=hp.s4 s hs
 have hpos:=qfl hp.srt s
 have HF:=commit_ (s:=s) (s':=s) (log:=[]) (marks:=[]) h (hp.ok hb) (qhm hp.s4) ⟨by omega,by omega⟩ (qgd hp.srt s) (hpos.1.trans (decide_eq_true hs)) (hpos.2 hs).1 (by rw [qms hp.srt hs];exact (hp.ends s).ok hb)
 rw [qms hp.srt hs] at HF
 exact HF.mono fun e w' ⟨cs,A,c,h1,h2,_,h3⟩=>⟨cs,A,c,h1,h2,h3⟩
theorem PS.up {S:List Int} {L:lk.Lk} {b':Nat} (h:PS S L m b) (hb:b<=b'):PS S L m b':=⟨h.srt,h.s4,h.inv,h.len,Nat.le_trans h.hl hb⟩
theorem ds_store {wr w2:World} {bd:Nat} {a b c d:Value} {cz:List Value} (hB:Blk wr bd 31 #[a,b,c,d]) (hb:Below wr.heap.size wr w2) (hz:eDB.rel w2 F cz x) (hF:∀ b,F b->b≠bd):
  w2.there bd 0 4/\cz.length=4/\Blk (w2.setCells bd 0 cz) bd 31 cz.toArray/\eDB.rel (w2.setCells bd 0 cz) (fun b=>b≠bd) cz x/\Keep (fun b=>b≠bd) wr (w2.setCells bd 0 cz)/\w2.grownBy (w2.setCells bd 0 cz) (some bd):=by
 have hl:cz.length=4:=eDB.len hz
 have B2:=hB.ext hb
 obtain ⟨BN,hgN⟩:=lay4 B2 cz hl
 have hk:Keep (fun b=>b≠bd) w2 (w2.setCells bd 0 cz):=Keep.grown hgN (fun g hg h=>by injection hg with hg;exact h hg.symm)
 refine ⟨Blk.there (o:=0) (n:=4) B2 (by simp),hl,BN,eDB.mono (eDB.keep hz (hk.mono hF)) hF,(Keep.below hb).trans hk,hgN⟩
theorem sz_db {cz:List Value} (h:cz.length=4):(Tryz.prog.info? 31).map (·.size)=some cz.toArray.size:=by rw [List.size_toArray,h];kernel_rfl
structure DS (w:World) (bd:Nat) (S:List Int) (L:lk.Lk) (cs:List Value) (wr:World):Prop where
 blk:Blk wr bd 31 cs.toArray
 rel:eDB.rel wr (fun b=>b≠bd) cs (dbG (TT 3) S L)
 bw:Below w.heap.size w wr
theorem DS.ext {wr:World} {bd:Nat} {S:List Int} {L:lk.Lk} (h:DS w bd S L cs wr) (hb:Below wr.heap.size wr w'):DS w bd S L cs w':=⟨h.blk.ext hb,eDB.ext h.rel hb,h.bw.tr hb⟩
theorem DS.set {wr w2:World} {bd:Nat} {S S':List Int} {L L':lk.Lk} {cz:List Value} (h:DS w bd S L cs wr) (hb:Below wr.heap.size wr w2) (hw:w.heap.size<=bd) (hz:eDB.rel w2 (fun b=>wr.heap.size<=b) cz (dbG (TT 3) S' L')):
  w2.there bd 0 4/\cz.length=4/\DS w bd S' L' cz (w2.setCells bd 0 cz)/\Keep (fun b=>b≠bd) wr (w2.setCells bd 0 cz):=by
 obtain ⟨a1,n1,c1,a2,n2,c2,a3,n3,c3,a4,n4,c4,rfl,_⟩:=qav h.rel
 have hl:=h.blk.lt
 obtain ⟨h1,h2,h3,h4,h5,h6⟩:=ds_store h.blk hb hz (fun b h=>by omega)
 have hbw:=h.bw.tr hb
 exact ⟨h1,h2,⟨h3,h4,(hbw.gw h6)⟩,h5⟩
theorem progress_ {A':Option Addr} {n' c':Nat} {l:List Ac4} {zs:List Int} (hl:l.length=n) (hm:n<=maxLen) (hA:Acts4 w A l) (hl':zs.length=n') (hm':n'<=maxLen) (hI:Ints w A' zs):
  Calls Tryz.prog 3 #[.slice A n c,.slice A' n' c'] w fun e w'=>e=.returned (.bool true)/\Below w.heap.size w w':=by
 unfold maxLen at hm hm'
 have HL:=zh (za hl hl')
 have HA:=zh hA
 have HI:=zh hI
 clear hl hl' hA hI
 go_enter Tryz.func3,Tryz.ntmps3
 have HK:=zh (known_ w)
 go_wp2_with fail
 refine HK.out.mono ?_
 rintro e w1 ⟨rfl,hb1⟩
 clear HK
 go_wp2_with fail
 refine (start_ (w:=w1)).mono ?_
 rintro e w2 ⟨cz,cx,x',rfl,hz,hx,hb2⟩
 have hbw2:=hb1.tr hb2
 have HZ:=zh hz
 obtain ⟨A1,n1,c1,A2,n2,c2,A3,n3,c3,A4,n4,c4,rfl,_,_,_,_⟩:=qav hz
 obtain ⟨Y1,m1,d1,Y2,m2,d2,Y3,m3,d3,Y4,m4,d4,rfl,_,_,_,_⟩:=qav hx
 clear hz hx hb1 hb2
 go_upto_region 4 with fail
 obtain ⟨W,hW_,hb3,B0,B1⟩:=al2 w2 31 38 #[.slice A1 n1 c1,.slice A2 n2 c2,.slice A3 n3 c3,.slice A4 n4 c4] #[.slice Y1 m1 d1,.slice Y2 m2 d2,.slice Y3 m3 d3,.slice Y4 m4 d4]
 rw [<-hW_]
 clear hW_
 obtain ⟨bd,hbd⟩:∃ g,w2.heap.size=g:=⟨_,rfl⟩
 rw [hbd] at B0 ⊢
 have hwb:w.heap.size<=bd:=by have:=hbw2.size;omega
 have HD:=zh (show ∃ cs,DS w bd (S0 0) ⟨[],[]⟩ cs W from ⟨_,B0,eDB.mono (eDB.ext (bnd_db9 HZ.out) hb3) (fun b h=>by have:=h.2;omega),hbw2.tr hb3⟩)
 clear hbd B0 B1 hb3 HZ hbw2
 go_wp2_with fail
 go_loopw [7] (fun i wr=>∃ k:Nat,i=.int .i64 k/\k<=4/\∃ cs,DS w bd (S0 k) ⟨[],[]⟩ cs wr) (fun i _=>4 - (intOf i).toNat)
 case atStart=>exact ⟨0,rfl,Nat.zero_le _,HD.out⟩
 case round =>
  clear HD
  obtain ⟨k,rfl,hk,cs,hd⟩:=hrel
  have HD:=zh hd
  rcases Nat.lt_or_ge k 4 with hlt|hge
  ·have hdk:decide ((k:Int)<4)=true:=by simp;omega
   have HB:=zh (beginG_ hlt hd.rel)
   obtain ⟨a1,i1,j1,a2,i2,j2,a3,i3,j3,a4,i4,j4,rfl,_⟩:=qav hd.rel
   have qd:=four HD.out.blk (zb _ _)
   clear hd
   go_wp2_with fail
   refine HB.out.mono ?_
   rintro e w3 ⟨cz,rfl,hz,hb⟩
   obtain ⟨h1,h2,h3,_⟩:=HD.out.set hb hwb hz
   have HZ:=zh hz
   have HR:=zh h3
   clear qd hz hb h3 HB
   go_wp2_with ((with_reducible show wpList _ _ _ (Oper.mk none (Op.store _ (Operand.tmp 5) (Operand.tmp 30)) _ _ _ _::_) _ _);(refine wpList_store_mid rfl 31 _ _ rfl bd 0 cz.toArray rfl rfl ?s1 ?s2 (all_oneCell_toArray (eDB.one HZ.out)) ?_))
   case s1=>rw [List.size_toArray,h2];exact h1
   case s2=>exact sz_db h2
   clear h1 h2 HZ HD
   generalize w3.setCells bd 0 cz=w4 at *
   go_wp2
   go_roundw
   case rel=>exact ⟨k+1,by go_num,by omega,cz,HR.out⟩
   case measure=>simp [intOf];omega
  ·have hdk:decide ((k:Int)<4)=false:=by simp;omega
   have hk4:k=4:=by omega
   have HD:=zh (show DS w bd (S0 4) ⟨[],[]⟩ cs wr from hk4 ▸ hd)
   clear hd hk4
   generalize wr=wo at *
   go_upto_region 9 with fail
   obtain ⟨W4,hW_,hbn,BN⟩:=al1 wo 9 #[.string ⟨#[116,97]⟩,.string ⟨#[116,98]⟩,.string ⟨#[116,99]⟩]
   rw [<-hW_]
   clear hW_
   obtain ⟨gn,hgn⟩:∃ g,wo.heap.size=g:=⟨_,rfl⟩
   have hng:gn≠bd:=by have:=HD.out.blk.lt;omega
   have HD4:=zh (HD.out.ext hbn)
   rw [hgn] at BN ⊢
   have HBN:=zh BN
   clear hgn BN hbn HD
   go_upto_block 2 with fail
   go_cut [9] from 33 to 70 (fun sv wx=>∃ (i:Nat) (S:List Int) (L:lk.Lk) (cs:List Value),sv=.int .i64 i/\PS S L 4 40/\DS w bd S L cs wx/\Blk wx gn 9 #[.string ⟨#[116,97]⟩,.string ⟨#[116,98]⟩,.string ⟨#[116,99]⟩])
   case first =>
    go_wp2_with fail
    go_loopw [9] (fun v wr=>∃ (i:Nat) (S:List Int) (L:lk.Lk) (cs:List Value),v=.int .i64 i/\i<=n/\i<=40/\PS S L 4 i/\DS w bd S L cs wr/\Blk wr gn 9 #[.string ⟨#[116,97]⟩,.string ⟨#[116,98]⟩,.string ⟨#[116,99]⟩]) (fun v _=>n - (intOf v).toNat)
    case atStart=>exact ⟨0,S0 4,_,_,rfl,Nat.zero_le _,Nat.zero_le _,ps0 4 (zl _),HD4.out,HBN.out⟩
    case round =>
     clear HD4 HBN
     obtain ⟨i,S,L,cs,rfl,hin,hi4,hp,hd,hbn⟩:=hrel
     have HP:=zh hp
     have HDR:=zh hd
     have HBN:=zh hbn
     clear hp hd hbn
     rcases Nat.lt_or_ge i n with hlt|hge
     ·have d1:decide ((i:Int)<(n:Int))=true:=by simp;omega
      have hin2:(i:Int)<(n:Int):=by omega
      rcases Nat.lt_or_ge i 40 with hlt4|hge4
      ·have d2:decide ((i:Int)<40)=true:=by simp;omega
       obtain ⟨a,ha⟩:∃ a,l[i]? = some a:=⟨_,List.getElem?_eq_getElem (by rw [HL.out.1];exact hlt)⟩
       have HAr:=zh (HA.out.ext HDR.out.bw)
       obtain ⟨ba,oa,rfl,hbal,hac⟩:=HAr.out (by rw [HL.out.1];omega)
       obtain ⟨ha1,ha2,ha3,_⟩:=hac i a ha
       have hw1:=qkx (a:=a.s) (n:=4) (by decide)
       have hw2:=qkx (a:=a.a) (n:=3) (by decide)
       have HW1:=zh (fun (w':World)=>qmq a.s 4 w' (by decide) (by decide))
       have HW2:=zh (fun (w':World)=>qmq a.a 3 w' (by decide) (by decide))
       obtain ⟨t,ht⟩:∃ t:Nat,wi a.a 3=(t:Int):=⟨(wi a.a 3).toNat,by omega⟩
       obtain ⟨s,hs⟩:∃ s,wi a.s 4=s:=⟨_,rfl⟩
       rw [ht] at HW2 hw2
       rw [hs] at HW1 hw1
       have ht3:t<3:=by omega
       have ht3':(t:Int)<3:=by omega
       have HHO:=zh (fun (w':World) (hb:Below wr.heap.size wr w') (xx:Bool)=>holdT_ (xx:=xx) (eDB.ext HDR.out.rel hb) HP.out (by omega) ht3 hw1)
       obtain ⟨a1,i1,j1,a2,i2,j2,a3,i3,j3,a4,i4,j4,rfl,_⟩:=qav HDR.out.rel
       have hnt:∀ w',Below wr.heap.size wr w'->w'.cell? ⟨gn,t,none⟩=some (.string (nmB t)):=fun w' h=>by
        have h3:t=0\/t=1\/t=2:=by omega
        rw [(HBN.out.ext h).cell]
        rcases h3 with rfl|rfl|rfl <;> rfl
       have D:=fun w' (h:Below wr.heap.size wr.drew w')=>za (four (HDR.out.blk.ext ((zb _ _).drew.trans h)) (zb _ _)) (za (hnt w' ((zb _ _).drew.trans h)) (za ((((zb _ _).drew.trans h).cell (p:=⟨ba,oa+i * 4,none⟩) hbal).trans ha1) (za ((((zb _ _).drew.trans h).cell (p:=⟨ba,oa+i * 4+1,none⟩) hbal).trans ha2) ((((zb _ _).drew.trans h).cell (p:=⟨ba,oa+i * 4+2,none⟩) hbal).trans ha3))))
       have HNT:=zh hnt
       clear ha ha1 ha2 ha3 hac ht hs hnt
       go_wp2_with fail
       refine qlv (S:=fun w'=>Below wr.heap.size wr.drew w') [(0,true),(1,true),(2,true),(3,true),(4,true),(5,true),(7,true),(8,true),(9,true),(10,true),(11,true),(12,true),(16,true),(17,true),(18,true),(19,true),(20,true),(21,true),(22,true),(6,false),(13,false),(14,true),(15,true),(23,false),(24,true)] [(25,true),(26,true),(27,false)] (by kernel_rfl) (by kernel_rfl) (zb _ _) ?_
       repeat ((first|refine pT ?_|refine pF ?_);try go_frame)
       clear D
       refine pD fun K hK=>?_;go_simp
       refine (HW1.out _).mono ?_
       rintro e w5 ⟨rfl,rfl⟩
       refine hK.out _ _ (zb _ _) ?_
       clear hK K
       refine pD fun K hK=>?_;go_simp
       refine (HW2.out _).mono ?_
       rintro e w5 ⟨rfl,rfl⟩
       refine hK.out _ _ (zb _ _) ?_
       clear hK K
       have D:=fun w' (h:Below wr.heap.size wr.drew w')=>HNT.out w' ((zb _ _).drew.trans h)
       repeat ((first|refine pT ?_|refine pF ?_);try go_frame)
       clear D
       refine pD fun K hK=>?_;go_simp
       refine (HHO.out _ (zb _ _).drew _).mono ?_
       rintro e w5 ⟨er,S',L',hR,cz,rfl,hz,hb⟩
       refine hK.out _ _ hb ?_
       clear hK K
       repeat ((first|refine pT ?_|refine pF ?_);try go_frame)
       refine qak ?_
       repeat ((first|refine pT ?_|refine pF ?_);try go_frame)
       have hbw:=(zb wr.heap.size wr).drew.trans hb
       obtain ⟨h1,h2,h3,h4⟩:=HDR.out.set hbw hwb hz
       refine qaj rfl (qae rfl) (fun K hK=>?_)
       refine qao 31 (.tmp 5) (.tmp 68) rfl rfl bd 0 cz rfl rfl (by rw [h2];exact h1) (by rw [h2];kernel_rfl) (eDB.one hz) ?_
       refine hK.out _ _ trivial (qad ?_)
       have HX:=zh (za (HP.out.hold hR) (za h3 (Blk.keep HBN.out h4 hng)))
       clear hK K h1 h2 h3 h4 hz hb hbw hR HHO HW1 HW2 HDR HBN HP HNT
       generalize w5.setCells bd 0 cz=w6 at *
       go_wp2
       go_roundw
       case rel=>exact ⟨i+1,S',L',cz,by go_num,by omega,by omega,HX.out.1,HX.out.2.1,HX.out.2.2⟩
       case measure=>simp [intOf];omega
      ·have d2:decide ((i:Int)<40)=false:=by simp;omega
       have HX:=zh (show PS S L 4 40 from HP.out.up hi4)
       go_wp2_with fail
       go_meet
       exact ⟨i,S,L,cs,rfl,HX.out,HDR.out,HBN.out⟩
     ·have d1:decide ((i:Int)<(n:Int))=false:=by simp;omega
      have HX:=zh (show PS S L 4 40 from HP.out.up hi4)
      go_wp2_with fail
      go_meet
      exact ⟨i,S,L,cs,rfl,HX.out,HDR.out,HBN.out⟩
   case rest =>
   obtain ⟨i,S,L,cs,rfl,hp,hd,hbn⟩:=hcut
   generalize wc=w5 at *
   clear wc
   have HP:=zh (show PS S L 4 40 from hp)
   have HD5:=zh hd
   have HB5:=zh hbn
   clear hp hd hbn
   go_wp2_with fail
   go_loopw [10] (fun v wr=>∃ (tn:Nat) (S:List Int) (L:lk.Lk) (cs:List Value),v=.int .i64 tn/\PS S L (4 - tn) (40+10 * tn)/\S.length+tn<=4/\DS w bd S L cs wr/\Blk wr gn 9 #[.string ⟨#[116,97]⟩,.string ⟨#[116,98]⟩,.string ⟨#[116,99]⟩]) (fun v _=>5 - (intOf v).toNat)
   case atStart=>exact ⟨0,S,L,cs,rfl,HP.out,HP.out.len,HD5.out,HB5.out⟩
   case round =>
    clear HP HD5 HB5
    obtain ⟨tn,S,L,cs,rfl,hp,htn,hd,hbn⟩:=hrel
    have HP:=zh hp
    have HDR:=zh hd
    have HBN:=zh hbn
    obtain ⟨a1,i1,j1,a2,i2,j2,a3,i3,j3,a4,i4,j4,rfl,k1,k2,k3,k4⟩:=qav hd.rel
    have e2:i2=S.length:=by rw [<-k2.len];simp [dbG]
    have e3:i3=L.hs.length:=by rw [<-k3.len];simp [dbG]
    have e4:i4=L.ws.length:=by rw [<-k4.len];simp [dbG]
    have E34:=zh (za e3 e4)
    clear hp hd hbn k1 k2 k3 k4 e3 e4
    have HE2:=zh e2
    have d5:decide ((tn:Int)<5)=true:=by simp;omega
    have qd:=four HDR.out.blk (zb _ _)
    rcases Nat.eq_zero_or_pos i2 with h0|h0
    ·have hS:S=[]:=List.length_eq_zero_iff.1 (by omega)
     have hz3:i3=0:=by
      have:=(PInv.done (L:=L) (hS ▸ HP.out.inv)).1
      rw [E34.out.1,this];rfl
     have hz4:i4=0:=by
      have:=(PInv.done (L:=L) (hS ▸ HP.out.inv)).2
      rw [E34.out.2,this];rfl
     have HB:=zh HDR.out.bw
     subst h0 hz3 hz4
     clear e2 hS htn
     go_wp2
     go_ret
     exact ⟨rfl,HB.out⟩
    ·have d0:decide (0<i2)=true:=by simp;omega
     have d0':decide ((0:Int)<(i2:Int))=true:=by simp;omega
     clear e2
     go_wp2_with fail
     generalize wr=wp at *
     have HS0:=zh (show 0<S.length by have:=HE2.out;omega)
     clear qd
     go_loopw [12] (fun v wr=>∃ (j:Nat) (S':List Int) (L':lk.Lk) (cs:List Value),v=.int .i64 j/\j<=4/\PS S' L' S.length (40+10 * tn+j)/\Turn S.length S' L' j/\DS w bd S' L' cs wr/\Blk wr gn 9 #[.string ⟨#[116,97]⟩,.string ⟨#[116,98]⟩,.string ⟨#[116,99]⟩]) (fun v _=>4 - (intOf v).toNat)
     case atStart=>exact ⟨0,S,L,_,rfl,Nat.zero_le _,⟨HP.out.srt,HP.out.s4,HP.out.inv,zl _,HP.out.hl⟩,.inr (TI.start HP.out.inv (fun s hs=>(HP.out.s4 s hs).1)),HDR.out,HBN.out⟩
     case round =>
      clear HDR HBN
      obtain ⟨j,S',L',cs,rfl,hj,hp,htu,hd,hbn⟩:=hrel
      have HPJ:=zh hp
      have HT:=zh htu
      have HDR:=zh hd
      have HBN:=zh hbn
      obtain ⟨a1,u1,v1,a2,u2,v2,a3,u3,v3,a4,u4,v4,rfl,k1,k2,k3,k4⟩:=qav hd.rel
      have hu2:u2=S'.length:=by rw [<-k2.len];simp [dbG]
      have HU:=zh hu2
      have qd:=four HDR.out.blk (zb _ _)
      clear hp htu hd hbn k1 k2 k3 k4 hu2
      rcases Nat.lt_or_ge j 4 with hlt|hge
      ·have d4:decide ((j:Int)<4)=true:=by simp;omega
       have HR:=zh (toRef13_ HDR.out.rel (by rw [qhs];omega) (by have:=HPJ.out.len4;omega) (by have:=HPJ.out.hl;omega) (by have:=HPJ.out.inv.wlen;have:=HPJ.out.len4;omega))
       go_wp2_with fail
       refine HR.out.mono ?_
       rintro e w7 ⟨b1,b2,b3,b4,x1,y1,y2,x3,y3,x4,y4,rfl,hsl,hb7⟩
       have HW:=zh (who_ (s:=(j:Int)) (A:=b1) (n:=x1) (c:=y1) (A3:=b3) (n3:=x3) (c3:=y3) (A4:=b4) (n4:=x4) (c4:=y4) hsl (by have:=HPJ.out.len4;omega))
       clear HR hsl
       go_wp2_with fail
       refine HW.out.mono ?_
       rintro e w8 ⟨r,rfl,hr,hb8⟩
       have hb:=hb7.tr hb8
       have HD8:=zh (HDR.out.ext hb)
       have HB8:=zh (HBN.out.ext hb)
       have HRR:=zh (show r<0↔(j:Int)∉S' from hr.trans ⟨fun h hm=>h _ (List.mem_map_of_mem hm) rfl,fun h y hy e=>by
        obtain ⟨z,hz,rfl⟩:=List.mem_map.1 hy
        exact h (e ▸ hz)⟩)
       clear HW hr hb7 hb8 hb HDR HBN qd
       rcases Int.lt_or_le r 0 with h0|h0
       ·have dr:decide (r<0)=true:=by simpa using h0
        have HX:=zh (HT.out.skip (HRR.out.1 h0))
        clear h0
        go_wp2
        go_roundw
        case rel=>exact ⟨j+1,S',L',_,by go_num,by omega,HPJ.out.up (by omega),HX.out,HD8.out,HB8.out⟩
        case measure=>simp [intOf];omega
       ·have dr:decide (r<0)=false:=by simpa using h0
        have HIN:=zh (show (j:Int)∈S' from Classical.byContradiction fun h=>by have:=HRR.out.2 h;omega)
        clear h0 HRR
        have hnt:∀ t,t<3->w8.cell? ⟨gn,t,none⟩=some (.string (nmB t)):=fun t ht=>by
         have h3:t=0\/t=1\/t=2:=by omega
         rw [HB8.out.cell]
         rcases h3 with rfl|rfl|rfl <;> rfl
        have hm0:j % 3<3:=Nat.mod_lt _ (by omega)
        have hmi:((j % 3:Nat):Int)<3:=by omega
        have hr1:((j:Int).tmod 3)=((j % 3:Nat):Int):=by rw [Int.tmod_eq_emod_of_nonneg (by omega)];omega
        have hr3:((j:Int) % 3)=((j % 3:Nat):Int):=by omega
        have hr2:IntKind.i64.wrap ((j:Int).tmod 3)=((j % 3:Nat):Int):=by rw [hr1,IntKind.wrap_i64];omega
        have hn0:=hnt _ hm0
        obtain ⟨t0,ht0⟩:∃ t,j % 3=t:=⟨_,rfl⟩
        rw [ht0] at hm0 hmi hr1 hr2 hr3 hn0
        have HNT:=zh hnt
        clear hnt ht0
        go_upto_if 100 with fail
        clear hr1 hr2 hr3 hn0
        go_cut [13] from 92 to 109 (fun sv wx=>∃ t,t<3/\sv=.string (nmB t)/\w8=wx)
        case first =>
         rcases Nat.lt_or_ge j n' with hjn|hjn
         ·have dj:decide ((j:Int)<(n':Int))=true:=by simp;omega
          have hjn2:(j:Int)<(n':Int):=by omega
          obtain ⟨z,hz⟩:∃ z,zs[j]? = some z:=⟨_,List.getElem?_eq_getElem (by rw [HL.out.2];exact hjn)⟩
          obtain ⟨bb,oo,rfl,_,hic⟩:=(HI.out.ext HD8.out.bw) (by rw [HL.out.2];omega)
          have hzc:=hic j z hz
          have hw3:=qkx (a:=z) (n:=3) (by decide)
          have HWI:=zh (fun (w':World)=>qmq z 3 w' (by decide) (by decide))
          obtain ⟨t1,ht1⟩:∃ t:Nat,wi z 3=(t:Int):=⟨(wi z 3).toNat,by omega⟩
          rw [ht1] at HWI hw3
          have ht3:t1<3:=by omega
          have ht3':(t1:Int)<3:=by omega
          have hn1:=HNT.out t1 ht3
          clear hz hic ht1
          go_wp2_with fail
          refine (HWI.out _).mono ?_
          rintro e w9 ⟨rfl,rfl⟩
          go_wp2_with fail
          go_meet
          exact ⟨t1,ht3,rfl,rfl⟩
         ·have dj:decide ((j:Int)<(n':Int))=false:=by simp;omega
          go_wp2_with fail
          go_meet
          exact ⟨t0,hm0,rfl,rfl⟩
        case rest =>
        obtain ⟨t,ht,rfl,rfl⟩:=hcut
        clear hm0 hmi HNT
        have HH:=zh (holdT_ (xx:=true) HD8.out.rel HPJ.out (by omega) ht (HPJ.out.s4 _ HIN.out))
        have qd:=four HD8.out.blk (zb _ _)
        go_wp2_with fail
        refine HH.out.mono ?_
        rintro e w9 ⟨er,S2,L2,hR,cz,rfl,hz,hb⟩
        have HR:=zh hR
        have hb9:=hb
        obtain ⟨a1,u1,v1,a2,u2,v2,a3,u3,v3,a4,u4,v4,rfl,_,_,_,_⟩:=qav hz
        clear qd HH hR
        go_upto_region 25 with fail
        obtain ⟨wq,hW_,hbq,BQ⟩:=al1 w9 31 #[.slice a1 u1 v1,.slice a2 u2 v2,.slice a3 u3 v3,.slice a4 u4 v4]
        rw [<-hW_]
        clear hW_
        have hbb:=hb9.tr hbq
        have hzq:=eDB.ext hz hbq
        obtain ⟨h1,h2,h3,h4⟩:=HD8.out.set hbb hwb hzq
        have HZ:=zh hzq
        have HDN:=zh h3
        have HBN9:=zh (Blk.keep HB8.out h4 hng)
        have q:=four BQ (zb _ _)
        obtain ⟨gq,hgq⟩:∃ g,w9.heap.size=g:=⟨_,rfl⟩
        rw [hgq] at q BQ ⊢
        clear hb hb9 hz hbq hbb hzq h3 h4 HD8 HB8 BQ hgq
        go_upto_region 26 with ((with_reducible show wpList _ _ _ (Oper.mk none (Op.store _ (Operand.tmp 5) (Operand.tmp 116)) _ _ _ _::_) _ _);(refine wpList_store_mid rfl 31 _ _ rfl bd 0 #[.slice a1 u1 v1,.slice a2 u2 v2,.slice a3 u3 v3,.slice a4 u4 v4] rfl rfl ?t1 ?t2 (all_oneCell_toArray (eDB.one HZ.out)) ?_))
        case t1=>exact h1
        case t2=>kernel_rfl
        clear h1 h2 HZ q
        generalize wq.setCells bd 0 [.slice a1 u1 v1,.slice a2 u2 v2,.slice a3 u3 v3,.slice a4 u4 v4]=w10 at *
        have HPN:=zh (HPJ.out.hold HR.out)
        by_cases he:er=0
        ·have hee:(er == 0)=true:=by simpa using he
         subst he
         have HJ:=zh (HR.out.ok rfl)
         have HC:=zh (commitG_ HDN.out.rel HPN.out (by omega) HJ.out)
         have qd:=four HDN.out.blk (zb _ _)
         clear hee
         go_wp2_with fail
         refine HC.out.mono ?_
         rintro e w11 ⟨cy,_,_,rfl,hz,hb⟩
         obtain ⟨h1,h2,h3,h4⟩:=HDN.out.set hb hwb hz
         have HZ:=zh hz
         have HX:=zh (za (HPN.out.ends (j:Int)) (za (turn_ok (j:=((j+1:Nat):Int)) HPJ.out.len HR.out) (za h3 (Blk.keep HBN9.out h4 hng))))
         clear qd hz hb h3 h4 HC
         go_wp2_with ((with_reducible show wpList _ _ _ (Oper.mk none (Op.store _ (Operand.tmp 5) (Operand.tmp 123)) _ _ _ _::_) _ _);(refine wpList_store_mid rfl 31 _ _ rfl bd 0 cy.toArray rfl rfl ?v1 ?v2 (all_oneCell_toArray (eDB.one HZ.out)) ?_))
         case v1=>rw [List.size_toArray,h2];exact h1
         case v2=>exact sz_db h2
         clear h1 h2 HZ HDN HBN9 HR HPN
         generalize w11.setCells bd 0 cy=w12 at *
         go_wp2
         go_roundw
         case rel=>exact ⟨j+1,_,_,cy,by go_num,by omega,HX.out.1.up (by omega),HX.out.2.1,HX.out.2.2.1,HX.out.2.2.2⟩
         case measure=>simp [intOf];omega
        ·have hee:(er == 0)=false:=by simpa using he
         have HX:=zh (turn_no HPJ.out.len HIN.out HT.out HR.out he)
         clear he
         go_wp2
         go_roundw
         case rel=>exact ⟨j+1,S2,L2,_,by go_num,by omega,HPN.out.up (by omega),HX.out,HDN.out,HBN9.out⟩
         case measure=>simp [intOf];omega
      ·have d4:decide ((j:Int)<4)=false:=by simp;omega
       have hj4:(j:Int)=4:=by omega
       have hlt:=turn_end (hj4 ▸ HT.out) HPJ.out HS0.out
       have dn:decide ((i2:Int)<=(u2:Int))=false:=by have:=HU.out;have:=HE2.out;simp;omega
       have dn2:decide (i2<=u2)=false:=by have:=HU.out;have:=HE2.out;simp;omega
       have HX:=zh (show PS S' L' (4 - (tn+1)) (40+10 * (tn+1))/\S'.length+(tn+1)<=4 from ⟨⟨HPJ.out.srt,HPJ.out.s4,HPJ.out.inv,by omega,Nat.le_trans HPJ.out.hl (by omega)⟩,by omega⟩)
       clear hj4 hlt
       go_wp2
       exact ⟨⟨tn+1,S',L',_,by go_num,HX.out.1,HX.out.2,HDR.out,HBN.out⟩,by simp [intOf];omega⟩
end Go.Proofs.YtdjbpcnhnkemiaaGreat.tp
