/- Laws of its own that the claim's proof needs; no condition beyond those that each states. -/
import Derived.Test.YtdjbpcnhnkemiaaGreatZ3
import Derived.Test.YtdjbpcnhnkemiaaGreatZ2
import Derived.Test.YtdjbpcnhnkemiaaGreatZ1
import Derived.Lib.Overlaps
import Derived.OwnWalk
import Derived.Tactics
import Derived.Tactics2
import Derived.Defers
import Derived.Laws.Pointers
import Derived.Laws.LoneSync
import Derived.RegionTactic
import Derived.RegionCalls
import Derived.ChangeAlike
import Derived.Lib.Bytealg
import Derived.Laws.RangeAny
import Derived.Laws.RangeString
import Derived.LoopTactic
import Derived.Laws.AppendOwn
import Derived.Deep.AppendLies
import Derived.Maps.AppendAt
import Derived.Laws.BytesString
import Derived.Laws.Cells
import Derived.Lib.SliceRun
import Derived.WalkSpells
import Derived.MapKept
import Derived.Maps.OwnOps
import Derived.Deep.CutRange
import Derived.Deep.CutBlock
set_option linter.unusedVariables false
set_option maxRecDepth 1000000
set_option maxHeartbeats 16000000
namespace Go.Proofs.YtdjbpcnhnkemiaaGreat.tp
open Go.ChangeShapes Go.WideShapes Go.ChangeAt Go.RowKit Go.Proofs.YtdjbpcnhnkemiaaGreat.lib
variable {w w':World}
variable {n c g B b off i j k m n2 n3 c2 c3 c4 c5 c6 gs gn np lo gr gd id b2 off2:Nat}
variable {A A2 A3 A4 A5 A6:Option Addr}
variable {cs:List Value}
variable {l r:List UInt8}
variable {rs:List (List UInt8)}
variable {s o e:Int}
variable {nm:ByteArray}
variable {F G:qab}
variable {x:DBd}
theorem townWork_ {x:Wrk} (h:eWrk.rel w F cs x) (hok:qik x):Calls Tryz.prog 75 #[.agg cs.toArray] w (qfn eWrkT x w):=by
 obtain ⟨A,n,c,A2,n2,c2,rfl,h1,h2⟩:=qdc h
 have HS1:=zh h1
 have HS2:=zh h2
 have hn1:n2<=1000:=by have:=h2.len;have:=hok.2.2;omega
 have HOK:=zh hok
 clear h h1 h2 hok
 go_enter Tryz.func75,Tryz.ntmps75
 go_upto_region 1 with fail
 obtain ⟨W,hW_,hb1,B1,B2⟩:=al2 w 96 96 #[.int .i64 x.1,.slice A n c,.slice A2 n2 c2] #[.int .i64 0,.slice none 0 0,.slice none 0 0]
 rw [<-hW_]
 clear hW_
 obtain ⟨g2,hg2⟩:∃ g,w.heap.size+1=g:=⟨_,rfl⟩
 have hg2n:w.heap.size<g2:=by omega
 rw [hg2] at B2 ⊢
 clear hg2
 have D:∀ w',Below W.heap.size W.drew w'->w'.cell? ⟨w.heap.size,1,none⟩=some (.slice A n c)/\w'.cell? ⟨w.heap.size,2,none⟩=some (.slice A2 n2 c2):=fun w' h=>⟨(B1.ext (zt (zb _ _).drew h)).cell 1,(B1.ext (zt (zb _ _).drew h)).cell 2⟩
 refine r3 (S:=fun w'=>Below W.heap.size W.drew w') [(0,true),(1,true),(3,true),(4,true),(2,false),(6,true),(5,false)] [(7,false),(8,true),(9,false)] (zb _ _) ?_
 repeat ((first|refine pT ?_|refine pF ?_);try go_frame)
 have HF:=zh (qnb (HS1.out.ext hb1.drew) HOK.out.1 HOK.out.2.1)
 refine pD fun K hK=>?_;go_simp
 refine HF.out.mono ?_
 rintro e w3 ⟨A4,rfl,hown4,hb3⟩
 refine hK.out _ _ hb3 ?_
 clear hK K HF
 repeat ((first|refine pT ?_|refine pF ?_);try go_frame)
 have HF:=zh (copyM (HS2.out.ext (hb1.drew.trans (zm hb3 hb1.size))) (by omega))
 refine pD fun K hK=>?_;go_simp
 refine HF.out.mono ?_
 rintro e w4 ⟨A5,c5,rfl,hown5,hb4⟩
 refine hK.out _ _ ((hb3.tr hb4)) ?_
 clear hK K HF D
 have HC:=zh ((hown4.sl (G:=fun b=>W.heap.size<=b) (fun b h _=>h) (fun b h=>h.1)).ext hb4)
 have HD:=zh (hown5.sl (G:=fun b=>W.heap.size<=b) (fun b h _=>Nat.le_trans hb3.size h) (fun b h=>Nat.le_trans hb3.size h.1))
 have hbb:=(zb _ _).drew.trans (zm ((hb3.tr hb4)) (zl W.heap.size))
 have B14:=B1.ext hbb
 have B24:=B2.ext hbb
 have hbw4:=(hb1.tr hbb)
 have hw1:g2<W.heap.size:=B2.lt
 have hWs:=hbb.size
 clear hown4 hown5 B1 B2 hb4 hb3 hb1 hbb HS1 HS2
 refine qak ?_
 have q:=B14.cell 1
 have f:=B14.frozen 1
 refine pD fun K hK=>?_;go_simp
 refine hK.out _ _ trivial ?_
 clear hK K
 have hk5:=Keep.set (F:=fun b=>W.heap.size<=b) w4 ⟨w.heap.size,1,none⟩ (.slice A4 (List.length x.2.1) (List.length x.2.1)) (show ¬W.heap.size<=w.heap.size by omega)
 have HC5:=zh (HC.out.keep hk5)
 have HD5:=zh (HD.out.keep hk5)
 have B15:=B14.set_ 1 (.slice A4 (List.length x.2.1) (List.length x.2.1))
 have B25:=Blk.keep (F:=fun b=>b≠w.heap.size) B24 (Keep.grown (qac w4 w.heap.size 1 (.slice A4 (List.length x.2.1) (List.length x.2.1))) (fun g hg h=>by injection hg with hg;omega)) (by omega)
 have hbw5:=hbw4.grown (qac w4 w.heap.size 1 (.slice A4 (List.length x.2.1) (List.length x.2.1))) (Nat.le_of_lt B14.lt) (fun k hk=>by injection hk with hk;omega)
 have hWs5:W.heap.size<=(w4.setCell ⟨w.heap.size,1,none⟩ (.slice A4 (List.length x.2.1) (List.length x.2.1))).heap.size:=Nat.le_trans hWs (qac w4 w.heap.size 1 (.slice A4 (List.length x.2.1) (List.length x.2.1))).size
 obtain ⟨W5,hW5⟩:∃ W,W=w4.setCell ⟨w.heap.size,1,none⟩ (.slice A4 (List.length x.2.1) (List.length x.2.1)):=⟨_,rfl⟩
 rw [<-hW5] at HC5 HD5 B15 B25 hbw5 hWs5 ⊢
 clear hW5 hk5 B14 B24 HC HD hbw4 q f hWs
 have B14:=B15
 have B24:=B25
 have hWs:=hWs5
 have HC:=HC5
 have HD:=HD5
 have hbw4:=hbw5
 clear B15 B25 hbw5 hWs5 HC5 HD5
 repeat ((first|refine pT ?_|refine pF ?_);try go_frame)
 clear w4
 have q:=B14.cell 2
 have f:=B14.frozen 2
 refine pD fun K hK=>?_;go_simp
 refine hK.out _ _ trivial (qad ?_)
 clear hK K
 have hk5:=Keep.set (F:=fun b=>W.heap.size<=b) W5 ⟨w.heap.size,2,none⟩ (.slice A5 (List.length x.2.2) c5) (show ¬W.heap.size<=w.heap.size by omega)
 have HC5:=zh (HC.out.keep hk5)
 have HD5:=zh (HD.out.keep hk5)
 have B15:=B14.set_ 2 (.slice A5 (List.length x.2.2) c5)
 have B25:=Blk.keep (F:=fun b=>b≠w.heap.size) B24 (Keep.grown (qac W5 w.heap.size 2 (.slice A5 (List.length x.2.2) c5)) (fun g hg h=>by injection hg with hg;omega)) (by omega)
 have hbw5:=hbw4.grown (qac W5 w.heap.size 2 (.slice A5 (List.length x.2.2) c5)) (Nat.le_of_lt B14.lt) (fun k hk=>by injection hk with hk;omega)
 have hWs5:W.heap.size<=(W5.setCell ⟨w.heap.size,2,none⟩ (.slice A5 (List.length x.2.2) c5)).heap.size:=Nat.le_trans hWs (qac W5 w.heap.size 2 (.slice A5 (List.length x.2.2) c5)).size
 obtain ⟨W6,hW6⟩:∃ W,W=W5.setCell ⟨w.heap.size,2,none⟩ (.slice A5 (List.length x.2.2) c5):=⟨_,rfl⟩
 rw [<-hW6] at HC5 HD5 B15 B25 hbw5 hWs5 ⊢
 clear hW6 hk5 B14 B24 HC HD hbw4 q f hWs
 have B14:=B15
 have B24:=B25
 have hWs:=hWs5
 have HC:=HC5
 have HD:=HD5
 have hbw4:=hbw5
 clear B15 B25 hbw5 hWs5 HC5 HD5
 have HR:=zh (qln (x:=x) HC.out HD.out)
 clear HC HD
 obtain ⟨cz,hcz⟩:∃ z,z=([.int .i64 x.1,.slice A4 x.2.1.length x.2.1.length,.slice A5 x.2.2.length c5]:List Value):=⟨_,rfl⟩
 have hczl:cz.length=3:=by rw [hcz];rfl
 have hone:∀ u∈cz,u.oneCell'=true:=HR.out |> fun h=>by rw [hcz];exact eWrkT.one h
 have hsz:(Tryz.prog.info? 96).map (·.size)=some cz.length:=by rw [hczl];kernel_rfl
 have hth:=Blk.there (o:=0) (n:=3) B24 (by simp)
 have hrg:W6.rangeAt w.heap.size 0 cz:=by rw [hcz];exact Blk.whole B14
 go_wp2_with (first|((with_reducible refine sT 11 ?_);(refine wpList_load_mid rfl 96 _ rfl w.heap.size 0 rfl cz _ hrg Tryz.underlying96 rfl hsz ?_)) |
  ((with_reducible show wpList _ _ _ (Oper.mk none _ _ _ _ _::_) _ _);(refine wpList_store_mid rfl 96 _ _ rfl g2 0 cz.toArray rfl rfl ?s1 ?s2 (all_oneCell_toArray hone) ?_)))
 case s1=>exact (show cz.toArray.size=3 by simp [hczl]) ▸ hth
 case s2=>exact (show cz.toArray.size=cz.length by simp) ▸ hsz
 obtain ⟨B8,hg8⟩:=Blk.lay cz 0 B24 (by rw [hczl];simp)
 rw [qai _ _ (by rw [hczl];rfl)] at B8
 have hbw8:=hbw4.grown hg8 (Nat.le_of_lt (Nat.lt_of_lt_of_le hg2n (Nat.le_of_lt B24.lt))) (fun k hk=>by injection hk with hk;omega)
 have HR8:=zh (eWrkT.keep HR.out (Keep.grown hg8 (fun g hg h=>by injection hg with hg;omega)))
 generalize W6.setCells g2 0 cz=w8 at *
 clear hth B14 B24 hg8 hrg HR hbw4
 go_wp2
 refine bodyPost_ret (v:=.agg cz.toArray) (results_cell_row rfl _ _ g2 _ _ (0,0) _ rfl B8 Tryz.underlying96 rfl (by rw [List.size_toArray];exact hsz)) rfl ⟨cz,rfl,by rw [hcz];exact eWrkT.mono HR8.out (fun b h=>by omega),hbw8⟩
theorem teachWrkT {x:List Wrk} (h:Sl eWrk w F A n c x) (hn:x.length<=1000) (hok:∀ y∈x,qik y):Calls Tryz.prog 74 #[.slice A n c,.func (.func 75) #[] #[]] w (CopiedT eWrkT 96 x w):=by
 obtain ⟨i0,hi,hz0,hz1,hz2⟩:=ip Tryz.prog 96 (.agg #[.int .i64 0,.slice none 0 0,.slice none 0 0]) 3 56
 have HS:=zh h
 have HL:=zh h.len
 have hn:n<=1000:=by have:=h.len;omega
 clear h
 have HK:=zh hok
 clear hok
 go_enter Tryz.func74,Tryz.ntmps74
 go_wp2_with (at_make;refine wpList_make_full _ rfl _ _ 26 rfl w.heap.size 96 i0 (.agg #[.int .i64 0,.slice none 0 0,.slice none 0 0]) 3 Tryz.underlying26 hi hz0 hz1 _ _ _ _ n rfl rfl rfl rfl ?b2 ?b3 (zl _) ?_)
 case b2=>rw [hz2];omega
 case b3=>unfold maxLen;omega
 intro w1 hown hgrow
 obtain ⟨Z,BO,hZl⟩:=qct hown
 have hb1:=(zb w.heap.size w).grown hgrow (zl _) (fun k hk=>by cases hk)
 obtain ⟨go,hgo⟩:∃ g,w.heap.size=g:=⟨_,rfl⟩
 have BO0:Blk w1 w.heap.size 96 ((([]:List (List Value)).flatten++Z.drop (0 * 3)).toArray):=by simpa using BO
 have HB0:=zh (za BO0 hb1)
 clear hown hgrow BO BO0 hb1
 rw [hgo] at HB0
 have hgw:go=w.heap.size:=hgo.symm
 rw [hgo]
 clear hgo
 have HGW:=zh hgw
 clear hgw
 go_wp2_with fail
 go_loopw [13] (fun i wr=>∃ (k:Nat) (css:List (List Value)),i=.int .i64 k/\k<=n/\Hid (Els eWrkT wr (fun b=>go<b) css (x.take k))/\Hid (Blk wr go 96 (css.flatten++Z.drop (k * 3)).toArray/\Below go w wr)) (fun i _=>n - (intOf i).toNat)
 case atStart=>exact ⟨0,[],rfl,Nat.zero_le _,zh (by simpa using Els.nil _ _),HB0⟩
 case round =>
  clear HB0
  obtain ⟨k,css,rfl,hk,HE,HB⟩:=hrel
  rcases Nat.lt_or_ge k n with hlt|hge
  ·have hd:decide ((k:Int)<(n:Int))=true:=by simp;omega
   have hkn:(k:Int)<(n:Int):=by omega
   obtain ⟨y,hy⟩:∃ y,x[k]? = some y:=⟨_,List.getElem?_eq_getElem (by have:=HL.out;omega)⟩
   have HY:=zh hy
   obtain ⟨b0,off,rfl,hnc,hFb,hbl⟩:=HS.out.some_ (by omega)
   have hbw:=HB.out.2
   have hsz:=HB.out.1.lt
   have hS:=HS.out.ext (show Below w.heap.size w wr by rw [<-HGW.out];exact hbw)
   obtain ⟨cs,hcs,hcell⟩:=hS.at_ hy
   have hcl1:cs.length=3:=eWrk.len hcs
   have hone:=eWrk.one hcs
   have hcz:(Tryz.prog.info? 96).map (·.size)=some cs.length:=by rw [hcl1];kernel_rfl
   have C7:=Blk.new wr 96 (([.int .i64 0,.slice none 0 0,.slice none 0 0]:List Value)).toArray
   have hth7:=Blk.there (o:=0) (n:=3) C7 (by simp)
   obtain ⟨B7,hg7⟩:=Blk.lay cs 0 C7 (by rw [hcl1];simp)
   rw [qai _ _ (by rw [hcl1];rfl)] at B7
   have hb7:Below wr.heap.size wr ((wr.alloc (.cells #[.int .i64 0,.slice none 0 0,.slice none 0 0] 96)).setCells wr.heap.size 0 cs):=((zb _ _).alloc (zl _) _).grown hg7 (by simp) (fun k hk=>by injection hk with hk;omega)
   clear hg7 C7
   have hrg:wr.rangeAt b0 (off+k * 3) cs:=fun j u hu=>hcell j u hu
   have HR:=zh hrg
   clear hrg hcell hS hy
   go_upto_region 5 with (first|((with_reducible refine sT 17 ?_);(refine wpList_load_mid rfl 96 _ rfl b0 (off+k * 3) rfl cs _ HR.out Tryz.underlying96 rfl hcz ?_)) |
    ((with_reducible refine sS 7 ?_);(refine wpList_store_mid rfl 96 _ _ rfl wr.heap.size 0 cs.toArray rfl rfl ?s5 ?s6 (all_oneCell_toArray hone) ?_)))
   case s5=>exact (show cs.toArray.size=3 by simp [hcl1]) ▸ hth7
   case s6=>rw [List.size_toArray];exact hcz
   have HC:=zh (eWrk.ext hcs hb7)
   clear hcs
   generalize (wr.alloc (.cells #[.int .i64 0,.slice none 0 0,.slice none 0 0] 96)).setCells wr.heap.size 0 cs=W7 at *
   have HF:=zh (townWork_ HC.out (HK.out y (List.mem_of_getElem? HY.out)))
   go_wp2_with ((with_reducible refine sT 21 ?_);(refine wpList_load_mid rfl 96 _ rfl wr.heap.size 0 rfl cs _ (Blk.whole B7) Tryz.underlying96 rfl hcz ?_))
   refine HF.out.mono ?_
   rintro e w4 ⟨cs4,rfl,hr4,hb4⟩
   clear HF HC B7
   have hcl4:cs4.length=3:=eWrkT.len hr4
   have hone4:=eWrkT.one hr4
   have hcz4:(Tryz.prog.info? 96).map (·.size)=some cs4.length:=by rw [hcl4];kernel_rfl
   have hr4:=eWrkT.mono hr4 (G:=fun b=>go<b) (fun b h=>by have:=hb7.size;omega)
   have hE4:=Els.snoc ((HE.out.ext hb7).ext hb4) HY.out hr4
   have hfl:css.flatten.length=k * 3:=by have h9:=HE.out.flen;rw [List.length_take,Nat.min_eq_left (by have:=HL.out;omega)] at h9;exact h9
   have B4:=(HB.out.1.ext hb7).ext hb4
   have hbw4:=(hbw.trans (zm hb7 (Nat.le_of_lt hsz))).trans (zm hb4 (Nat.le_trans (Nat.le_of_lt hsz) hb7.size))
   have hkk:(k+1) * 3<=n * 3:=Nat.mul_le_mul_right _ hlt
   have hth:=Blk.there (o:=k * 3) (n:=3) B4 (by rw [List.length_append,List.length_drop,hfl,hZl];omega)
   obtain ⟨B5,hg5⟩:=Blk.lay cs4 (k * 3) B4 (by rw [List.length_append,List.length_drop,hfl,hZl];omega)
   rw [qed css.flatten Z cs4 k 3 hfl hcl4 (by rw [hZl];exact hkk)] at B5
   have hE5:=Els.keep hE4 (Keep.grown hg5 (fun g hg hlt=>by injection hg with hg;omega))
   have hbw5:=hbw4.grown hg5 (Nat.le_of_lt B4.lt) (fun k hk=>by injection hk with hk;omega)
   have HE5:=zh hE5
   have HB5:=zh (show Blk _ go 96 ((css++[cs4]).flatten++Z.drop ((k+1) * 3)).toArray/\Below go w _ from ⟨by rw [List.flatten_append,List.flatten_singleton];exact B5,hbw5⟩)
   clear hE5 hg5 B5 hbw5 hE4 hr4 hfl B4 hbw4 hbw
   go_upto_region 6 with ((with_reducible refine sS 23 ?_);(refine wpList_store_mid rfl 96 _ _ rfl go (k * 3) cs4.toArray rfl rfl ?s7 ?s8 (all_oneCell_toArray hone4) ?_))
   case s7=>exact (show cs4.toArray.size=3 by simp [hcl4]) ▸ hth
   case s8=>rw [List.size_toArray];exact hcz4
   generalize w4.setCells go (k * 3) cs4=W5 at *
   clear hth hone hone4
   go_wp2_with fail
   go_roundw
   case rel=>exact ⟨k+1,_,by go_num,by omega,HE5,HB5⟩
   case measure=>simp [intOf];omega
  ·obtain rfl:k=n:=by omega
   have hd:decide ((k:Int)<(k:Int))=false:=by simp
   have hxk:x.length=k:=HL.out
   subst hxk
   have hE:=HE.out
   rw [List.take_length] at hE
   have hB:=HB.out
   rw [List.drop_eq_nil_of_le (by omega),List.append_nil] at hB
   have HR:=zh (show OwnE eWrkT 96 wr w.heap.size (fun b=>w.heap.size<=b/\(some ⟨go,0,none⟩:Option Addr)≠some ⟨b,0,none⟩) (some ⟨go,0,none⟩) x.length x.length x from ⟨css,qbz hB.1 hE.flen (by rw [HGW.out];exact zl _) hn,hE.mono (fun b h=>⟨by have:=HGW.out;omega,fun e=>by injection e with e;injection e with e;omega⟩),rfl⟩)
   have hbw:Below w.heap.size w wr:=by rw [<-HGW.out];exact hB.2
   clear hE hB HE HB
   go_wp2
   go_ret
   exact ⟨_,rfl,HR.out,hbw⟩
theorem teachWrk {x:List Wrk} (h:Sl eWrk w F A n c x) (hn:x.length<=1000) (hok:∀ y∈x,qik y):Calls Tryz.prog 74 #[.slice A n c,.func (.func 75) #[] #[]] w (Copied eWrkT 96 x w):=(teachWrkT h hn hok).mono fun _ _ h=>h.copied
theorem sownWork_ {x:Wrk} (h:eWrk.rel w F cs x) (hok:qik x):Calls Tryz.prog 104 #[.agg cs.toArray] w (qfn eWrkT x w):=by
 obtain ⟨A,n,c,A2,n2,c2,rfl,h1,h2⟩:=qdc h
 have HS1:=zh h1
 have HS2:=zh h2
 have hn1:n2<=1000:=by have:=h2.len;have:=hok.2.2;omega
 have HOK:=zh hok
 clear h h1 h2 hok
 go_enter Tryz.func104,Tryz.ntmps104
 go_upto_region 1 with fail
 obtain ⟨W,hW_,hb1,B1,B2⟩:=al2 w 96 96 #[.int .i64 x.1,.slice A n c,.slice A2 n2 c2] #[.int .i64 0,.slice none 0 0,.slice none 0 0]
 rw [<-hW_]
 clear hW_
 obtain ⟨g2,hg2⟩:∃ g,w.heap.size+1=g:=⟨_,rfl⟩
 have hg2n:w.heap.size<g2:=by omega
 rw [hg2] at B2 ⊢
 clear hg2
 have D:∀ w',Below W.heap.size W.drew w'->w'.cell? ⟨w.heap.size,1,none⟩=some (.slice A n c)/\w'.cell? ⟨w.heap.size,2,none⟩=some (.slice A2 n2 c2):=fun w' h=>⟨(B1.ext (zt (zb _ _).drew h)).cell 1,(B1.ext (zt (zb _ _).drew h)).cell 2⟩
 refine r3 (S:=fun w'=>Below W.heap.size W.drew w') [(0,true),(1,true),(3,true),(4,true),(2,false),(6,true),(5,false)] [(7,false),(8,true),(9,false)] (zb _ _) ?_
 repeat ((first|refine pT ?_|refine pF ?_);try go_frame)
 have HF:=zh (seachChgT (HS1.out.ext hb1.drew) HOK.out.1 HOK.out.2.1)
 refine pD fun K hK=>?_;go_simp
 refine HF.out.mono ?_
 rintro e w3 ⟨A4,rfl,hown4,hb3⟩
 refine hK.out _ _ hb3 ?_
 clear hK K HF
 repeat ((first|refine pT ?_|refine pF ?_);try go_frame)
 have HF:=zh (copyM (HS2.out.ext (hb1.drew.trans (zm hb3 hb1.size))) (by omega))
 refine pD fun K hK=>?_;go_simp
 refine HF.out.mono ?_
 rintro e w4 ⟨A5,c5,rfl,hown5,hb4⟩
 refine hK.out _ _ ((hb3.tr hb4)) ?_
 clear hK K HF D
 have HC:=zh ((hown4.sl (G:=fun b=>W.heap.size<=b) (fun b h _=>h) (fun b h=>h.1)).ext hb4)
 have HD:=zh (hown5.sl (G:=fun b=>W.heap.size<=b) (fun b h _=>Nat.le_trans hb3.size h) (fun b h=>Nat.le_trans hb3.size h.1))
 have hbb:=(zb _ _).drew.trans (zm ((hb3.tr hb4)) (zl W.heap.size))
 have B14:=B1.ext hbb
 have B24:=B2.ext hbb
 have hbw4:=(hb1.tr hbb)
 have hw1:g2<W.heap.size:=B2.lt
 have hWs:=hbb.size
 clear hown4 hown5 B1 B2 hb4 hb3 hb1 hbb HS1 HS2
 refine qak ?_
 have q:=B14.cell 1
 have f:=B14.frozen 1
 refine pD fun K hK=>?_;go_simp
 refine hK.out _ _ trivial ?_
 clear hK K
 have hk5:=Keep.set (F:=fun b=>W.heap.size<=b) w4 ⟨w.heap.size,1,none⟩ (.slice A4 (List.length x.2.1) (List.length x.2.1)) (show ¬W.heap.size<=w.heap.size by omega)
 have HC5:=zh (HC.out.keep hk5)
 have HD5:=zh (HD.out.keep hk5)
 have B15:=B14.set_ 1 (.slice A4 (List.length x.2.1) (List.length x.2.1))
 have B25:=Blk.keep (F:=fun b=>b≠w.heap.size) B24 (Keep.grown (qac w4 w.heap.size 1 (.slice A4 (List.length x.2.1) (List.length x.2.1))) (fun g hg h=>by injection hg with hg;omega)) (by omega)
 have hbw5:=hbw4.grown (qac w4 w.heap.size 1 (.slice A4 (List.length x.2.1) (List.length x.2.1))) (Nat.le_of_lt B14.lt) (fun k hk=>by injection hk with hk;omega)
 have hWs5:W.heap.size<=(w4.setCell ⟨w.heap.size,1,none⟩ (.slice A4 (List.length x.2.1) (List.length x.2.1))).heap.size:=Nat.le_trans hWs (qac w4 w.heap.size 1 (.slice A4 (List.length x.2.1) (List.length x.2.1))).size
 obtain ⟨W5,hW5⟩:∃ W,W=w4.setCell ⟨w.heap.size,1,none⟩ (.slice A4 (List.length x.2.1) (List.length x.2.1)):=⟨_,rfl⟩
 rw [<-hW5] at HC5 HD5 B15 B25 hbw5 hWs5 ⊢
 clear hW5 hk5 B14 B24 HC HD hbw4 q f hWs
 have B14:=B15
 have B24:=B25
 have hWs:=hWs5
 have HC:=HC5
 have HD:=HD5
 have hbw4:=hbw5
 clear B15 B25 hbw5 hWs5 HC5 HD5
 repeat ((first|refine pT ?_|refine pF ?_);try go_frame)
 clear w4
 have q:=B14.cell 2
 have f:=B14.frozen 2
 refine pD fun K hK=>?_;go_simp
 refine hK.out _ _ trivial (qad ?_)
 clear hK K
 have hk5:=Keep.set (F:=fun b=>W.heap.size<=b) W5 ⟨w.heap.size,2,none⟩ (.slice A5 (List.length x.2.2) c5) (show ¬W.heap.size<=w.heap.size by omega)
 have HC5:=zh (HC.out.keep hk5)
 have HD5:=zh (HD.out.keep hk5)
 have B15:=B14.set_ 2 (.slice A5 (List.length x.2.2) c5)
 have B25:=Blk.keep (F:=fun b=>b≠w.heap.size) B24 (Keep.grown (qac W5 w.heap.size 2 (.slice A5 (List.length x.2.2) c5)) (fun g hg h=>by injection hg with hg;omega)) (by omega)
 have hbw5:=hbw4.grown (qac W5 w.heap.size 2 (.slice A5 (List.length x.2.2) c5)) (Nat.le_of_lt B14.lt) (fun k hk=>by injection hk with hk;omega)
 have hWs5:W.heap.size<=(W5.setCell ⟨w.heap.size,2,none⟩ (.slice A5 (List.length x.2.2) c5)).heap.size:=Nat.le_trans hWs (qac W5 w.heap.size 2 (.slice A5 (List.length x.2.2) c5)).size
 obtain ⟨W6,hW6⟩:∃ W,W=W5.setCell ⟨w.heap.size,2,none⟩ (.slice A5 (List.length x.2.2) c5):=⟨_,rfl⟩
 rw [<-hW6] at HC5 HD5 B15 B25 hbw5 hWs5 ⊢
 clear hW6 hk5 B14 B24 HC HD hbw4 q f hWs
 have B14:=B15
 have B24:=B25
 have hWs:=hWs5
 have HC:=HC5
 have HD:=HD5
 have hbw4:=hbw5
 clear B15 B25 hbw5 hWs5 HC5 HD5
 have HR:=zh (qln (x:=x) HC.out HD.out)
 clear HC HD
 obtain ⟨cz,hcz⟩:∃ z,z=([.int .i64 x.1,.slice A4 x.2.1.length x.2.1.length,.slice A5 x.2.2.length c5]:List Value):=⟨_,rfl⟩
 have hczl:cz.length=3:=by rw [hcz];rfl
 have hone:∀ u∈cz,u.oneCell'=true:=HR.out |> fun h=>by rw [hcz];exact eWrkT.one h
 have hsz:(Tryz.prog.info? 96).map (·.size)=some cz.length:=by rw [hczl];kernel_rfl
 have hth:=Blk.there (o:=0) (n:=3) B24 (by simp)
 have hrg:W6.rangeAt w.heap.size 0 cz:=by rw [hcz];exact Blk.whole B14
 go_wp2_with (first|((with_reducible refine sT 11 ?_);(refine wpList_load_mid rfl 96 _ rfl w.heap.size 0 rfl cz _ hrg Tryz.underlying96 rfl hsz ?_)) |
  ((with_reducible show wpList _ _ _ (Oper.mk none _ _ _ _ _::_) _ _);(refine wpList_store_mid rfl 96 _ _ rfl g2 0 cz.toArray rfl rfl ?s1 ?s2 (all_oneCell_toArray hone) ?_)))
 case s1=>exact (show cz.toArray.size=3 by simp [hczl]) ▸ hth
 case s2=>exact (show cz.toArray.size=cz.length by simp) ▸ hsz
 obtain ⟨B8,hg8⟩:=Blk.lay cz 0 B24 (by rw [hczl];simp)
 rw [qai _ _ (by rw [hczl];rfl)] at B8
 have hbw8:=hbw4.grown hg8 (Nat.le_of_lt (Nat.lt_of_lt_of_le hg2n (Nat.le_of_lt B24.lt))) (fun k hk=>by injection hk with hk;omega)
 have HR8:=zh (eWrkT.keep HR.out (Keep.grown hg8 (fun g hg h=>by injection hg with hg;omega)))
 generalize W6.setCells g2 0 cz=w8 at *
 clear hth B14 B24 hg8 hrg HR hbw4
 go_wp2
 refine bodyPost_ret (v:=.agg cz.toArray) (results_cell_row rfl _ _ g2 _ _ (0,0) _ rfl B8 Tryz.underlying96 rfl (by rw [List.size_toArray];exact hsz)) rfl ⟨cz,rfl,by rw [hcz];exact eWrkT.mono HR8.out (fun b h=>by omega),hbw8⟩
theorem seachWrkT {x:List Wrk} (h:Sl eWrk w F A n c x) (hn:x.length<=1000) (hok:∀ y∈x,qik y):Calls Tryz.prog 103 #[.slice A n c,.func (.func 104) #[] #[]] w (CopiedT eWrkT 96 x w):=by
 obtain ⟨i0,hi,hz0,hz1,hz2⟩:=ip Tryz.prog 96 (.agg #[.int .i64 0,.slice none 0 0,.slice none 0 0]) 3 56
 have HS:=zh h
 have HL:=zh h.len
 have hn:n<=1000:=by have:=h.len;omega
 clear h
 have HK:=zh hok
 clear hok
 go_enter Tryz.func103,Tryz.ntmps103
 go_wp2_with (at_make;refine wpList_make_full _ rfl _ _ 26 rfl w.heap.size 96 i0 (.agg #[.int .i64 0,.slice none 0 0,.slice none 0 0]) 3 Tryz.underlying26 hi hz0 hz1 _ _ _ _ n rfl rfl rfl rfl ?b2 ?b3 (zl _) ?_)
 case b2=>rw [hz2];omega
 case b3=>unfold maxLen;omega
 intro w1 hown hgrow
 obtain ⟨Z,BO,hZl⟩:=qct hown
 have hb1:=(zb w.heap.size w).grown hgrow (zl _) (fun k hk=>by cases hk)
 obtain ⟨go,hgo⟩:∃ g,w.heap.size=g:=⟨_,rfl⟩
 have BO0:Blk w1 w.heap.size 96 ((([]:List (List Value)).flatten++Z.drop (0 * 3)).toArray):=by simpa using BO
 have HB0:=zh (za BO0 hb1)
 clear hown hgrow BO BO0 hb1
 rw [hgo] at HB0
 have hgw:go=w.heap.size:=hgo.symm
 rw [hgo]
 clear hgo
 have HGW:=zh hgw
 clear hgw
 go_wp2_with fail
 go_loopw [13] (fun i wr=>∃ (k:Nat) (css:List (List Value)),i=.int .i64 k/\k<=n/\Hid (Els eWrkT wr (fun b=>go<b) css (x.take k))/\Hid (Blk wr go 96 (css.flatten++Z.drop (k * 3)).toArray/\Below go w wr)) (fun i _=>n - (intOf i).toNat)
 case atStart=>exact ⟨0,[],rfl,Nat.zero_le _,zh (by simpa using Els.nil _ _),HB0⟩
 case round =>
  clear HB0
  obtain ⟨k,css,rfl,hk,HE,HB⟩:=hrel
  rcases Nat.lt_or_ge k n with hlt|hge
  ·have hd:decide ((k:Int)<(n:Int))=true:=by simp;omega
   have hkn:(k:Int)<(n:Int):=by omega
   obtain ⟨y,hy⟩:∃ y,x[k]? = some y:=⟨_,List.getElem?_eq_getElem (by have:=HL.out;omega)⟩
   have HY:=zh hy
   obtain ⟨b0,off,rfl,hnc,hFb,hbl⟩:=HS.out.some_ (by omega)
   have hbw:=HB.out.2
   have hsz:=HB.out.1.lt
   have hS:=HS.out.ext (show Below w.heap.size w wr by rw [<-HGW.out];exact hbw)
   obtain ⟨cs,hcs,hcell⟩:=hS.at_ hy
   have hcl1:cs.length=3:=eWrk.len hcs
   have hone:=eWrk.one hcs
   have hcz:(Tryz.prog.info? 96).map (·.size)=some cs.length:=by rw [hcl1];kernel_rfl
   have C7:=Blk.new wr 96 (([.int .i64 0,.slice none 0 0,.slice none 0 0]:List Value)).toArray
   have hth7:=Blk.there (o:=0) (n:=3) C7 (by simp)
   obtain ⟨B7,hg7⟩:=Blk.lay cs 0 C7 (by rw [hcl1];simp)
   rw [qai _ _ (by rw [hcl1];rfl)] at B7
   have hb7:Below wr.heap.size wr ((wr.alloc (.cells #[.int .i64 0,.slice none 0 0,.slice none 0 0] 96)).setCells wr.heap.size 0 cs):=((zb _ _).alloc (zl _) _).grown hg7 (by simp) (fun k hk=>by injection hk with hk;omega)
   clear hg7 C7
   have hrg:wr.rangeAt b0 (off+k * 3) cs:=fun j u hu=>hcell j u hu
   have HR:=zh hrg
   clear hrg hcell hS hy
   go_upto_region 5 with (first|((with_reducible refine sT 17 ?_);(refine wpList_load_mid rfl 96 _ rfl b0 (off+k * 3) rfl cs _ HR.out Tryz.underlying96 rfl hcz ?_)) |
    ((with_reducible refine sS 7 ?_);(refine wpList_store_mid rfl 96 _ _ rfl wr.heap.size 0 cs.toArray rfl rfl ?s5 ?s6 (all_oneCell_toArray hone) ?_)))
   case s5=>exact (show cs.toArray.size=3 by simp [hcl1]) ▸ hth7
   case s6=>rw [List.size_toArray];exact hcz
   have HC:=zh (eWrk.ext hcs hb7)
   clear hcs
   generalize (wr.alloc (.cells #[.int .i64 0,.slice none 0 0,.slice none 0 0] 96)).setCells wr.heap.size 0 cs=W7 at *
   have HF:=zh (sownWork_ HC.out (HK.out y (List.mem_of_getElem? HY.out)))
   go_wp2_with ((with_reducible refine sT 21 ?_);(refine wpList_load_mid rfl 96 _ rfl wr.heap.size 0 rfl cs _ (Blk.whole B7) Tryz.underlying96 rfl hcz ?_))
   refine HF.out.mono ?_
   rintro e w4 ⟨cs4,rfl,hr4,hb4⟩
   clear HF HC B7
   have hcl4:cs4.length=3:=eWrkT.len hr4
   have hone4:=eWrkT.one hr4
   have hcz4:(Tryz.prog.info? 96).map (·.size)=some cs4.length:=by rw [hcl4];kernel_rfl
   have hr4:=eWrkT.mono hr4 (G:=fun b=>go<b) (fun b h=>by have:=hb7.size;omega)
   have hE4:=Els.snoc ((HE.out.ext hb7).ext hb4) HY.out hr4
   have hfl:css.flatten.length=k * 3:=by have h9:=HE.out.flen;rw [List.length_take,Nat.min_eq_left (by have:=HL.out;omega)] at h9;exact h9
   have B4:=(HB.out.1.ext hb7).ext hb4
   have hbw4:=(hbw.trans (zm hb7 (Nat.le_of_lt hsz))).trans (zm hb4 (Nat.le_trans (Nat.le_of_lt hsz) hb7.size))
   have hkk:(k+1) * 3<=n * 3:=Nat.mul_le_mul_right _ hlt
   have hth:=Blk.there (o:=k * 3) (n:=3) B4 (by rw [List.length_append,List.length_drop,hfl,hZl];omega)
   obtain ⟨B5,hg5⟩:=Blk.lay cs4 (k * 3) B4 (by rw [List.length_append,List.length_drop,hfl,hZl];omega)
   rw [qed css.flatten Z cs4 k 3 hfl hcl4 (by rw [hZl];exact hkk)] at B5
   have hE5:=Els.keep hE4 (Keep.grown hg5 (fun g hg hlt=>by injection hg with hg;omega))
   have hbw5:=hbw4.grown hg5 (Nat.le_of_lt B4.lt) (fun k hk=>by injection hk with hk;omega)
   have HE5:=zh hE5
   have HB5:=zh (show Blk _ go 96 ((css++[cs4]).flatten++Z.drop ((k+1) * 3)).toArray/\Below go w _ from ⟨by rw [List.flatten_append,List.flatten_singleton];exact B5,hbw5⟩)
   clear hE5 hg5 B5 hbw5 hE4 hr4 hfl B4 hbw4 hbw
   go_upto_region 6 with ((with_reducible refine sS 23 ?_);(refine wpList_store_mid rfl 96 _ _ rfl go (k * 3) cs4.toArray rfl rfl ?s7 ?s8 (all_oneCell_toArray hone4) ?_))
   case s7=>exact (show cs4.toArray.size=3 by simp [hcl4]) ▸ hth
   case s8=>rw [List.size_toArray];exact hcz4
   generalize w4.setCells go (k * 3) cs4=W5 at *
   clear hth hone hone4
   go_wp2_with fail
   go_roundw
   case rel=>exact ⟨k+1,_,by go_num,by omega,HE5,HB5⟩
   case measure=>simp [intOf];omega
  ·obtain rfl:k=n:=by omega
   have hd:decide ((k:Int)<(k:Int))=false:=by simp
   have hxk:x.length=k:=HL.out
   subst hxk
   have hE:=HE.out
   rw [List.take_length] at hE
   have hB:=HB.out
   rw [List.drop_eq_nil_of_le (by omega),List.append_nil] at hB
   have HR:=zh (show OwnE eWrkT 96 wr w.heap.size (fun b=>w.heap.size<=b/\(some ⟨go,0,none⟩:Option Addr)≠some ⟨b,0,none⟩) (some ⟨go,0,none⟩) x.length x.length x from ⟨css,qbz hB.1 hE.flen (by rw [HGW.out];exact zl _) hn,hE.mono (fun b h=>⟨by have:=HGW.out;omega,fun e=>by injection e with e;injection e with e;omega⟩),rfl⟩)
   have hbw:Below w.heap.size w wr:=by rw [<-HGW.out];exact hB.2
   clear hE hB HE HB
   go_wp2
   go_ret
   exact ⟨_,rfl,HR.out,hbw⟩
theorem seachWrk {x:List Wrk} (h:Sl eWrk w F A n c x) (hn:x.length<=1000) (hok:∀ y∈x,qik y):Calls Tryz.prog 103 #[.slice A n c,.func (.func 104) #[] #[]] w (Copied eWrkT 96 x w):=(seachWrkT h hn hok).mono fun _ _ h=>h.copied
def okDB (x:DBd):Prop:=x.1.length<=1000/\(∀ t∈x.1,qeh t)/\x.2.1.length<=1000/\(∀ k∈x.2.1,qik k)/\x.2.2.1.length<=1000/\x.2.2.2.length<=1000
theorem OwnE.ext {α:Type} {E:Enc α} {t:TypeId} {x:List α} (h:OwnE E t w B F A n c x) (hb:Below w.heap.size w w'):OwnE E t w' B F A n c x:=by
 obtain ⟨css,h1,h2,h3⟩:=h
 exact ⟨css,qay h1 hb,h2.ext hb,h3⟩
theorem OwnE.base {α:Type} {E:Enc α} {t:TypeId} {B':Nat} {x:List α} (h:OwnE E t w B F A n c x) (hb:B'<=B):OwnE E t w B' F A n c x:=by
 obtain ⟨css,h1,h2,h3⟩:=h
 exact ⟨css,qat h1 hb,h2,h3⟩
theorem OwnE.mono {α:Type} {E:Enc α} {t:TypeId} {x:List α} (h:OwnE E t w B F A n c x) (hF:∀ b,F b->G b):OwnE E t w B G A n c x:=by
 obtain ⟨css,h1,h2,h3⟩:=h
 exact ⟨css,h1,h2.mono hF,h3⟩
theorem qox {t:TypeId} {xs:List Value} (h:w.ownsRow B t k (.slice A n c) n xs) (hk:Keep G w w') (hA:∀ b,A=some ⟨b,0,none⟩->G b):w'.ownsRow B t k (.slice A n c) n xs:=by
 refine ⟨h.1,?_⟩
 rcases h.2 with h1|⟨g,cap,cur,h1,h2,h3,h4⟩
 ·exact .inl h1
 ·exact .inr ⟨g,cap,cur,h1,h2,Blk.keep (F:=G) h3 hk (hA g (by injection h1)),h4⟩
theorem OwnE.keep {α:Type} {E:Enc α} {t:TypeId} {x:List α} (h:OwnE E t w B F A n c x) (hk:Keep G w w') (hA:∀ b,A=some ⟨b,0,none⟩->G b) (hF:∀ b,F b->G b):OwnE E t w' B F A n c x:=by
 obtain ⟨css,h1,h2,h3⟩:=h
 exact ⟨css,qox h1 hk hA,h2.keep (hk.mono hF),h3⟩
theorem OwnE.lt {α:Type} {E:Enc α} {t:TypeId} {x:List α} (h:OwnE E t w B F A n c x) (hA:A=some ⟨b,0,none⟩):B<=b/\b<w.heap.size:=by
 obtain ⟨css,h1,_,_⟩:=h
 exact h1.lt b (by rw [hA];rfl)
def Bnd {α:Type} (E:Enc α):Prop:=∀ {w F cs x},E.rel w F cs x->E.rel w (fun b=>F b/\b<w.heap.size) cs x
theorem Flat.bnd {α:Type} {E:Enc α} (h:Flat E):Bnd E:=fun {w F cs x} hr=>h.any hr w _
theorem Els.bound {α:Type} {E:Enc α} (hE:Bnd E) {css:List (List Value)} {xs:List α} (h:Els E w F css xs):Els E w (fun b=>F b/\b<w.heap.size) css xs:=⟨h.1,fun i cs x h1 h2=>hE (h.2 i cs x h1 h2)⟩
theorem Sl.bound {α:Type} {E:Enc α} (hE:Bnd E) {x:List α} (h:Sl E w F A n c x):Sl E w (fun b=>F b/\b<w.heap.size) A n c x:=by
 obtain ⟨css,h1,h2,h3⟩:=h
 exact ⟨css,h1.bound,h2.bound hE,h3⟩
theorem OwnE.bound {α:Type} {E:Enc α} (hE:Bnd E) {t:TypeId} {x:List α} (h:OwnE E t w B F A n c x):OwnE E t w B (fun b=>F b/\b<w.heap.size) A n c x:=by
 obtain ⟨css,h1,h2,h3⟩:=h
 exact ⟨css,h1,h2.bound hE,h3⟩
theorem qbk {α:Type} {E:Enc α} (hE:Bnd E):Bnd (eSl E):=fun ⟨A,n,c,e,h⟩=>⟨A,n,c,e,h.bound hE⟩
theorem qbc {α β:Type} {E:Enc α} {D:Enc β} (hE:Bnd E) (hD:Bnd D):Bnd (E.pair D):=fun ⟨a,b,e,h1,h2⟩=>⟨a,b,e,hE h1,hD h2⟩
theorem bnd_slF {α:Type} {E:Enc α} (hE:Bnd E):Bnd (eSlF E):=fun ⟨A,n,c,e,hf,h⟩=>⟨A,n,c,e,hf,h.bound hE⟩
theorem qfz:Bnd eInt:=fun h=>h
theorem bnd_str:Bnd eStr:=fun h=>h
theorem bnd_bool:Bnd eBool:=fun h=>h
theorem bnd_row:Bnd eRow:=qbk flat_val.bnd
theorem bnd_sch:Bnd eSch:=qbc bnd_str (qbc (qbk flat_col.bnd) (qbc qfz bnd_bool))
theorem qdm:Bnd eTab:=qbc bnd_sch (bnd_slF bnd_row)
theorem qhj:Bnd eChg:=qbc bnd_str (qbc qfz bnd_row)
theorem qhz:Bnd eWrk:=qbc qfz (qbc (qbk qhj) (qbk flat_mrk.bnd))
theorem bnd_slT {α:Type} {E:Enc α} (hE:Bnd E):Bnd (eSlT E):=fun ⟨A,n,e,h⟩=>⟨A,n,e,h.bound hE⟩
theorem qog:Bnd eWrkT:=qbc qfz (qbc (bnd_slT qhj) (qbk flat_mrk.bnd))
def Hh (w:World) (B:Nat) (F:qab) (A:Option Addr) (n c:Nat) (l:List Hld):Prop:=OwnE eHld 213 w B F A n c l/\∀ b,A=some ⟨b,0,none⟩->F b
theorem Hh.ext {l:List Hld} (h:Hh w B F A n c l) (hb:Below w.heap.size w w'):Hh w' B F A n c l:=⟨h.1.ext hb,h.2⟩
theorem Hh.keep {l:List Hld} (h:Hh w B F A n c l) (k:Keep F w w'):Hh w' B F A n c l:=⟨h.1.keep k h.2 (fun _ h=>h),h.2⟩
theorem Hh.mono {l:List Hld} (h:Hh w B F A n c l) (k:∀ b,F b->G b):Hh w B G A n c l:=⟨h.1.mono k,fun b e=>k b (h.2 b e)⟩
theorem Hh.base {B':Nat} {l:List Hld} (h:Hh w B F A n c l) (hb:B'<=B):Hh w B' F A n c l:=⟨h.1.base hb,h.2⟩
theorem Hh.sl {l:List Hld} (h:Hh w B F A n c l):Sl eHld w F A n c l:=by
 obtain ⟨⟨css,h1,h2,h3⟩,h4⟩:=h
 refine ⟨css,?_,h2,h3⟩
 rcases RowF.of_row (F:=fun _=>True) (Row.of_own h1) (fun _ _ _=>trivial) with q|q|⟨b,off,q1,q2,q3,q4,q5⟩
 ·exact .inl q
 ·exact .inr (.inl q)
 ·refine .inr (.inr ⟨b,off,q1,q2,h4 b ?_,q4,q5⟩)
  rcases h1.2 with ⟨z,_⟩|⟨g',cap,cur,z,_⟩
  ·injection z with z;rw [z] at q1;cases q1
  ·injection z with z;rw [z] at q1 ⊢;injection q1 with q1;injection q1 with q1;rw [q1]
def NB (n:Nat) (A A2:Option Addr):qab:=fun b=>n<=b/\A≠some ⟨b,0,none⟩/\A2≠some ⟨b,0,none⟩
def OwnDBw (x:DBd) (B:Nat) (w':World) (A:Option Addr) (c:Nat) (A2:Option Addr) (c2:Nat) (A3:Option Addr) (c3:Nat) (A4:Option Addr) (c4:Nat):Prop :=
 OwnE eTab 120 w' B (NB B A A2) A x.1.length c x.1/\OwnE eWrkT 96 w' B (NB B A A2) A2 x.2.1.length c2 x.2.1 /\
  Hh w' B (NB B A A2) A3 x.2.2.1.length c3 x.2.2.1/\Hh w' B (NB B A A2) A4 x.2.2.2.length c4 x.2.2.2/\∀ b,A=some ⟨b,0,none⟩->A2≠some ⟨b,0,none⟩
def OwnDB (x:DBd) (w:World) (e:Ending) (w':World):Prop:=∃ A c A2 c2 A3 c3 A4 c4,e=.returned (.agg #[.slice A x.1.length c,.slice A2 x.2.1.length c2,.slice A3 x.2.2.1.length c3,.slice A4 x.2.2.2.length c4])/\OwnDBw x w.heap.size w' A c A2 c2 A3 c3 A4 c4/\Below w.heap.size w w'
theorem OwnDB.owned {e:Ending} (h:OwnDB x w e w'):qfn eDB x w e w':=by
 obtain ⟨A,c,A2,c2,A3,c3,A4,c4,h1,⟨h2,h3,h4,h5,_⟩,h6⟩:=h
 exact ⟨_,h1,qeg (h2.sl (fun b h _=>h) (fun b h=>h.1)) (h3.loose.sl (fun b h _=>h) (fun b h=>h.1)) ((h4.sl).mono (fun b h=>h.1)) ((h5.sl).mono (fun b h=>h.1)),h6⟩
theorem qig (A B C D:Value) (hA:A.oneCell'=true) (hB:B.oneCell'=true) (hC:C.oneCell'=true) (hD:D.oneCell'=true):∀ u∈[A,B,C,D],u.oneCell'=true:=fun u hu=>by
 simp at hu
 rcases hu with rfl|rfl|rfl|rfl <;> assumption
theorem qjy (h:eDB.rel w F cs x) (hok:okDB x):Calls Tryz.prog 26 #[.agg cs.toArray] w (OwnDB x w):=by
 obtain ⟨A,n,c,A2,n2,c2,A3,n3,c3,A4,n4,c4,rfl,h1,h2,h3,h4⟩:=qav h
 have HS1:=zh h1
 have HS2:=zh h2
 have HS3:=zh h3
 have HS4:=zh h4
 have hn3:n3<=1000:=by have:=h3.len;have:=hok.2.2.2.2.1;omega
 have hn4:n4<=1000:=by have:=h4.len;have:=hok.2.2.2.2.2;omega
 have HOK:=zh hok
 clear h h1 h2 h3 h4 hok
 go_enter Tryz.func26,Tryz.ntmps26
 go_upto_region 1 with fail
 obtain ⟨W,hW_,hb1,B1,B2⟩:=al2 w 31 31 #[.slice A n c,.slice A2 n2 c2,.slice A3 n3 c3,.slice A4 n4 c4] #[.slice none 0 0,.slice none 0 0,.slice none 0 0,.slice none 0 0]
 rw [<-hW_]
 clear hW_
 obtain ⟨g2,hg2⟩:∃ g,w.heap.size+1=g:=⟨_,rfl⟩
 have hg2n:w.heap.size<g2:=by omega
 rw [hg2] at B2 ⊢
 clear hg2
 have D:∀ w',Below W.heap.size W.drew w'->w'.cell? ⟨w.heap.size,0,none⟩=some (.slice A n c)/\w'.cell? ⟨w.heap.size,1,none⟩=some (.slice A2 n2 c2)/\w'.cell? ⟨w.heap.size,2,none⟩=some (.slice A3 n3 c3)/\w'.cell? ⟨w.heap.size,3,none⟩=some (.slice A4 n4 c4):=fun w' h=>⟨(B1.ext (zt (zb _ _).drew h)).cell 0,(B1.ext (zt (zb _ _).drew h)).cell 1,(B1.ext (zt (zb _ _).drew h)).cell 2,(B1.ext (zt (zb _ _).drew h)).cell 3⟩
 refine r3 (S:=fun w'=>Below W.heap.size W.drew w') [(0,true),(1,true),(3,true),(4,true),(6,true),(7,true),(8,true),(10,true),(11,true),(12,true),(2,false),(5,false),(9,false),(13,false)] [(14,true),(15,true),(16,false)] (zb _ _) ?_
 repeat ((first|refine pT ?_|refine pF ?_);try go_frame)
 have HF:=zh (teachTab (HS1.out.ext hb1.drew) HOK.out.1 HOK.out.2.1)
 refine pD fun K hK=>?_;go_simp
 refine HF.out.mono ?_
 rintro e w3 ⟨A5,c5,rfl,ho5,hb3⟩
 have H5:=zh ho5
 have ho5:=zh ho5
 refine hK.out _ _ hb3 ?_
 clear hK K HF D
 have hbw3:=hb1.drew.trans (zm hb3 hb1.size)
 have HF:=zh (teachWrk (HS2.out.ext hbw3) HOK.out.2.2.1 HOK.out.2.2.2.1)
 refine pD fun K hK=>?_;go_simp
 refine HF.out.mono ?_
 rintro e w4 ⟨A6,c6,rfl,ho6,hb4⟩
 have H6:=zh ho6
 have ho6:=zh ho6
 have hd4:=(hb3.tr hb4)
 refine hK.out _ _ hd4 ?_
 clear hK K HF
 have hbw4:=(hbw3.tr hb4)
 have HF:=zh (copyH (HS3.out.ext hbw4) (by omega))
 refine pD fun K hK=>?_;go_simp
 refine HF.out.mono ?_
 rintro e w5 ⟨A7,c7,rfl,ho7,hb5⟩
 have H7:=zh ho7
 clear ho7
 have hd5:=(hd4.tr hb5)
 refine hK.out _ _ hd5 ?_
 clear hK K HF
 have hbw5:=(hbw4.tr hb5)
 have HF:=zh (copyH (HS4.out.ext hbw5) (by omega))
 refine pD fun K hK=>?_;go_simp
 refine HF.out.mono ?_
 rintro e w6 ⟨A8,c8,rfl,ho8,hb6⟩
 have H8:=zh ho8
 clear ho8
 have hd6:=(hd5.tr hb6)
 refine hK.out _ _ hd6 ?_
 clear hK K HF
 have hbw6:=(hbw5.tr hb6)
 refine qak ?_
 repeat ((first|refine pT ?_|refine pF ?_);try go_frame)
 have H5:=zh (((H5.out.bound qdm).ext hb4).ext ((hb5.tr hb6)))
 have H6:=zh ((H6.out.bound qog).ext ((hb5.tr hb6)))
 have H7:=zh ((show Hh w5 w4.heap.size (fun b=>w4.heap.size<=b) A7 _ c7 _ from ⟨H7.out.mono (fun b h=>h.1),fun b e=>(H7.out.lt e).1⟩).ext hb6)
 have H8:=zh (show Hh w6 w4.heap.size (fun b=>w4.heap.size<=b) A8 _ c8 _ from ⟨(H8.out.mono (fun b h=>Nat.le_trans hb5.size h.1)).base hb5.size,fun b e=>Nat.le_trans hb5.size (H8.out.lt e).1⟩)
 have hW:w.heap.size<=W.heap.size:=hb1.size
 have h3:W.heap.size<=w3.heap.size:=hb3.size
 have h4:w3.heap.size<=w4.heap.size:=hb4.size
 have l5:∀ b,A5=some ⟨b,0,none⟩->b<w3.heap.size:=fun b h=>(ho5.out.lt h).2
 have l6:∀ b,A6=some ⟨b,0,none⟩->w3.heap.size<=b/\b<w4.heap.size:=fun b h=>ho6.out.lt h
 have B26:=B2.ext (zt (zb _ _).drew hd6)
 have hsz:(Tryz.prog.info? 31).map (·.size)=some 4:=by kernel_rfl
 obtain ⟨cz,hcz⟩:∃ z,z=([.slice A5 x.1.length c5,.slice A6 x.2.1.length c6,.slice A7 x.2.2.1.length c7,.slice A8 x.2.2.2.length c8]:List Value):=⟨_,rfl⟩
 have hczl:cz.length=4:=by rw [hcz];rfl
 have hone:∀ u∈cz,u.oneCell'=true:=by rw [hcz];exact qig _ _ _ _ rfl rfl rfl rfl
 have hth:=Blk.there (o:=0) (n:=4) B26 (by simp)
 refine qaj rfl (qae rfl) (fun K hK=>?_)
 refine qao 31 (.tmp 2) (.tmp 18) rfl rfl g2 0 cz rfl (by rw [hcz];rfl) (by rw [hczl];exact hth) (by rw [hczl];exact hsz) hone ?_
 refine hK.out _ _ trivial (qad ?_)
 clear hK K
 obtain ⟨B8,hg8⟩:=Blk.lay cz 0 B26 (by rw [hczl];simp)
 rw [qai _ _ (by rw [hczl];rfl)] at B8
 have hbw8:=hbw6.grown hg8 (Nat.le_of_lt (Nat.lt_of_lt_of_le hg2n (Nat.le_of_lt B26.lt))) (fun k hk=>by injection hk with hk;omega)
 have hg2W:g2<W.heap.size:=B2.lt
 have hk8:=Keep.grown (F:=fun b=>W.heap.size<=b) hg8 (fun g hg h=>by injection hg with hg;omega)
 have R:OwnDBw x w.heap.size (w6.setCells g2 0 cz) A5 c5 A6 c6 A7 c7 A8 c8:=by
  refine ⟨?_,?_,?_,?_,fun b h h'=>by have:=l5 b h;have:=l6 b h';omega⟩
  ·exact ((H5.out.keep hk8 (fun b h=>(H5.out.lt h).1) (fun b h=>h.1.1)).base hW).mono (fun b h=>⟨Nat.le_trans hW h.1.1,h.1.2,fun e=>by have:=l6 b e;omega⟩)
  ·exact ((H6.out.keep hk8 (fun b h=>Nat.le_trans h3 (H6.out.lt h).1) (fun b h=>Nat.le_trans h3 h.1.1)).base (Nat.le_trans hW h3)).mono (fun b h=>⟨by omega,fun e=>by have:=l5 b e;omega,h.1.2⟩)
  ·exact ((H7.out.keep (hk8.mono (fun b h=>by omega))).base (by omega)).mono (fun b h=>⟨by omega,fun e=>by have:=l5 b e;omega,fun e=>by have:=l6 b e;omega⟩)
  ·exact ((H8.out.keep (hk8.mono (fun b h=>by omega))).base (by omega)).mono (fun b h=>⟨by omega,fun e=>by have:=l5 b e;omega,fun e=>by have:=l6 b e;omega⟩)
 have HR:=zh R
 clear R H5 H6 H7 H8 hg8 hk8 l5 l6 hth B26 B2
 generalize w6.setCells g2 0 cz=w8 at *
 go_wp2
 refine bodyPost_ret (v:=.agg cz.toArray) (results_cell_row rfl _ _ g2 _ _ (0,0) _ rfl B8 Tryz.underlying31 rfl (by rw [List.size_toArray,hczl];exact hsz)) rfl ⟨A5,c5,A6,c6,A7,c7,A8,c8,by rw [hcz],HR.out,hbw8⟩
end Go.Proofs.YtdjbpcnhnkemiaaGreat.tp
namespace Go.Proofs.YtdjbpcnhnkemiaaGreat.val
open Go.ChangeShapes Go.WideShapes Go.ChangeAt Go.RowKit Go.Proofs.YtdjbpcnhnkemiaaGreat.lib
theorem isnan (a:Int) (w:World):Calls Tryz.prog 241 #[.int .i64 a] w fun e w'=>e=.returned (.bool false)/\w=w':=by
 go_enter Tryz.func241,Tryz.ntmps241
 go_wp2
 go_ret
 exact ⟨by simp,rfl⟩
def ord (a b:Int):Int:=if a<b then -1 else if b<a then 1 else 0
theorem cmpInt (a b:Int) (w:World):Calls Tryz.prog 228 #[.int .i64 a,.int .i64 b] w fun e w'=>e=.returned (.int .i64 (ord a b))/\w=w':=by
 unfold ord
 go_enter Tryz.func228,Tryz.ntmps228
 go_wp2_with (go_at_call 241;refine (isnan _ _).mono ?_;rintro e w' ⟨rfl,rfl⟩)
 all_goals go_ret
 all_goals exact ⟨by simp [*],rfl⟩
theorem cmpStr0 (a b:ByteArray) (w:World):Calls Tryz.prog 209 #[.string a,.string b] w fun e w'=>e=.returned (.int .i64 (Lib.compareBytes a.data.toList b.data.toList))/\w=w':=by
 go_enter Tryz.func209,Tryz.ntmps209
 go_wp2_with fail
 rw [run_callFunc_extern Tryz.func237 (by kernel_rfl) (by kernel_rfl) (by kernel_rfl) (e:=Extern.BytealgCompare.compare) (by kernel_rfl),Lib.run_compareString]
 simp only [Result.andThen]
 rw [Oper.upon_value]
 go_wp2
 go_ret
 exact ⟨rfl,rfl⟩
theorem cmpStr (a b:ByteArray) (w:World):Calls Tryz.prog 139 #[.string a,.string b] w fun e w'=>e=.returned (.int .i64 (Lib.compareBytes a.data.toList b.data.toList))/\w=w':=by
 go_enter Tryz.func139,Tryz.ntmps139
 go_wp2_with (go_at_call 209;refine (cmpStr0 _ _ _).mono ?_;rintro e w' ⟨rfl,rfl⟩)
 go_ret
 exact ⟨rfl,rfl⟩
def or3 (a b c:Int):Int:=if a=0 then (if b=0 then c else b) else a
theorem cmpOr (g:Nat) (a b c:Int) (w:World) (h:w.heap[g]? = some (.cells #[.int .i64 a,.int .i64 b,.int .i64 c] 3 (0,0))) :
  Calls Tryz.prog 227 #[.slice (some ⟨g,0,none⟩) 3 3] w fun e w'=>e=.returned (.int .i64 (or3 a b c))/\w=w':=by
 have c0:w.cell? ⟨g,0,none⟩=some (.int .i64 a):=by simpa using cell_of_row w g 0 _ _ _ h
 have c1:w.cell? ⟨g,1,none⟩=some (.int .i64 b):=by simpa using cell_of_row w g 1 _ _ _ h
 have c2:w.cell? ⟨g,2,none⟩=some (.int .i64 c):=by simpa using cell_of_row w g 2 _ _ _ h
 clear h
 go_enter Tryz.func227,Tryz.ntmps227
 go_wp2
 refine wp_loop_rounds 4 ?_
 rw [rounds_succ]
 go_wp2
 iterate 3 (all_goals (try (rw [rounds_succ];go_wp2)))
 all_goals go_ret
 all_goals exact ⟨qcp (by simp_all [or3]),rfl⟩
theorem compare (k n:Int) (s:ByteArray) (k' n':Int) (s':ByteArray) (w:World) :
  Calls Tryz.prog 182 #[.agg #[.int .i64 k,.int .i64 n,.string s],.agg #[.int .i64 k',.int .i64 n',.string s']] w fun e w'=>e=.returned (.int .i64 (or3 (ord k k') (ord n n') (Lib.compareBytes s.data.toList s'.data.toList)))/\Below w.heap.size w w':=by
 go_enter Tryz.func182,Tryz.ntmps182
 go_wp2_with fail
 obtain ⟨W,hW,hB,hs,c0,c1,c2,d0,d1,d2⟩:∃ W,W=(w.alloc (.cells #[.int .i64 k,.int .i64 n,.string s] 70)).alloc (.cells #[.int .i64 k',.int .i64 n',.string s'] 70) /\
   Below w.heap.size w W/\w.heap.size+1<W.heap.size/\W.cell? ⟨w.heap.size,0,none⟩=some (.int .i64 k)/\W.cell? ⟨w.heap.size,1,none⟩=some (.int .i64 n)/\W.cell? ⟨w.heap.size,2,none⟩=some (.string s) /\
   W.cell? ⟨w.heap.size+1,0,none⟩=some (.int .i64 k')/\W.cell? ⟨w.heap.size+1,1,none⟩=some (.int .i64 n')/\W.cell? ⟨w.heap.size+1,2,none⟩=some (.string s') :=
  ⟨_,rfl,((zb _ _).alloc (zl _) _).alloc (by simp) _,by simp,by simp [go_sem],by simp [go_sem],by simp [go_sem],by simp [go_sem],by simp [go_sem],by simp [go_sem]⟩
 rw [<-hW]
 clear hW
 go_region_held3 (fun w'=>w'.cell? ⟨w.heap.size,0,none⟩=some (.int .i64 k)/\w'.cell? ⟨w.heap.size,1,none⟩=some (.int .i64 n)/\w'.cell? ⟨w.heap.size,2,none⟩=some (.string s) /\
   w'.cell? ⟨w.heap.size+1,0,none⟩=some (.int .i64 k')/\w'.cell? ⟨w.heap.size+1,1,none⟩=some (.int .i64 n')/\w'.cell? ⟨w.heap.size+1,2,none⟩=some (.string s')) (go_keep)
  ((first
   | (go_at_call 228;refine (cmpInt _ _ _).mono ?_;rintro e w' ⟨rfl,rfl⟩)
   | (go_at_call 139;refine (cmpStr _ _ _).mono ?_;rintro e w' ⟨rfl,rfl⟩)
   | (go_at_call 227;refine (cmpOr _ _ _ _ _ (by exact heap_alloc_new W _)).mono ?_;rintro e w' ⟨rfl,rfl⟩)))
 go_wp2
 go_ret
 exact ⟨rfl,(hB.alloc (by omega) _).drew⟩
end Go.Proofs.YtdjbpcnhnkemiaaGreat.val
namespace Go.Proofs.YtdjbpcnhnkemiaaGreat.tp
open Go.ChangeShapes Go.WideShapes Go.ChangeAt Go.RowKit Go.Proofs.YtdjbpcnhnkemiaaGreat.lib Go.Proofs.YtdjbpcnhnkemiaaGreat.val
variable {w w':World}
variable {n c g B b off i j k m n2 n3 c2 c3 c4 c5 c6 gs gn np lo gr gd id b2 off2:Nat}
variable {A A2 A3 A4 A5 A6:Option Addr}
variable {cs:List Value}
variable {l r:List UInt8}
variable {rs:List (List UInt8)}
variable {s o e:Int}
variable {nm:ByteArray}
variable {F G:qab}
variable {x:DBd}
def posG {α:Type} (f:α->Int) (x:List α):Nat:=(x.takeWhile fun r=>decide (f r<0)).length
def isG {α:Type} (f:α->Int) (x:List α):Bool:=match x[posG f x]? with
 | some r=>(f r == 0)
 | none=>false
def Mono {α:Type} (f:α->Int) (x:List α):Prop:=∀ (i j:Nat) r r',i<=j->x[i]? = some r->x[j]? = some r'->f r'<0->f r<0
theorem posG_le {α:Type} (f:α->Int) (x:List α):posG f x<=x.length:=(List.takeWhile_sublist _).length_le
theorem qha {α:Type} {f:α->Int}:∀ {x:List α} {n:Nat},n<=x.length->(∀ i r,i<n->x[i]? = some r->f r<0)->(∀ r,x[n]? = some r->¬f r<0)->posG f x=n
 | [],n,hn,_,_=>by simp at hn;subst hn;rfl
 | y::x,0,_,_,h=>by
  have:=h y rfl
  unfold posG
  rw [List.takeWhile_cons_of_neg (by simpa using this)]
  rfl
 | y::x,n+1,hn,h1,h2=>by
  have h0:=h1 0 y (Nat.succ_pos _) rfl
  have ih:=qha (f:=f) (x:=x) (n:=n) (by simpa using hn) (fun i r hi hr=>h1 (i+1) r (by omega) (by simpa using hr)) (fun r hr=>h2 r (by simpa using hr))
  unfold posG at ih ⊢
  rw [List.takeWhile_cons_of_pos (by simpa using h0),List.length_cons,ih]
def cmpT (k:ByteArray) (t:Tab):Int:=Lib.compareBytes t.1.1.data.toList k.data.toList
def cmpW (k:Int) (y:Wrk):Int:=y.1 - k
theorem tcmp_ (k:ByteArray) (t:Tab) (cs:List Value) (h:eTab.rel w F cs t):Calls Tryz.prog 138 #[.agg cs.toArray,.string k] w fun e w'=>e=.returned (.int .i64 (cmpT k t))/\Below w.heap.size w w':=by
 obtain ⟨A,n,c,A2,n2,c2,rfl,h1,h2⟩:=qbo h
 clear h h1 h2
 unfold cmpT
 go_enter Tryz.func138,Tryz.ntmps138
 go_wp2_with (go_at_call 139;refine (cmpStr _ _ _).mono ?_;rintro e w' ⟨rfl,rfl⟩)
 go_ret
 exact ⟨rfl,(zb _ _).alloc (zl _) _⟩
theorem wcmp_ (k:Int) (y:Wrk) (cs:List Value) (h:eWrk.rel w F cs y) (hk:-4611686018427387904<=k/\k<=4611686018427387904) (hy:-1000<=y.1/\y.1<=1000):Calls Tryz.prog 72 #[.agg cs.toArray,.int .i64 k] w fun e w'=>e=.returned (.int .i64 (cmpW k y))/\Below w.heap.size w w':=by
 obtain ⟨A,n,c,A2,n2,c2,rfl,h1,h2⟩:=qdc h
 clear h h1 h2
 obtain ⟨s,y⟩:=y
 simp only at hy ⊢
 have e1:wrap64 (s - k)=s - k:=IntWalk.wrap64_in _ ⟨by omega,by omega⟩
 have e2:IntKind.i64.wrap (s - k)=s - k:=IntWalk.i64_in _ ⟨by omega,by omega⟩
 unfold cmpW
 simp only
 go_enter Tryz.func72,Tryz.ntmps72
 go_wp2
 go_ret
 exact ⟨by simp,(zb _ _).alloc (zl _) _⟩
theorem bsT_ {x:List Tab} (k:ByteArray) (h:Sl eTab w F A n c x) (hn:n<=1000) (ho:Mono (cmpT k) x):
  Calls Tryz.prog 137 #[.slice A n c,.string k,.func (.func 138) #[] #[]] w fun e w'=>e=.returned (.tuple #[.int .i64 (posG (cmpT k) x:Nat),.bool (isG (cmpT k) x)])/\Below w.heap.size w w':=by
 have HS:=zh h
 have HN:=zh h.len
 have HO:=zh ho
 have FC:=fun (r:Tab) (w:World) (cs:List Value) (h:eTab.rel w F cs r)=>tcmp_ k r cs h
 have FC:=zh FC
 clear h ho
 go_enter Tryz.func137,Tryz.ntmps137
 go_wp2_with fail
 go_loopw [9,10] (fun i j wr=>∃ l h:Nat,i=.int .i64 l/\j=.int .i64 h/\l<=h/\h<=n/\Below w.heap.size w wr/\Hid ((∀ t r,t<l->x[t]? = some r->cmpT k r<0)/\(∀ t r,h<=t->x[t]? = some r->0<=cmpT k r))) (fun i j _=>(intOf j).toNat - (intOf i).toNat)
 case atStart=>exact ⟨0,n,rfl,rfl,Nat.zero_le _,zl _,zb _ _,zh ⟨fun t r h=>absurd h (by omega),fun t r h hr=>by have:=(List.getElem?_eq_some_iff.1 hr).1;have:=HN.out;omega⟩⟩
 case round =>
  obtain ⟨l,h,rfl,rfl,hlh,hhn,hbw,HI⟩:=hrel
  rcases Nat.lt_or_ge l h with hlt|hge
  ·have hd:decide ((l:Int)<(h:Int))=true:=by simp;omega
   obtain ⟨m,hmi,hm1,hm2⟩:∃ m:Nat,Hid (((l:Int)+(h:Int)) / 2=(m:Int))/\l<=m/\m<h:=⟨(l+h) / 2,zh (by omega),by omega,by omega⟩
   have hmn:(m:Int)<(n:Int):=by omega
   obtain ⟨r,hx⟩:∃ r,x[m]? = some r:=⟨_,List.getElem?_eq_getElem (by rw [HN.out];omega)⟩
   obtain ⟨b,off,rfl,_,_,hb⟩:=HS.out.some_ (by omega)
   have hS:=HS.out.ext hbw
   obtain ⟨cs,hcs,hcell⟩:=hS.at_ hx
   obtain ⟨At,nt,ct,At2,nt2,ct2,rfl,_,_⟩:=qbo hcs
   simp only [show eTab.k=5 from rfl] at hcell
   have q0:=hcell 0 _ rfl
   have q1:=hcell 1 _ rfl
   have q2:=hcell 2 _ rfl
   have q3:=hcell 3 _ rfl
   have q4:=hcell 4 _ rfl
   simp only [Nat.add_zero] at q0
   have HX:=zh hx
   have HF:=zh (FC.out r _ _ hcs)
   obtain ⟨p,hp⟩:∃ p,decide (cmpT k r<0)=p:=⟨_,rfl⟩
   clear hx hcs hcell hS
   go_upto_region 5 with fail
   rw [hmi.out]
   go_wp2_with fail
   refine HF.out.mono ?_
   rintro e w1 ⟨rfl,hb1⟩
   have hbw2:=zt hbw (zm hb1 hbw.size)
   have HP:=zh hp
   clear HF q0 q1 q2 q3 q4
   cases p with
   | true =>
    have hp1:cmpT k r<0:=by simpa using HP.out
    have HP1:=zh hp1
    go_wp2
    go_roundw
    case rel =>
     refine ⟨m+1,h,by go_num,rfl,by omega,hhn,hbw2,zh ⟨fun t r' ht hr'=>?_,HI.out.2⟩⟩
     exact HO.out t m r' r (by omega) hr' HX.out HP1.out
    case measure=>simp [intOf];omega
   | false =>
    have hp1:0<=cmpT k r:=by simpa using HP.out
    have HP1:=zh hp1
    go_wp2
    go_roundw
    case rel =>
     refine ⟨l,m,rfl,rfl,by omega,by omega,hbw2,zh ⟨HI.out.1,fun t r' ht hr'=>?_⟩⟩
     exact Int.not_lt.1 fun hc=>absurd (HO.out m t r r' ht HX.out hr' hc) (Int.not_lt.2 HP1.out)
    case measure=>simp [intOf];omega
  ·have hd:decide ((l:Int)<(h:Int))=false:=by simp;omega
   have hlh':l=h:=by omega
   subst hlh'
   have hat:posG (cmpT k) x=l:=qha (by rw [HN.out];exact hhn) (fun i r hi hr=>HI.out.1 i r hi hr) (fun r hr=>Int.not_lt.2 (HI.out.2 l r (zl _) hr))
   have HA:=zh hat
   clear hat
   rcases Nat.lt_or_ge l n with hln|hln
   ·have hd2:decide ((l:Int)<(n:Int))=true:=by simp;omega
    have hd3:decide (l<n)=true:=by simp;omega
    have hmn:(l:Int)<(n:Int):=by omega
    obtain ⟨r,hx⟩:∃ r,x[l]? = some r:=⟨_,List.getElem?_eq_getElem (by rw [HN.out];omega)⟩
    obtain ⟨b,off,rfl,_,_,hb⟩:=HS.out.some_ (by omega)
    have hS:=HS.out.ext hbw
    obtain ⟨cs,hcs,hcell⟩:=hS.at_ hx
    obtain ⟨At,nt,ct,At2,nt2,ct2,rfl,_,_⟩:=qbo hcs
    simp only [show eTab.k=5 from rfl] at hcell
    have q0:=hcell 0 _ rfl
    have q1:=hcell 1 _ rfl
    have q2:=hcell 2 _ rfl
    have q3:=hcell 3 _ rfl
    have q4:=hcell 4 _ rfl
    simp only [Nat.add_zero] at q0
    have his:isG (cmpT k) x=(cmpT k r == 0):=by
     unfold isG
     rw [HA.out,hx]
    have HIS:=zh his
    have HF:=zh (FC.out r _ _ hcs)
    obtain ⟨p,hp⟩:∃ p,(cmpT k r == 0)=p:=⟨_,rfl⟩
    clear hx his hcs hcell hS
    go_wp2_with fail
    refine HF.out.mono ?_
    rintro e w1 ⟨rfl,hb1⟩
    have HP:=zh hp
    clear HF q0 q1 q2 q3 q4
    go_wp2
    exact bodyPost_ret (v:=.tuple #[.int .i64 (l:Int),.bool p]) (by simp [results,Tryz.results137,go_sem];try rfl) rfl ⟨by rw [HA.out,HIS.out,HP.out],zt hbw (zm hb1 hbw.size)⟩
   ·have hd2:decide ((l:Int)<(n:Int))=false:=by simp;omega
    have hd3:decide (l<n)=false:=by simp;omega
    have his:isG (cmpT k) x=false:=by
     unfold isG
     rw [HA.out,List.getElem?_eq_none (by rw [HN.out];exact hln)]
    have HIS:=zh his
    clear his
    go_wp2
    exact bodyPost_ret (v:=.tuple #[.int .i64 (l:Int),.bool false]) (by simp [results,Tryz.results137,go_sem];try rfl) rfl ⟨by rw [HA.out,HIS.out],hbw⟩
theorem bsW_ {x:List Wrk} (k:Int) (h:Sl eWrk w F A n c x) (hn:n<=1000) (ho:Mono (cmpW k) x) (hk:-4611686018427387904<=k/\k<=4611686018427387904) (hs:∀ y∈x,-1000<=y.1/\y.1<=1000):
  Calls Tryz.prog 71 #[.slice A n c,.int .i64 k,.func (.func 72) #[] #[]] w fun e w'=>e=.returned (.tuple #[.int .i64 (posG (cmpW k) x:Nat),.bool (isG (cmpW k) x)])/\Below w.heap.size w w':=by
 have HS:=zh h
 have HN:=zh h.len
 have HO:=zh ho
 have FC:=fun (r:Wrk) (w:World) (cs:List Value) (h:eWrk.rel w F cs r) (hr:r∈x)=>wcmp_ k r cs h hk (hs r hr)
 have FC:=zh FC
 clear h ho hk hs
 go_enter Tryz.func71,Tryz.ntmps71
 go_wp2_with fail
 go_loopw [9,10] (fun i j wr=>∃ l h:Nat,i=.int .i64 l/\j=.int .i64 h/\l<=h/\h<=n/\Below w.heap.size w wr/\Hid ((∀ t r,t<l->x[t]? = some r->cmpW k r<0)/\(∀ t r,h<=t->x[t]? = some r->0<=cmpW k r))) (fun i j _=>(intOf j).toNat - (intOf i).toNat)
 case atStart=>exact ⟨0,n,rfl,rfl,Nat.zero_le _,zl _,zb _ _,zh ⟨fun t r h=>absurd h (by omega),fun t r h hr=>by have:=(List.getElem?_eq_some_iff.1 hr).1;have:=HN.out;omega⟩⟩
 case round =>
  obtain ⟨l,h,rfl,rfl,hlh,hhn,hbw,HI⟩:=hrel
  rcases Nat.lt_or_ge l h with hlt|hge
  ·have hd:decide ((l:Int)<(h:Int))=true:=by simp;omega
   obtain ⟨m,hmi,hm1,hm2⟩:∃ m:Nat,Hid (((l:Int)+(h:Int)) / 2=(m:Int))/\l<=m/\m<h:=⟨(l+h) / 2,zh (by omega),by omega,by omega⟩
   have hmn:(m:Int)<(n:Int):=by omega
   obtain ⟨r,hx⟩:∃ r,x[m]? = some r:=⟨_,List.getElem?_eq_getElem (by rw [HN.out];omega)⟩
   obtain ⟨b,off,rfl,_,_,hb⟩:=HS.out.some_ (by omega)
   have hS:=HS.out.ext hbw
   obtain ⟨cs,hcs,hcell⟩:=hS.at_ hx
   obtain ⟨At,nt,ct,At2,nt2,ct2,rfl,_,_⟩:=qdc hcs
   simp only [show eWrk.k=3 from rfl] at hcell
   have q0:=hcell 0 _ rfl
   have q1:=hcell 1 _ rfl
   have q2:=hcell 2 _ rfl
   simp only [Nat.add_zero] at q0
   have HX:=zh hx
   have HF:=zh (FC.out r _ _ hcs (List.mem_of_getElem? HX.out))
   obtain ⟨p,hp⟩:∃ p,decide (cmpW k r<0)=p:=⟨_,rfl⟩
   clear hx hcs hcell hS
   go_upto_region 5 with fail
   rw [hmi.out]
   go_wp2_with fail
   refine HF.out.mono ?_
   rintro e w1 ⟨rfl,hb1⟩
   have hbw2:=zt hbw (zm hb1 hbw.size)
   have HP:=zh hp
   clear HF q0 q1 q2
   cases p with
   | true =>
    have hp1:cmpW k r<0:=by simpa using HP.out
    have HP1:=zh hp1
    go_wp2
    go_roundw
    case rel =>
     refine ⟨m+1,h,by go_num,rfl,by omega,hhn,hbw2,zh ⟨fun t r' ht hr'=>?_,HI.out.2⟩⟩
     exact HO.out t m r' r (by omega) hr' HX.out HP1.out
    case measure=>simp [intOf];omega
   | false =>
    have hp1:0<=cmpW k r:=by simpa using HP.out
    have HP1:=zh hp1
    go_wp2
    go_roundw
    case rel =>
     refine ⟨l,m,rfl,rfl,by omega,by omega,hbw2,zh ⟨HI.out.1,fun t r' ht hr'=>?_⟩⟩
     exact Int.not_lt.1 fun hc=>absurd (HO.out m t r r' ht HX.out hr' hc) (Int.not_lt.2 HP1.out)
    case measure=>simp [intOf];omega
  ·have hd:decide ((l:Int)<(h:Int))=false:=by simp;omega
   have hlh':l=h:=by omega
   subst hlh'
   have hat:posG (cmpW k) x=l:=qha (by rw [HN.out];exact hhn) (fun i r hi hr=>HI.out.1 i r hi hr) (fun r hr=>Int.not_lt.2 (HI.out.2 l r (zl _) hr))
   have HA:=zh hat
   clear hat
   rcases Nat.lt_or_ge l n with hln|hln
   ·have hd2:decide ((l:Int)<(n:Int))=true:=by simp;omega
    have hd3:decide (l<n)=true:=by simp;omega
    have hmn:(l:Int)<(n:Int):=by omega
    obtain ⟨r,hx⟩:∃ r,x[l]? = some r:=⟨_,List.getElem?_eq_getElem (by rw [HN.out];omega)⟩
    obtain ⟨b,off,rfl,_,_,hb⟩:=HS.out.some_ (by omega)
    have hS:=HS.out.ext hbw
    obtain ⟨cs,hcs,hcell⟩:=hS.at_ hx
    obtain ⟨At,nt,ct,At2,nt2,ct2,rfl,_,_⟩:=qdc hcs
    simp only [show eWrk.k=3 from rfl] at hcell
    have q0:=hcell 0 _ rfl
    have q1:=hcell 1 _ rfl
    have q2:=hcell 2 _ rfl
    simp only [Nat.add_zero] at q0
    have his:isG (cmpW k) x=(cmpW k r == 0):=by
     unfold isG
     rw [HA.out,hx]
    have HIS:=zh his
    have HF:=zh (FC.out r _ _ hcs (List.mem_of_getElem? hx))
    obtain ⟨p,hp⟩:∃ p,(cmpW k r == 0)=p:=⟨_,rfl⟩
    clear hx his hcs hcell hS
    go_wp2_with fail
    refine HF.out.mono ?_
    rintro e w1 ⟨rfl,hb1⟩
    have HP:=zh hp
    clear HF q0 q1 q2
    go_wp2
    exact bodyPost_ret (v:=.tuple #[.int .i64 (l:Int),.bool p]) (by simp [results,Tryz.results71,go_sem];try rfl) rfl ⟨by rw [HA.out,HIS.out,HP.out],zt hbw (zm hb1 hbw.size)⟩
   ·have hd2:decide ((l:Int)<(n:Int))=false:=by simp;omega
    have hd3:decide (l<n)=false:=by simp;omega
    have his:isG (cmpW k) x=false:=by
     unfold isG
     rw [HA.out,List.getElem?_eq_none (by rw [HN.out];exact hln)]
    have HIS:=zh his
    clear his
    go_wp2
    exact bodyPost_ret (v:=.tuple #[.int .i64 (l:Int),.bool false]) (by simp [results,Tryz.results71,go_sem];try rfl) rfl ⟨by rw [HA.out,HIS.out],hbw⟩
end Go.Proofs.YtdjbpcnhnkemiaaGreat.tp
namespace Go.Proofs.YtdjbpcnhnkemiaaGreat.tp
open Go.ChangeShapes Go.WideShapes Go.ChangeAt Go.RowKit Go.Proofs.YtdjbpcnhnkemiaaGreat.lib
variable {w w':World}
variable {n c g B b off i j k m n2 n3 c2 c3 c4 c5 c6 gs gn np lo gr gd id b2 off2:Nat}
variable {A A2 A3 A4 A5 A6:Option Addr}
variable {cs:List Value}
variable {l r:List UInt8}
variable {rs:List (List UInt8)}
variable {s o e:Int}
variable {nm:ByteArray}
variable {F G:qab}
variable {x:DBd}
abbrev Cl (k:Nat):={ cs:List Value // cs.length=k/\∀ u∈cs,u.oneCell'=true }
def encZ {k:Nat} (x:Cl k):List Value:=x.1
theorem kZ (x:Cl k):(encZ x).length=k:=x.2.1
theorem oneZ (x:Cl k):∀ u∈encZ x,u.oneCell'=true:=x.2.2
theorem oneZs (l:List (Cl k)):∀ u∈qal encZ l,u.oneCell'=true:=qjt encZ (p:=fun u=>u.oneCell'=true) oneZ l
theorem lenZ (l:List (Cl k)):(qal encZ l).length=l.length * k:=qgx encZ k kZ l
theorem qcb {base:Nat} {e:TypeId} {xs:List Value} (h:w.ownsRow base e k (.slice A n c) n xs) (hn:0<n):∃ g,A=some ⟨g,0,none⟩/\base<=g/\g<w.heap.size:=by
 have h0:=h
 rcases h.2 with ⟨h',_⟩|⟨g,cap,cur,h',hb,_⟩
 ·simp at h';omega
 ·simp only [Value.slice.injEq] at h'
  obtain ⟨rfl,_,_⟩:=h'
  exact ⟨g,rfl,h0.lt g rfl⟩
theorem as_cl:∀ (css:List (List Value)),(∀ z∈css,z.length=k)->(∀ u∈css.flatten,u.oneCell'=true)->∃ ws:List (Cl k),ws.map encZ=css
 | [],_,_=>⟨[],rfl⟩
 | z::css,h1,h2=>by
  obtain ⟨ws,hw⟩:=as_cl css (fun y hy=>h1 y (List.mem_cons_of_mem _ hy)) (fun u hu=>h2 u (by rw [List.flatten_cons];exact List.mem_append_right _ hu))
  exact ⟨⟨z,h1 z (List.mem_cons_self ..),fun u hu=>h2 u (by rw [List.flatten_cons];exact List.mem_append_left _ hu)⟩::ws,by rw [List.map_cons,hw];rfl⟩
theorem qfx (ws:List (Cl k)):qal encZ ws=(ws.map encZ).flatten:=List.flatMap_def ..
theorem qpr (ws:List (Cl 5)) (t:Cl 5) (B:Nat) (A:Option Addr) (n c gv:Nat) (w:World) (hO:w.ownsRow B 120 5 (.slice A n c) n (qal encZ ws)) (hw:ws.length=n) (hv:Blk w gv 120 (encZ t).toArray) (hB:B<=w.heap.size) (hn:n<=10000):
  Calls Tryz.prog 66 #[.slice A n c,.int .i64 n,.slice (some ⟨gv,0,none⟩) 1 1] w fun e w'=>∃ A' c',e=.returned (.slice A' (n+1) c')/\w'.ownsRow B 120 5 (.slice A' (n+1) c') (n+1) (qal encZ (ws++[t]))/\w.grownBy w' (Value.slice A n c).ownBlock:=by
 obtain ⟨i0,hi0,hy0,hy1,hy2⟩:=ip Tryz.prog 120 (.agg #[.string ⟨#[]⟩,.slice none 0 0,.int .i64 0,.bool false,.slice none 0 0]) 5 80
 have HO:=zh hO
 have hnc:=(Row.of_own hO).le_
 have hsrc:∀ j u,(encZ t)[j]? = some u->w.cell? ((⟨gv,0,none⟩:Addr).add j)=some u:=(Row.of_blk hv (Nat.zero_le _) 1 1 (zl _)).src
 have hA:A=none\/∃ g,A=some ⟨g,0,none⟩:=by
  rcases hO.2 with ⟨h,_⟩|⟨g,cap,cur,h,_⟩
  ·injection h with h;exact .inl h
  ·injection h with h;exact .inr ⟨g,h⟩
 clear hO hw
 rcases hA with rfl|⟨g,rfl⟩
 ·have hn0:n=0/\c=0:=by
   rcases Row.of_own HO.out with h|⟨_,h,_⟩|⟨_,_,h,_⟩
   ·exact ⟨h.2.1,h.2.2.1⟩
   ·cases h
   ·cases h
  obtain ⟨rfl,rfl⟩:=hn0
  go_enter Tryz.func66,Tryz.ntmps66
  have hd0:(((0:Nat):Int) == ((0:Nat):Int))=true:=by simp
  have hle:=HO.out.1
  go_wp2_with (at_builtin;(refine wpList_append_own _ rfl (.tmp 23) (.tmp 24) 25 rfl B 120 i0 _ 5 80 Tryz.underlying25 hi0 hy0 hy1 hy2 rfl (by decide) _ 0 _ rfl HO.out ⟨gv,0,none⟩ 1 1 (encZ t) rfl ?a1 ?a2 ?a3 ?a4 ?a5 ?a6 ?_))
  all_goals try (case a1=>exact (kZ t).trans (by simp))
  all_goals try (case a2=>exact hsrc)
  all_goals try (case a3=>exact oneZ t)
  all_goals try (case a4=>unfold maxLen;omega)
  all_goals try (case a5=>omega)
  all_goals try (case a6=>exact hB)
  intro v' wa hown hgrow _
  obtain ⟨A',c',rfl⟩:=qan hown
  have HA:=zh hown
  have HG:=zh hgrow
  clear hown hgrow
  go_wp2
  go_ret
  exact ⟨A',c',rfl,by rw [qbl,qen];simpa using HA.out,HG.out⟩
 ·by_cases hcn:c=n
  ·subst hcn
   go_enter Tryz.func66,Tryz.ntmps66
   have hd0:((c:Int) == (c:Int))=true:=by simp
   have hle:=HO.out.1
   go_wp2_with (at_builtin;(refine wpList_append_own _ rfl (.tmp 23) (.tmp 24) 25 rfl B 120 i0 _ 5 80 Tryz.underlying25 hi0 hy0 hy1 hy2 rfl (by decide) _ c _ rfl HO.out ⟨gv,0,none⟩ 1 1 (encZ t) rfl ?a1 ?a2 ?a3 ?a4 ?a5 ?a6 ?_))
   all_goals try (case a1=>exact (kZ t).trans (by simp))
   all_goals try (case a2=>exact hsrc)
   all_goals try (case a3=>exact oneZ t)
   all_goals try (case a4=>unfold maxLen;omega)
   all_goals try (case a5=>omega)
   all_goals try (case a6=>exact hB)
   intro v' wa hown hgrow _
   obtain ⟨A',c',rfl⟩:=qan hown
   have HA:=zh hown
   have HG:=zh hgrow
   clear hown hgrow
   go_wp2
   go_ret
   exact ⟨A',c',rfl,by rw [qbl,qen];simpa using HA.out,HG.out⟩
  ·go_enter Tryz.func66,Tryz.ntmps66
   have hd0:((n:Int) == (n:Int))=true:=by simp
   have hle:=HO.out.1
   go_wp2_with (at_builtin;(refine wpList_append_own _ rfl (.tmp 23) (.tmp 24) 25 rfl B 120 i0 _ 5 80 Tryz.underlying25 hi0 hy0 hy1 hy2 rfl (by decide) _ n _ rfl HO.out ⟨gv,0,none⟩ 1 1 (encZ t) rfl ?a1 ?a2 ?a3 ?a4 ?a5 ?a6 ?_))
   all_goals try (case a1=>exact (kZ t).trans (by simp))
   all_goals try (case a2=>exact hsrc)
   all_goals try (case a3=>exact oneZ t)
   all_goals try (case a4=>unfold maxLen;omega)
   all_goals try (case a5=>omega)
   all_goals try (case a6=>exact hB)
   intro v' wa hown hgrow _
   obtain ⟨A',c',rfl⟩:=qan hown
   have HA:=zh hown
   have HG:=zh hgrow
   clear hown hgrow
   go_wp2
   go_ret
   exact ⟨A',c',rfl,by rw [qbl,qen];simpa using HA.out,HG.out⟩
theorem qpe (ws:List (Cl 5)) (t:Cl 5) (B:Nat) (g n c i gv:Nat) (w:World) (hO:w.ownsRow B 120 5 (.slice (some ⟨g,0,none⟩) n c) n (qal encZ ws)) (hw:ws.length=n) (hv:Blk w gv 120 (encZ t).toArray) (hne:gv≠g) (hi:i<n) (hc:n+1<=c) (hn:n<=10000):
  Calls Tryz.prog 66 #[.slice (some ⟨g,0,none⟩) n c,.int .i64 i,.slice (some ⟨gv,0,none⟩) 1 1] w fun e w'=>∃ A' c',e=.returned (.slice A' (n+1) c')/\w'.ownsRow B 120 5 (.slice A' (n+1) c') (n+1) (qal encZ (ws.take i++t::ws.drop i))/\w.grownBy w' (some g):=by
 obtain ⟨i0,hi0,hy0,hy1,hy2⟩:=ip Tryz.prog 120 (.agg #[.string ⟨#[]⟩,.slice none 0 0,.int .i64 0,.bool false,.slice none 0 0]) 5 80
 obtain ⟨cur,hcur,hcs,hnc,hcm,hBg,hcells⟩:=qfr hO
 unfold maxLen at hcm
 have hov:∀ lb cb',(callFunc 140 #[.slice (some ⟨gv,0,none⟩) 1 1,.slice (some ⟨g,(i+1) * 5,none⟩) lb cb']).run Tryz.prog w=.ok (.value (.bool false)) w:=fun lb cb'=>by
  rw [run_callFunc_extern Tryz.func140 (by kernel_rfl) (by kernel_rfl) (by kernel_rfl) (e:=Extern.SlicesOverlaps.overlaps #[25,25] #[4]) (by kernel_rfl),
   Lib.run_overlaps_apart w 25 4 120 Tryz.underlying25 5 (fun w=>by simp [sizeOf,typeInfo,hi0,hy1]) ⟨gv,0,none⟩ ⟨g,(i+1) * 5,none⟩ 1 1 lb cb' hne 120 120 5 (c * 5) (by unfold World.shape?;rw [show w.heap[gv]? = some (.cells (encZ t).toArray 120 (0,0)) from hv];simp only [List.size_toArray,kZ]) (by unfold World.shape?;rw [show w.heap[g]? = some (.cells cur 120 (0,0)) from hcur];simp only [hcs]) (by omega) (hv.frozen 0) (hv.frozen 5)]
  rfl
 have hd1:((i:Int) == (n:Int))=false:=by rw [beq_eq_false_iff_ne];omega
 have hd1n:(i == n)=false:=by rw [beq_eq_false_iff_ne];omega
 have hd1e:((i:Int)=(n:Int))=False:=by rw [eq_iff_iff,iff_false];omega
 have hw1:IntKind.i64.wrap ((i:Int)+1)=(i:Int)+1:=IntWalk.i64_in _ ⟨by omega,by omega⟩
 have hb1:(0:Int)<=(i:Int)+1:=by omega
 have htn:((i:Int)+1).toNat=i+1:=by omega
 have hb2:¬(c=i+1):=by omega
 have hb3:(i:Int)<=(n:Int)+1:=by omega
 have hb5:(i:Int)+1<=(n:Int)+1:=by omega
 have hb6:i+1<=n+1:=by omega
 have hb4:¬(c=i):=by omega
 go_enter Tryz.func66,Tryz.ntmps66
 go_upto_region 15 with fail
 refine r2 (S:=fun _=>True) [(0,true),(1,true),(2,true),(3,true),(4,true),(5,true),(6,true),(7,true),(8,false)] trivial ?_
 repeat ((first|refine pT ?_|refine pF ?_);try go_frame)
 refine qaj rfl (qae rfl) (fun K hK=>?_)
 obtain ⟨X,hXd⟩:∃ X,qal encZ ws=X:=⟨_,rfl⟩
 rw [hXd] at hcells
 have hXl:X.length=n * 5:=by rw [<-hXd,lenZ,hw]
 have hdl:(X.drop (i * 5)).length=(n - i) * 5:=by rw [List.length_drop,hXl,Nat.sub_mul]
 have hsome:∀ j,j<c * 5->(w.cell? ⟨g,j,none⟩).isSome=true:=fun j hj=>by rw [hcur.cell j,Array.getElem?_eq_getElem (by rw [hcs];exact hj)];rfl
 have hfz:∀ j,w.frozen? ⟨g,j,none⟩=false:=fun j=>hcur.frozen j
 have hmin:Nat.min (n+1 - i) (n - i)=n - i:=by simp only [Nat.min_def];split <;> omega
 have hcw:∀ a,w.drew.cell? a=w.cell? a:=fun _=>rfl
 have hfw:∀ a,w.drew.frozen? a=w.frozen? a:=fun _=>rfl
 refine qeb (.tmp 73) (.tmp 76) 25 rfl 120 i0 5 Tryz.underlying25 hi0 hy1 g _ _ _ ⟨g,i * 5,none⟩ _ _ rfl rfl (X.drop (i * 5)) ?_ ?_ ?_ ?_ ?_ ?_
 ·rw [hmin];exact hdl
 ·intro j v hj
  rw [List.getElem?_drop] at hj
  rw [Addr.add_lit,hcw]
  exact hcells _ _ hj
 ·intro j hj
  rw [hcw]
  exact hsome _ (by omega)
 ·intro j hj
  exact hfz _
 ·intro v hv
  exact oneZs ws v (by rw [hXd];exact List.mem_of_mem_drop hv)
 obtain ⟨cur1,hcur1,hcs1,hgr1⟩:=Blk.setCells (X.drop (i * 5)) ((i+1) * 5) (show Blk w.drew g 120 cur from hcur)
 obtain ⟨W1,hW1⟩:∃ W1,w.drew.setCells g ((i+1) * 5) (X.drop (i * 5))=W1:=⟨_,rfl⟩
 rw [hW1] at hcur1 hgr1 ⊢
 have hgr1:w.grownBy W1 (some g):=⟨hgr1.os,hgr1.tape,hgr1.output,hgr1.size,hgr1.block⟩
 have hv1:Blk W1 gv 120 (encZ t).toArray:=hv.grown (show w.grownBy W1 (some g) from hgr1) (by simpa using hne)
 have HW1:=zh hW1
 clear hW1
 refine hK.out _ _ trivial ?_
 clear hK K
 refine qad ?_
 go_wp2_with (with_reducible show wpList _ _ _ (Oper.mk (some 82) _ _ _ _ _::_) _ _;(refine qcx rfl (.tmp 80) (.tmp 81) 25 rfl 120 i0 5 Tryz.underlying25 hi0 hy1 g _ _ _ ⟨gv,0,none⟩ _ _ rfl rfl (encZ t) ?b1 ?b2 ?b3 ?b4 ?b5 ?_))
 case b1=>rw [show Nat.min 1 (n+1 - i)=1 by simp only [Nat.min_def];split <;> omega];exact (kZ t).trans (by simp)
 case b2=>exact (Row.of_blk hv1 (Nat.zero_le _) 1 1 (zl _)).src
 case b3 =>
  intro j hj
  have hj7:j<5:=by have:=kZ t;omega
  rw [hcur1.cell (i * 5+j),Array.getElem?_eq_getElem (by rw [hcs1,hcs];omega)]
  rfl
 case b4=>exact fun j hj=>hcur1.frozen _
 case b5=>exact oneZ t
 obtain ⟨cur2,hcur2,hcs2,hgr2⟩:=Blk.setCells (encZ t) (i * 5) hcur1
 have hins:=qnk (w:=w.drew) (g:=g) X (encZ t) (i * 5) (by omega) (fun j u hj=>hcells j u hj) (fun j hj=>by
  have h7:(encZ t).length=5:=kZ t
  rw [hcw]
  exact hsome _ (by omega))
 rw [show i * 5+(encZ t).length=(i+1) * 5 by rw [show (encZ t).length=5 from kZ t];omega,HW1.out] at hins
 have hxs:qal encZ (ws.take i++t::ws.drop i)=X.take (i * 5)++(encZ t++X.drop (i * 5)):=by
  rw [<-hXd,qbl,qdz encZ 5 kZ,qdx encZ 5 kZ]
  rfl
 have hOwn:=qds (size:=5) (n:=n+1) (c:=c) (B:=B) hBg hcur2 (by rw [hcs2,hcs1,hcs]) hc (by unfold maxLen;omega) (xs:=qal encZ (ws.take i++t::ws.drop i)) (by rw [lenZ];simp;omega) (by rw [hxs];exact hins)
 have HOwn:=zh hOwn
 have hgr:=qah hgr1 hgr2
 clear hOwn hins hxs
 go_ret
 exact ⟨_,c,rfl,HOwn.out,hgr⟩
theorem qny (ws:List (Cl 5)) (t:Cl 5) (B:Nat) (g n c i gv:Nat) (w:World) (hO:w.ownsRow B 120 5 (.slice (some ⟨g,0,none⟩) n c) n (qal encZ ws)) (hw:ws.length=n) (hv:Blk w gv 120 (encZ t).toArray) (hi:i<n) (hc:c<n+1) (hn:n<=10000) (hB:B<=w.heap.size):
  Calls Tryz.prog 66 #[.slice (some ⟨g,0,none⟩) n c,.int .i64 i,.slice (some ⟨gv,0,none⟩) 1 1] w fun e w'=>∃ A' c',e=.returned (.slice A' (n+1) c')/\w'.ownsRow B 120 5 (.slice A' (n+1) c') (n+1) (qal encZ (ws.take i++t::ws.drop i))/\w.grownBy w' (some g):=by
 obtain ⟨i0,hi0,hy0,hy1,hy2⟩:=ip Tryz.prog 120 (.agg #[.string ⟨#[]⟩,.slice none 0 0,.int .i64 0,.bool false,.slice none 0 0]) 5 80
 obtain ⟨cur,hcur,hcs,hnc,hcm,hBg,hcells⟩:=qfr hO
 obtain rfl:n=c:=by omega
 obtain ⟨X,hXd⟩:∃ X,qal encZ ws=X:=⟨_,rfl⟩
 rw [hXd] at hcells
 have hXl:X.length=n * 5:=by rw [<-hXd,lenZ,hw]
 have htl:(X.take (i * 5)).length=i * 5:=by rw [List.length_take,hXl];omega
 have hdl:(X.drop (i * 5)).length=(n - i) * 5:=by rw [List.length_drop,hXl,Nat.sub_mul]
 have hsub:(n:Int)+1 - (i:Int)=((n+1 - i:Nat):Int):=by omega
 obtain ⟨gc,hgc⟩:∃ gc,grownCap w (n+1) n 120=gc:=⟨_,rfl⟩
 have hgc1:n+1<=gc:=by rw [<-hgc];exact grownCap_ge w (n+1) n 120
 have hgc2:gc<=maxLen:=by rw [<-hgc];exact grownCap_le_maxLen w (n+1) n 120 (by unfold maxLen;omega)
 obtain ⟨Z,hZ,hZs⟩:∃ Z:Value,i0.zero=some Z/\Z.cells.size=5:=⟨_,hy0,rfl⟩
 obtain ⟨CS,hCS⟩:∃ CS,((X.take (i * 5)).toArray++Builtin.zeroCells Z.cells (n+1 - i)++Builtin.zeroCells Z.cells (gc - (n+1)))=CS:=⟨_,rfl⟩
 have hCSl:CS.size=gc * 5:=by
  rw [<-hCS,Array.size_append,Array.size_append,size_zeroCells,size_zeroCells,List.size_toArray,htl,hZs]
  omega
 have hCSx:∀ (j:Nat) u,(X.take (i * 5))[j]? = some u->CS[j]? = some u:=fun j u hu=>by
  have hj:=(List.getElem?_eq_some_iff.1 hu).1
  rw [<-hCS,Array.getElem?_append,if_pos (by simp;omega),Array.getElem?_append,if_pos (by simpa using hj)]
  simpa using hu
 have hrun:∀ ty,(Builtin.append_ #[25,3] ty #[.slice (some ⟨g,0,none⟩) i n,.int .i64 ((n+1 - i:Nat):Int)]).run Tryz.prog w=.ok (.slice (some ⟨w.heap.size,0,none⟩) (n+1) gc) (w.drew.alloc (.cells CS 120)):=fun ty=>by
  have h:=qgh (P:=Tryz.prog) w 25 3 ty 120 i0 _ .i64 .i64 Tryz.underlying25 Tryz.underlying3 hi0 hZ ⟨g,0,none⟩ i n (X.take (i * 5)) (by rw [htl,hy1]) (fun j v hj=>by
   rw [Addr.add_lit,Nat.zero_add]
   have hj2:=(List.getElem?_eq_some_iff.1 hj).1
   rw [List.getElem?_take,if_pos (by omega)] at hj
   exact hcells j v hj) (n+1 - i) (by omega) (by omega) (by omega) (by omega) (by rw [hy2];omega) (by rw [hy2];exact growslice_fits (by omega) (by omega))
  rw [show i+(n+1 - i)=n+1 by omega,hgc,hCS] at h
  exact h
 have hd1:((i:Int) == (n:Int))=false:=by rw [beq_eq_false_iff_ne];omega
 have hd1n:(i == n)=false:=by rw [beq_eq_false_iff_ne];omega
 have hd1e:((i:Int)=(n:Int))=False:=by rw [eq_iff_iff,iff_false];omega
 have hw0:IntKind.i64.wrap ((n:Int)+1)=(n:Int)+1:=IntWalk.i64_in _ ⟨by omega,by omega⟩
 have hw2:IntKind.i64.wrap ((n:Int)+1 - (i:Int))=(n:Int)+1 - (i:Int):=IntWalk.i64_in _ ⟨by omega,by omega⟩
 have hw1:IntKind.i64.wrap ((i:Int)+1)=(i:Int)+1:=IntWalk.i64_in _ ⟨by omega,by omega⟩
 have hb0:(i:Int)<=(n:Int):=by omega
 have hb1:(0:Int)<=(i:Int)+1:=by omega
 have htn:((i:Int)+1).toNat=i+1:=by omega
 have hb2:¬(gc=i+1):=by omega
 have hb3:(i:Int)<=(n:Int)+1:=by omega
 have hb5:(i:Int)+1<=(n:Int)+1:=by omega
 have hb6:i+1<=n+1:=by omega
 have hb4:¬(gc=i):=by omega
 have hb7:¬(n=i):=by omega
 go_enter Tryz.func66,Tryz.ntmps66
 go_upto_region 10 with (at_builtin;(refine Lib.wpList_append_run _ rfl _ _ _ _ rfl _ _ rfl rfl _ _ (hrun _) ?_))
 obtain ⟨W1,hW1⟩:∃ W1,(w.alloc (.cells CS 120)).drew=W1:=⟨_,rfl⟩
 obtain ⟨gn,hgn⟩:∃ gn,w.heap.size=gn:=⟨_,rfl⟩
 have hbW1:Below w.heap.size w W1:=by rw [<-hW1];exact ((zb _ _).alloc (zl _) _).drew
 have B1:Blk W1 gn 120 CS:=by rw [<-hW1,<-hgn];exact Blk.new _ _ _
 have hv1:=hv.ext hbW1
 have hbW1:Below gn w W1:=hgn ▸ hbW1
 have hgw:g<gn:=by rw [<-hgn];exact (Array.getElem?_eq_some_iff.1 hcur).1
 have hgvw:gv<gn:=by rw [<-hgn];exact (Array.getElem?_eq_some_iff.1 hv).1
 have hcells1:∀ (j:Nat) u,X[j]? = some u->W1.cell? ⟨g,j,none⟩=some u:=fun j u hu=>(World.cell?_of_block (hbW1.block g hgw)).trans (hcells j u hu)
 rw [hW1,hgn]
 clear hW1
 go_wp2_with (with_reducible show wpList _ _ _ (Oper.mk (some 45) _ _ _ _ _::_) _ _;(refine qcx rfl (.tmp 43) (.tmp 44) 25 rfl 120 i0 5 Tryz.underlying25 hi0 hy1 gn _ _ _ ⟨gv,0,none⟩ _ _ rfl rfl (encZ t) ?b1 ?b2 ?b3 ?b4 ?b5 ?_))
 case b1=>rw [show Nat.min 1 (n+1 - i)=1 by simp only [Nat.min_def];split <;> omega];exact (kZ t).trans (by simp)
 case b2=>exact (Row.of_blk hv1 (Nat.zero_le _) 1 1 (zl _)).src
 case b3 =>
  intro j hj
  have hj7:j<5:=by have:=kZ t;omega
  rw [B1.cell (i * 5+j),Array.getElem?_eq_getElem (by rw [hCSl];omega)]
  rfl
 case b4=>exact fun j hj=>B1.frozen _
 case b5=>exact oneZ t
 obtain ⟨cur2,hcur2,hcs2,hgr2⟩:=Blk.setCells (encZ t) (i * 5) B1
 obtain ⟨W2,hW2⟩:∃ W2,W1.setCells gn (i * 5) (encZ t)=W2:=⟨_,rfl⟩
 rw [hW2] at hcur2 hgr2 ⊢
 have HW2:=zh hW2
 have hcells2:∀ (j:Nat) u,X[j]? = some u->W2.cell? ⟨g,j,none⟩=some u:=fun j u hu=>by
  rw [<-hW2,World.cell?_setCells_out _ _ _ _ _ (fun h _=>absurd h (by show g≠gn;omega))]
  exact hcells1 j u hu
 clear hW2
 simp only [Act.put,List.setIfInBounds_toArray,List.set_cons_zero,List.set_cons_succ]
 refine r2 (S:=fun _=>True) [(0,true),(1,true),(2,true),(3,true),(4,true),(5,true),(6,true),(7,true),(8,false)] trivial ?_
 repeat ((first|refine pT ?_|refine pF ?_);try go_frame)
 refine qaj rfl (qae rfl) (fun K hK=>?_)
 refine qeb (.tmp 50) (.tmp 53) 25 rfl 120 i0 5 Tryz.underlying25 hi0 hy1 gn _ _ _ ⟨g,i * 5,none⟩ _ _ rfl rfl (X.drop (i * 5)) ?_ ?_ ?_ ?_ ?_ ?_
 ·rw [show Nat.min (n - i) (n - i)=n - i by simp];exact hdl
 ·intro j v hj
  rw [List.getElem?_drop] at hj
  rw [Addr.add_lit]
  exact hcells2 _ _ hj
 ·intro j hj
  show (W2.cell? _).isSome=true
  rw [hcur2.cell _,Array.getElem?_eq_getElem (by rw [hcs2,hCSl];omega)]
  rfl
 ·intro j hj
  exact hcur2.frozen _
 ·intro v hv
  exact oneZs ws v (by rw [hXd];exact List.mem_of_mem_drop hv)
 obtain ⟨cur3,hcur3,hcs3,hgr3⟩:=Blk.setCells (X.drop (i * 5)) ((i+1) * 5) (show Blk W2.drew gn 120 cur2 from hcur2)
 have hins:=qmc (w:=W1) (v:=W2.drew) (g:=gn) X (encZ t) (i * 5) (by omega) (fun j u hu=>by rw [B1.cell j];exact hCSx j u hu) (fun j hj=>by
  have h7:(encZ t).length=5:=kZ t
  rw [B1.cell j,Array.getElem?_eq_getElem (by rw [hCSl];omega)]
  rfl) (fun a=>by rw [HW2.out];rfl)
 rw [show i * 5+(encZ t).length=(i+1) * 5 by rw [show (encZ t).length=5 from kZ t];omega] at hins
 have hxs:qal encZ (ws.take i++t::ws.drop i)=X.take (i * 5)++(encZ t++X.drop (i * 5)):=by
  rw [<-hXd,qbl,qdz encZ 5 kZ,qdx encZ 5 kZ]
  rfl
 have hOwn:=qds (size:=5) (n:=n+1) (c:=gc) (B:=B) (by rw [<-hgn];exact hB) hcur3 (by rw [hcs3,hcs2,hCSl]) hgc1 hgc2 (xs:=qal encZ (ws.take i++t::ws.drop i)) (by rw [lenZ];simp;omega) (by rw [hxs];exact hins)
 have HOwn:=zh hOwn
 have hgr3:W2.grownBy (W2.drew.setCells gn ((i+1) * 5) (X.drop (i * 5))) (some gn):=⟨hgr3.os,hgr3.tape,hgr3.output,hgr3.size,hgr3.block⟩
 have hs1:gn<=W1.heap.size:=by rw [<-hgn];exact hbW1.size
 have hfin:=(hbW1.grown hgr2 hs1 (fun b hb=>by injection hb with hb;omega)).grown hgr3 (Nat.le_trans hs1 hgr2.size) (fun b hb=>by injection hb with hb;omega)
 have hG:w.grownBy (W2.drew.setCells gn ((i+1) * 5) (X.drop (i * 5))) (some g):=qcw (by rw [hgn];exact hfin) _
 clear hOwn hins hxs
 refine hK.out _ _ trivial ?_
 clear hK K
 refine qad ?_
 go_wp2
 go_ret
 exact ⟨_,gc,rfl,HOwn.out,hG⟩
theorem insert_T (ws:List (Cl 5)) (t:Cl 5) (B:Nat) (A:Option Addr) (n c i gv:Nat) (w:World) (hO:w.ownsRow B 120 5 (.slice A n c) n (qal encZ ws)) (hw:ws.length=n) (hv:Blk w gv 120 (encZ t).toArray) (hne:∀ g,A=some ⟨g,0,none⟩->gv≠g) (hi:i<=n) (hn:n<=10000) (hB:B<=w.heap.size):
  Calls Tryz.prog 66 #[.slice A n c,.int .i64 i,.slice (some ⟨gv,0,none⟩) 1 1] w fun e w'=>∃ A' c',e=.returned (.slice A' (n+1) c')/\w'.ownsRow B 120 5 (.slice A' (n+1) c') (n+1) (qal encZ (ws.take i++t::ws.drop i))/\w.grownBy w' (Value.slice A n c).ownBlock:=by
 by_cases h:i=n
 ·subst h
  rw [List.take_of_length_le (Nat.le_of_eq hw),List.drop_of_length_le (Nat.le_of_eq hw)]
  exact qpr ws t B A i c gv w hO hw hv hB hn
 ·obtain ⟨g,rfl,_,_⟩:=qcb hO (by omega)
  by_cases hc:n+1<=c
  ·exact qpe ws t B g n c i gv w hO hw hv (hne g rfl) (by omega) hc hn
  ·exact qny ws t B g n c i gv w hO hw hv (by omega) (by omega) hn hB
theorem insT {gv:Nat} {x:List Tab} {t:Tab} (hO:OwnE eTab 120 w B F A n c x) (ht:eTab.rel w F cs t) (hv:Blk w gv 120 cs.toArray) (hF:∀ g,A=some ⟨g,0,none⟩->gv≠g/\¬F g) (hi:i<=n) (hn:n<=1000) (hB:B<=w.heap.size):
  Calls Tryz.prog 66 #[.slice A n c,.int .i64 i,.slice (some ⟨gv,0,none⟩) 1 1] w fun e w'=>∃ A' c',e=.returned (.slice A' (n+1) c')/\OwnE eTab 120 w' B F A' (n+1) c' (x.take i++t::x.drop i)/\w.grownBy w' (Value.slice A n c).ownBlock:=by
 obtain ⟨css,h1,h2,h3⟩:=hO
 obtain ⟨ws,hws⟩:=as_cl (k:=5) css (fun z hz=>h2.klen z hz) h2.ones
 have hfl:qal encZ ws=css.flatten:=by rw [qfx,hws]
 have hwl:ws.length=n:=by rw [<-h3,<-h2.1,<-hws,List.length_map]
 refine (insert_T ws ⟨cs,eTab.len ht,eTab.one ht⟩ B A n c i gv w (by rw [hfl];exact h1) hwl hv (fun g hg=>(hF g hg).1) hi (by omega) hB).mono ?_
 rintro e w' ⟨A',c',rfl,ho,hg⟩
 have hk:Keep F w w':=Keep.grown hg (fun g hg=>by
  cases A with
  | none=>cases hg
  | some a =>
   obtain ⟨g',hg',_⟩:∃ g',(some a:Option Addr)=some ⟨g',0,none⟩/\True:=by
    rcases h1.2 with ⟨h',_⟩|⟨g',cap,cur,h',hb,_⟩
    ·cases h'
    ·injection h' with h';exact ⟨g',h',trivial⟩
   have:=(hF g' hg').2
   injection hg' with hg'
   subst hg'
   injection hg with hg
   subst hg
   exact this)
 refine ⟨A',c',rfl,⟨css.take i++cs::css.drop i,?_,?_,?_⟩,hg⟩
 ·have e1:qal encZ (ws.take i++(⟨cs,eTab.len ht,eTab.one ht⟩:Cl 5)::ws.drop i)=(css.take i++cs::css.drop i).flatten:=by
   rw [qfx,List.map_append,List.map_cons,List.map_take,List.map_drop,hws]
   rfl
  rw [e1] at ho
  exact ho
 ·exact Els.append ((h2.keep hk).take i) (Els.append (Els.one_ (eTab.keep ht hk)) ((h2.keep hk).drop i))
 ·simp [h3];omega
theorem qpi (ws:List (Cl 3)) (t:Cl 3) (B:Nat) (A:Option Addr) (n c gv:Nat) (w:World) (hO:w.ownsRow B 96 3 (.slice A n c) n (qal encZ ws)) (hw:ws.length=n) (hv:Blk w gv 96 (encZ t).toArray) (hB:B<=w.heap.size) (hn:n<=10000):
  Calls Tryz.prog 27 #[.slice A n c,.int .i64 n,.slice (some ⟨gv,0,none⟩) 1 1] w fun e w'=>∃ A' c',e=.returned (.slice A' (n+1) c')/\w'.ownsRow B 96 3 (.slice A' (n+1) c') (n+1) (qal encZ (ws++[t]))/\w.grownBy w' (Value.slice A n c).ownBlock:=by
 obtain ⟨i0,hi0,hy0,hy1,hy2⟩:=ip Tryz.prog 96 (.agg #[.int .i64 0,.slice none 0 0,.slice none 0 0]) 3 56
 have HO:=zh hO
 have hnc:=(Row.of_own hO).le_
 have hsrc:∀ j u,(encZ t)[j]? = some u->w.cell? ((⟨gv,0,none⟩:Addr).add j)=some u:=(Row.of_blk hv (Nat.zero_le _) 1 1 (zl _)).src
 have hA:A=none\/∃ g,A=some ⟨g,0,none⟩:=by
  rcases hO.2 with ⟨h,_⟩|⟨g,cap,cur,h,_⟩
  ·injection h with h;exact .inl h
  ·injection h with h;exact .inr ⟨g,h⟩
 clear hO hw
 rcases hA with rfl|⟨g,rfl⟩
 ·have hn0:n=0/\c=0:=by
   rcases Row.of_own HO.out with h|⟨_,h,_⟩|⟨_,_,h,_⟩
   ·exact ⟨h.2.1,h.2.2.1⟩
   ·cases h
   ·cases h
  obtain ⟨rfl,rfl⟩:=hn0
  go_enter Tryz.func27,Tryz.ntmps27
  have hd0:(((0:Nat):Int) == ((0:Nat):Int))=true:=by simp
  have hle:=HO.out.1
  go_wp2_with (at_builtin;(refine wpList_append_own _ rfl (.tmp 23) (.tmp 24) 26 rfl B 96 i0 _ 3 56 Tryz.underlying26 hi0 hy0 hy1 hy2 rfl (by decide) _ 0 _ rfl HO.out ⟨gv,0,none⟩ 1 1 (encZ t) rfl ?a1 ?a2 ?a3 ?a4 ?a5 ?a6 ?_))
  all_goals try (case a1=>exact (kZ t).trans (by simp))
  all_goals try (case a2=>exact hsrc)
  all_goals try (case a3=>exact oneZ t)
  all_goals try (case a4=>unfold maxLen;omega)
  all_goals try (case a5=>omega)
  all_goals try (case a6=>exact hB)
  intro v' wa hown hgrow _
  obtain ⟨A',c',rfl⟩:=qan hown
  have HA:=zh hown
  have HG:=zh hgrow
  clear hown hgrow
  go_wp2
  go_ret
  exact ⟨A',c',rfl,by rw [qbl,qen];simpa using HA.out,HG.out⟩
 ·by_cases hcn:c=n
  ·subst hcn
   go_enter Tryz.func27,Tryz.ntmps27
   have hd0:((c:Int) == (c:Int))=true:=by simp
   have hle:=HO.out.1
   go_wp2_with (at_builtin;(refine wpList_append_own _ rfl (.tmp 23) (.tmp 24) 26 rfl B 96 i0 _ 3 56 Tryz.underlying26 hi0 hy0 hy1 hy2 rfl (by decide) _ c _ rfl HO.out ⟨gv,0,none⟩ 1 1 (encZ t) rfl ?a1 ?a2 ?a3 ?a4 ?a5 ?a6 ?_))
   all_goals try (case a1=>exact (kZ t).trans (by simp))
   all_goals try (case a2=>exact hsrc)
   all_goals try (case a3=>exact oneZ t)
   all_goals try (case a4=>unfold maxLen;omega)
   all_goals try (case a5=>omega)
   all_goals try (case a6=>exact hB)
   intro v' wa hown hgrow _
   obtain ⟨A',c',rfl⟩:=qan hown
   have HA:=zh hown
   have HG:=zh hgrow
   clear hown hgrow
   go_wp2
   go_ret
   exact ⟨A',c',rfl,by rw [qbl,qen];simpa using HA.out,HG.out⟩
  ·go_enter Tryz.func27,Tryz.ntmps27
   have hd0:((n:Int) == (n:Int))=true:=by simp
   have hle:=HO.out.1
   go_wp2_with (at_builtin;(refine wpList_append_own _ rfl (.tmp 23) (.tmp 24) 26 rfl B 96 i0 _ 3 56 Tryz.underlying26 hi0 hy0 hy1 hy2 rfl (by decide) _ n _ rfl HO.out ⟨gv,0,none⟩ 1 1 (encZ t) rfl ?a1 ?a2 ?a3 ?a4 ?a5 ?a6 ?_))
   all_goals try (case a1=>exact (kZ t).trans (by simp))
   all_goals try (case a2=>exact hsrc)
   all_goals try (case a3=>exact oneZ t)
   all_goals try (case a4=>unfold maxLen;omega)
   all_goals try (case a5=>omega)
   all_goals try (case a6=>exact hB)
   intro v' wa hown hgrow _
   obtain ⟨A',c',rfl⟩:=qan hown
   have HA:=zh hown
   have HG:=zh hgrow
   clear hown hgrow
   go_wp2
   go_ret
   exact ⟨A',c',rfl,by rw [qbl,qen];simpa using HA.out,HG.out⟩
theorem qof (ws:List (Cl 3)) (t:Cl 3) (B:Nat) (g n c i gv:Nat) (w:World) (hO:w.ownsRow B 96 3 (.slice (some ⟨g,0,none⟩) n c) n (qal encZ ws)) (hw:ws.length=n) (hv:Blk w gv 96 (encZ t).toArray) (hne:gv≠g) (hi:i<n) (hc:n+1<=c) (hn:n<=10000):
  Calls Tryz.prog 27 #[.slice (some ⟨g,0,none⟩) n c,.int .i64 i,.slice (some ⟨gv,0,none⟩) 1 1] w fun e w'=>∃ A' c',e=.returned (.slice A' (n+1) c')/\w'.ownsRow B 96 3 (.slice A' (n+1) c') (n+1) (qal encZ (ws.take i++t::ws.drop i))/\w.grownBy w' (some g):=by
 obtain ⟨i0,hi0,hy0,hy1,hy2⟩:=ip Tryz.prog 96 (.agg #[.int .i64 0,.slice none 0 0,.slice none 0 0]) 3 56
 obtain ⟨cur,hcur,hcs,hnc,hcm,hBg,hcells⟩:=qfr hO
 unfold maxLen at hcm
 have hov:∀ lb cb',(callFunc 77 #[.slice (some ⟨gv,0,none⟩) 1 1,.slice (some ⟨g,(i+1) * 3,none⟩) lb cb']).run Tryz.prog w=.ok (.value (.bool false)) w:=fun lb cb'=>by
  rw [run_callFunc_extern Tryz.func77 (by kernel_rfl) (by kernel_rfl) (by kernel_rfl) (e:=Extern.SlicesOverlaps.overlaps #[26,26] #[4]) (by kernel_rfl),
   Lib.run_overlaps_apart w 26 4 96 Tryz.underlying26 3 (fun w=>by simp [sizeOf,typeInfo,hi0,hy1]) ⟨gv,0,none⟩ ⟨g,(i+1) * 3,none⟩ 1 1 lb cb' hne 96 96 3 (c * 3) (by unfold World.shape?;rw [show w.heap[gv]? = some (.cells (encZ t).toArray 96 (0,0)) from hv];simp only [List.size_toArray,kZ]) (by unfold World.shape?;rw [show w.heap[g]? = some (.cells cur 96 (0,0)) from hcur];simp only [hcs]) (by omega) (hv.frozen 0) (hv.frozen 3)]
  rfl
 have hd1:((i:Int) == (n:Int))=false:=by rw [beq_eq_false_iff_ne];omega
 have hd1n:(i == n)=false:=by rw [beq_eq_false_iff_ne];omega
 have hd1e:((i:Int)=(n:Int))=False:=by rw [eq_iff_iff,iff_false];omega
 have hw1:IntKind.i64.wrap ((i:Int)+1)=(i:Int)+1:=IntWalk.i64_in _ ⟨by omega,by omega⟩
 have hb1:(0:Int)<=(i:Int)+1:=by omega
 have htn:((i:Int)+1).toNat=i+1:=by omega
 have hb2:¬(c=i+1):=by omega
 have hb3:(i:Int)<=(n:Int)+1:=by omega
 have hb5:(i:Int)+1<=(n:Int)+1:=by omega
 have hb6:i+1<=n+1:=by omega
 have hb4:¬(c=i):=by omega
 go_enter Tryz.func27,Tryz.ntmps27
 go_upto_region 15 with fail
 refine r2 (S:=fun _=>True) [(0,true),(1,true),(2,true),(3,true),(4,true),(5,true),(6,true),(7,true),(8,false)] trivial ?_
 repeat ((first|refine pT ?_|refine pF ?_);try go_frame)
 refine qaj rfl (qae rfl) (fun K hK=>?_)
 obtain ⟨X,hXd⟩:∃ X,qal encZ ws=X:=⟨_,rfl⟩
 rw [hXd] at hcells
 have hXl:X.length=n * 3:=by rw [<-hXd,lenZ,hw]
 have hdl:(X.drop (i * 3)).length=(n - i) * 3:=by rw [List.length_drop,hXl,Nat.sub_mul]
 have hsome:∀ j,j<c * 3->(w.cell? ⟨g,j,none⟩).isSome=true:=fun j hj=>by rw [hcur.cell j,Array.getElem?_eq_getElem (by rw [hcs];exact hj)];rfl
 have hfz:∀ j,w.frozen? ⟨g,j,none⟩=false:=fun j=>hcur.frozen j
 have hmin:Nat.min (n+1 - i) (n - i)=n - i:=by simp only [Nat.min_def];split <;> omega
 have hcw:∀ a,w.drew.cell? a=w.cell? a:=fun _=>rfl
 have hfw:∀ a,w.drew.frozen? a=w.frozen? a:=fun _=>rfl
 refine qeb (.tmp 73) (.tmp 76) 26 rfl 96 i0 3 Tryz.underlying26 hi0 hy1 g _ _ _ ⟨g,i * 3,none⟩ _ _ rfl rfl (X.drop (i * 3)) ?_ ?_ ?_ ?_ ?_ ?_
 ·rw [hmin];exact hdl
 ·intro j v hj
  rw [List.getElem?_drop] at hj
  rw [Addr.add_lit,hcw]
  exact hcells _ _ hj
 ·intro j hj
  rw [hcw]
  exact hsome _ (by omega)
 ·intro j hj
  exact hfz _
 ·intro v hv
  exact oneZs ws v (by rw [hXd];exact List.mem_of_mem_drop hv)
 obtain ⟨cur1,hcur1,hcs1,hgr1⟩:=Blk.setCells (X.drop (i * 3)) ((i+1) * 3) (show Blk w.drew g 96 cur from hcur)
 obtain ⟨W1,hW1⟩:∃ W1,w.drew.setCells g ((i+1) * 3) (X.drop (i * 3))=W1:=⟨_,rfl⟩
 rw [hW1] at hcur1 hgr1 ⊢
 have hgr1:w.grownBy W1 (some g):=⟨hgr1.os,hgr1.tape,hgr1.output,hgr1.size,hgr1.block⟩
 have hv1:Blk W1 gv 96 (encZ t).toArray:=hv.grown (show w.grownBy W1 (some g) from hgr1) (by simpa using hne)
 have HW1:=zh hW1
 clear hW1
 refine hK.out _ _ trivial ?_
 clear hK K
 refine qad ?_
 go_wp2_with (with_reducible show wpList _ _ _ (Oper.mk (some 82) _ _ _ _ _::_) _ _;(refine qcx rfl (.tmp 80) (.tmp 81) 26 rfl 96 i0 3 Tryz.underlying26 hi0 hy1 g _ _ _ ⟨gv,0,none⟩ _ _ rfl rfl (encZ t) ?b1 ?b2 ?b3 ?b4 ?b5 ?_))
 case b1=>rw [show Nat.min 1 (n+1 - i)=1 by simp only [Nat.min_def];split <;> omega];exact (kZ t).trans (by simp)
 case b2=>exact (Row.of_blk hv1 (Nat.zero_le _) 1 1 (zl _)).src
 case b3 =>
  intro j hj
  have hj7:j<3:=by have:=kZ t;omega
  rw [hcur1.cell (i * 3+j),Array.getElem?_eq_getElem (by rw [hcs1,hcs];omega)]
  rfl
 case b4=>exact fun j hj=>hcur1.frozen _
 case b5=>exact oneZ t
 obtain ⟨cur2,hcur2,hcs2,hgr2⟩:=Blk.setCells (encZ t) (i * 3) hcur1
 have hins:=qnk (w:=w.drew) (g:=g) X (encZ t) (i * 3) (by omega) (fun j u hj=>hcells j u hj) (fun j hj=>by
  have h7:(encZ t).length=3:=kZ t
  rw [hcw]
  exact hsome _ (by omega))
 rw [show i * 3+(encZ t).length=(i+1) * 3 by rw [show (encZ t).length=3 from kZ t];omega,HW1.out] at hins
 have hxs:qal encZ (ws.take i++t::ws.drop i)=X.take (i * 3)++(encZ t++X.drop (i * 3)):=by
  rw [<-hXd,qbl,qdz encZ 3 kZ,qdx encZ 3 kZ]
  rfl
 have hOwn:=qds (size:=3) (n:=n+1) (c:=c) (B:=B) hBg hcur2 (by rw [hcs2,hcs1,hcs]) hc (by unfold maxLen;omega) (xs:=qal encZ (ws.take i++t::ws.drop i)) (by rw [lenZ];simp;omega) (by rw [hxs];exact hins)
 have HOwn:=zh hOwn
 have hgr:=qah hgr1 hgr2
 clear hOwn hins hxs
 go_ret
 exact ⟨_,c,rfl,HOwn.out,hgr⟩
theorem qoo (ws:List (Cl 3)) (t:Cl 3) (B:Nat) (g n c i gv:Nat) (w:World) (hO:w.ownsRow B 96 3 (.slice (some ⟨g,0,none⟩) n c) n (qal encZ ws)) (hw:ws.length=n) (hv:Blk w gv 96 (encZ t).toArray) (hi:i<n) (hc:c<n+1) (hn:n<=10000) (hB:B<=w.heap.size):
  Calls Tryz.prog 27 #[.slice (some ⟨g,0,none⟩) n c,.int .i64 i,.slice (some ⟨gv,0,none⟩) 1 1] w fun e w'=>∃ A' c',e=.returned (.slice A' (n+1) c')/\w'.ownsRow B 96 3 (.slice A' (n+1) c') (n+1) (qal encZ (ws.take i++t::ws.drop i))/\w.grownBy w' (some g):=by
 obtain ⟨i0,hi0,hy0,hy1,hy2⟩:=ip Tryz.prog 96 (.agg #[.int .i64 0,.slice none 0 0,.slice none 0 0]) 3 56
 obtain ⟨cur,hcur,hcs,hnc,hcm,hBg,hcells⟩:=qfr hO
 obtain rfl:n=c:=by omega
 obtain ⟨X,hXd⟩:∃ X,qal encZ ws=X:=⟨_,rfl⟩
 rw [hXd] at hcells
 have hXl:X.length=n * 3:=by rw [<-hXd,lenZ,hw]
 have htl:(X.take (i * 3)).length=i * 3:=by rw [List.length_take,hXl];omega
 have hdl:(X.drop (i * 3)).length=(n - i) * 3:=by rw [List.length_drop,hXl,Nat.sub_mul]
 have hsub:(n:Int)+1 - (i:Int)=((n+1 - i:Nat):Int):=by omega
 obtain ⟨gc,hgc⟩:∃ gc,grownCap w (n+1) n 96=gc:=⟨_,rfl⟩
 have hgc1:n+1<=gc:=by rw [<-hgc];exact grownCap_ge w (n+1) n 96
 have hgc2:gc<=maxLen:=by rw [<-hgc];exact grownCap_le_maxLen w (n+1) n 96 (by unfold maxLen;omega)
 obtain ⟨Z,hZ,hZs⟩:∃ Z:Value,i0.zero=some Z/\Z.cells.size=3:=⟨_,hy0,rfl⟩
 obtain ⟨CS,hCS⟩:∃ CS,((X.take (i * 3)).toArray++Builtin.zeroCells Z.cells (n+1 - i)++Builtin.zeroCells Z.cells (gc - (n+1)))=CS:=⟨_,rfl⟩
 have hCSl:CS.size=gc * 3:=by
  rw [<-hCS,Array.size_append,Array.size_append,size_zeroCells,size_zeroCells,List.size_toArray,htl,hZs]
  omega
 have hCSx:∀ (j:Nat) u,(X.take (i * 3))[j]? = some u->CS[j]? = some u:=fun j u hu=>by
  have hj:=(List.getElem?_eq_some_iff.1 hu).1
  rw [<-hCS,Array.getElem?_append,if_pos (by simp;omega),Array.getElem?_append,if_pos (by simpa using hj)]
  simpa using hu
 have hrun:∀ ty,(Builtin.append_ #[26,3] ty #[.slice (some ⟨g,0,none⟩) i n,.int .i64 ((n+1 - i:Nat):Int)]).run Tryz.prog w=.ok (.slice (some ⟨w.heap.size,0,none⟩) (n+1) gc) (w.drew.alloc (.cells CS 96)):=fun ty=>by
  have h:=qgh (P:=Tryz.prog) w 26 3 ty 96 i0 _ .i64 .i64 Tryz.underlying26 Tryz.underlying3 hi0 hZ ⟨g,0,none⟩ i n (X.take (i * 3)) (by rw [htl,hy1]) (fun j v hj=>by
   rw [Addr.add_lit,Nat.zero_add]
   have hj2:=(List.getElem?_eq_some_iff.1 hj).1
   rw [List.getElem?_take,if_pos (by omega)] at hj
   exact hcells j v hj) (n+1 - i) (by omega) (by omega) (by omega) (by omega) (by rw [hy2];omega) (by rw [hy2];exact growslice_fits (by omega) (by omega))
  rw [show i+(n+1 - i)=n+1 by omega,hgc,hCS] at h
  exact h
 have hd1:((i:Int) == (n:Int))=false:=by rw [beq_eq_false_iff_ne];omega
 have hd1n:(i == n)=false:=by rw [beq_eq_false_iff_ne];omega
 have hd1e:((i:Int)=(n:Int))=False:=by rw [eq_iff_iff,iff_false];omega
 have hw0:IntKind.i64.wrap ((n:Int)+1)=(n:Int)+1:=IntWalk.i64_in _ ⟨by omega,by omega⟩
 have hw2:IntKind.i64.wrap ((n:Int)+1 - (i:Int))=(n:Int)+1 - (i:Int):=IntWalk.i64_in _ ⟨by omega,by omega⟩
 have hw1:IntKind.i64.wrap ((i:Int)+1)=(i:Int)+1:=IntWalk.i64_in _ ⟨by omega,by omega⟩
 have hb0:(i:Int)<=(n:Int):=by omega
 have hb1:(0:Int)<=(i:Int)+1:=by omega
 have htn:((i:Int)+1).toNat=i+1:=by omega
 have hb2:¬(gc=i+1):=by omega
 have hb3:(i:Int)<=(n:Int)+1:=by omega
 have hb5:(i:Int)+1<=(n:Int)+1:=by omega
 have hb6:i+1<=n+1:=by omega
 have hb4:¬(gc=i):=by omega
 have hb7:¬(n=i):=by omega
 go_enter Tryz.func27,Tryz.ntmps27
 go_upto_region 10 with (at_builtin;(refine Lib.wpList_append_run _ rfl _ _ _ _ rfl _ _ rfl rfl _ _ (hrun _) ?_))
 obtain ⟨W1,hW1⟩:∃ W1,(w.alloc (.cells CS 96)).drew=W1:=⟨_,rfl⟩
 obtain ⟨gn,hgn⟩:∃ gn,w.heap.size=gn:=⟨_,rfl⟩
 have hbW1:Below w.heap.size w W1:=by rw [<-hW1];exact ((zb _ _).alloc (zl _) _).drew
 have B1:Blk W1 gn 96 CS:=by rw [<-hW1,<-hgn];exact Blk.new _ _ _
 have hv1:=hv.ext hbW1
 have hbW1:Below gn w W1:=hgn ▸ hbW1
 have hgw:g<gn:=by rw [<-hgn];exact (Array.getElem?_eq_some_iff.1 hcur).1
 have hgvw:gv<gn:=by rw [<-hgn];exact (Array.getElem?_eq_some_iff.1 hv).1
 have hcells1:∀ (j:Nat) u,X[j]? = some u->W1.cell? ⟨g,j,none⟩=some u:=fun j u hu=>(World.cell?_of_block (hbW1.block g hgw)).trans (hcells j u hu)
 rw [hW1,hgn]
 clear hW1
 go_wp2_with (with_reducible show wpList _ _ _ (Oper.mk (some 45) _ _ _ _ _::_) _ _;(refine qcx rfl (.tmp 43) (.tmp 44) 26 rfl 96 i0 3 Tryz.underlying26 hi0 hy1 gn _ _ _ ⟨gv,0,none⟩ _ _ rfl rfl (encZ t) ?b1 ?b2 ?b3 ?b4 ?b5 ?_))
 case b1=>rw [show Nat.min 1 (n+1 - i)=1 by simp only [Nat.min_def];split <;> omega];exact (kZ t).trans (by simp)
 case b2=>exact (Row.of_blk hv1 (Nat.zero_le _) 1 1 (zl _)).src
 case b3 =>
  intro j hj
  have hj7:j<3:=by have:=kZ t;omega
  rw [B1.cell (i * 3+j),Array.getElem?_eq_getElem (by rw [hCSl];omega)]
  rfl
 case b4=>exact fun j hj=>B1.frozen _
 case b5=>exact oneZ t
 obtain ⟨cur2,hcur2,hcs2,hgr2⟩:=Blk.setCells (encZ t) (i * 3) B1
 obtain ⟨W2,hW2⟩:∃ W2,W1.setCells gn (i * 3) (encZ t)=W2:=⟨_,rfl⟩
 rw [hW2] at hcur2 hgr2 ⊢
 have HW2:=zh hW2
 have hcells2:∀ (j:Nat) u,X[j]? = some u->W2.cell? ⟨g,j,none⟩=some u:=fun j u hu=>by
  rw [<-hW2,World.cell?_setCells_out _ _ _ _ _ (fun h _=>absurd h (by show g≠gn;omega))]
  exact hcells1 j u hu
 clear hW2
 simp only [Act.put,List.setIfInBounds_toArray,List.set_cons_zero,List.set_cons_succ]
 refine r2 (S:=fun _=>True) [(0,true),(1,true),(2,true),(3,true),(4,true),(5,true),(6,true),(7,true),(8,false)] trivial ?_
 repeat ((first|refine pT ?_|refine pF ?_);try go_frame)
 refine qaj rfl (qae rfl) (fun K hK=>?_)
 refine qeb (.tmp 50) (.tmp 53) 26 rfl 96 i0 3 Tryz.underlying26 hi0 hy1 gn _ _ _ ⟨g,i * 3,none⟩ _ _ rfl rfl (X.drop (i * 3)) ?_ ?_ ?_ ?_ ?_ ?_
 ·rw [show Nat.min (n - i) (n - i)=n - i by simp];exact hdl
 ·intro j v hj
  rw [List.getElem?_drop] at hj
  rw [Addr.add_lit]
  exact hcells2 _ _ hj
 ·intro j hj
  show (W2.cell? _).isSome=true
  rw [hcur2.cell _,Array.getElem?_eq_getElem (by rw [hcs2,hCSl];omega)]
  rfl
 ·intro j hj
  exact hcur2.frozen _
 ·intro v hv
  exact oneZs ws v (by rw [hXd];exact List.mem_of_mem_drop hv)
 obtain ⟨cur3,hcur3,hcs3,hgr3⟩:=Blk.setCells (X.drop (i * 3)) ((i+1) * 3) (show Blk W2.drew gn 96 cur2 from hcur2)
 have hins:=qmc (w:=W1) (v:=W2.drew) (g:=gn) X (encZ t) (i * 3) (by omega) (fun j u hu=>by rw [B1.cell j];exact hCSx j u hu) (fun j hj=>by
  have h7:(encZ t).length=3:=kZ t
  rw [B1.cell j,Array.getElem?_eq_getElem (by rw [hCSl];omega)]
  rfl) (fun a=>by rw [HW2.out];rfl)
 rw [show i * 3+(encZ t).length=(i+1) * 3 by rw [show (encZ t).length=3 from kZ t];omega] at hins
 have hxs:qal encZ (ws.take i++t::ws.drop i)=X.take (i * 3)++(encZ t++X.drop (i * 3)):=by
  rw [<-hXd,qbl,qdz encZ 3 kZ,qdx encZ 3 kZ]
  rfl
 have hOwn:=qds (size:=3) (n:=n+1) (c:=gc) (B:=B) (by rw [<-hgn];exact hB) hcur3 (by rw [hcs3,hcs2,hCSl]) hgc1 hgc2 (xs:=qal encZ (ws.take i++t::ws.drop i)) (by rw [lenZ];simp;omega) (by rw [hxs];exact hins)
 have HOwn:=zh hOwn
 have hgr3:W2.grownBy (W2.drew.setCells gn ((i+1) * 3) (X.drop (i * 3))) (some gn):=⟨hgr3.os,hgr3.tape,hgr3.output,hgr3.size,hgr3.block⟩
 have hs1:gn<=W1.heap.size:=by rw [<-hgn];exact hbW1.size
 have hfin:=(hbW1.grown hgr2 hs1 (fun b hb=>by injection hb with hb;omega)).grown hgr3 (Nat.le_trans hs1 hgr2.size) (fun b hb=>by injection hb with hb;omega)
 have hG:w.grownBy (W2.drew.setCells gn ((i+1) * 3) (X.drop (i * 3))) (some g):=qcw (by rw [hgn];exact hfin) _
 clear hOwn hins hxs
 refine hK.out _ _ trivial ?_
 clear hK K
 refine qad ?_
 go_wp2
 go_ret
 exact ⟨_,gc,rfl,HOwn.out,hG⟩
theorem insert_W (ws:List (Cl 3)) (t:Cl 3) (B:Nat) (A:Option Addr) (n c i gv:Nat) (w:World) (hO:w.ownsRow B 96 3 (.slice A n c) n (qal encZ ws)) (hw:ws.length=n) (hv:Blk w gv 96 (encZ t).toArray) (hne:∀ g,A=some ⟨g,0,none⟩->gv≠g) (hi:i<=n) (hn:n<=10000) (hB:B<=w.heap.size):
  Calls Tryz.prog 27 #[.slice A n c,.int .i64 i,.slice (some ⟨gv,0,none⟩) 1 1] w fun e w'=>∃ A' c',e=.returned (.slice A' (n+1) c')/\w'.ownsRow B 96 3 (.slice A' (n+1) c') (n+1) (qal encZ (ws.take i++t::ws.drop i))/\w.grownBy w' (Value.slice A n c).ownBlock:=by
 by_cases h:i=n
 ·subst h
  rw [List.take_of_length_le (Nat.le_of_eq hw),List.drop_of_length_le (Nat.le_of_eq hw)]
  exact qpi ws t B A i c gv w hO hw hv hB hn
 ·obtain ⟨g,rfl,_,_⟩:=qcb hO (by omega)
  by_cases hc:n+1<=c
  ·exact qof ws t B g n c i gv w hO hw hv (hne g rfl) (by omega) hc hn
  ·exact qoo ws t B g n c i gv w hO hw hv (by omega) (by omega) hn hB
theorem delete_W (ws:List (Cl 3)) (B g n c i:Nat) (w:World) (hO:w.ownsRow B 96 3 (.slice (some ⟨g,0,none⟩) (n+1) c) (n+1) (qal encZ ws)) (hw:ws.length=n+1) (hi:i<=n) (hn:n<=10000):
  Calls Tryz.prog 83 #[.slice (some ⟨g,0,none⟩) (n+1) c,.int .i64 i,.int .i64 ((i:Int)+1)] w fun e w'=>e=.returned (.slice (some ⟨g,0,none⟩) n c)/\w'.ownsRow B 96 3 (.slice (some ⟨g,0,none⟩) n c) n (qal encZ (ws.take i++ws.drop (i+1)))/\w.grownBy w' (some g):=by
 obtain ⟨i0,hi0,hy0,hy1,hy2⟩:=ip Tryz.prog 96 (.agg #[.int .i64 0,.slice none 0 0,.slice none 0 0]) 3 56
 obtain ⟨cur,hcur,hcs,hnc,hcm,hBg,hcells⟩:=qfr hO
 unfold maxLen at hcm
 obtain ⟨X,hXd⟩:∃ X,qal encZ ws=X:=⟨_,rfl⟩
 rw [hXd] at hcells
 have hXl:X.length=(n+1) * 3:=by rw [<-hXd,lenZ,hw]
 have hdl:(X.drop ((i+1) * 3)).length=(n - i) * 3:=by rw [List.length_drop,hXl];omega
 have hd1:((i:Int) == (i:Int)+1)=false:=by rw [beq_eq_false_iff_ne];omega
 have hd1e:((i:Int)=(i:Int)+1)=False:=by rw [eq_iff_iff,iff_false];omega
 have hb1:(0:Int)<=(i:Int)+1:=by omega
 have htn:((i:Int)+1).toNat=i+1:=by omega
 have hb0:(i:Int)<=(n:Int):=by omega
 have hb2:(i:Int)<=(n:Int)+1:=by omega
 have hb3:(i:Int)+1<=(n:Int)+1:=by omega
 have hb4:(n:Int)+1<=(c:Int):=by omega
 have hb5:i+1<=n+1:=by omega
 have hb6:n+1<=c:=by omega
 have hb7:i<=c:=by omega
 have hb8:(i:Int)<=(c:Int):=by omega
 have hcz:c=i+1\/¬c=i+1:=Classical.em _
 obtain ⟨ad,had,hsrc⟩:∃ ad:Addr,(c=i+1/\ad=⟨g,0,none⟩\/¬c=i+1/\ad=⟨g,(i+1) * 3,none⟩)/\Hid (∀ j v,(X.drop ((i+1) * 3))[j]? = some v->w.cell? (ad.add j)=some v):=by
  rcases hcz with h|h
  ·refine ⟨_,.inl ⟨h,rfl⟩,zh fun j v hj=>?_⟩
   have h1:=(List.getElem?_eq_some_iff.1 hj).1
   omega
  ·refine ⟨_,.inr ⟨h,rfl⟩,zh fun j v hj=>?_⟩
   rw [List.getElem?_drop] at hj
   rw [Addr.add_lit]
   exact hcells _ _ hj
 clear hcz
 have hadd:(if c=i+1 then some (⟨g,0,none⟩:Addr) else some ⟨g,(i+1) * 3,none⟩)=some ad:=by
  rcases had with ⟨h,rfl⟩|⟨h,rfl⟩
  ·rw [if_pos h]
  ·rw [if_neg h]
 clear had
 have hrun:∀ ty,(Builtin.append_ #[26,26] ty #[.slice (some ⟨g,0,none⟩) i c,.slice (some ad) (n - i) (c - (i+1))]).run Tryz.prog w.drew=.ok (.slice (some ⟨g,0,none⟩) n c) (w.drew.setCells g (i * 3) (X.drop ((i+1) * 3))):=fun ty=>by
  have h:=run_append_room_cells (P:=Tryz.prog) w.drew 26 ty 96 i0 Tryz.underlying26 hi0 g 0 i c ad (n - i) (c - (i+1)) (X.drop ((i+1) * 3)) (by rw [hy1];exact hdl) (fun j u hu=>hsrc.out j u hu) (fun v hv=>oneZs ws v (by rw [hXd];exact List.mem_of_mem_drop hv)) (by omega)
   (fun j hj=>by
    show (w.cell? _).isSome=true
    rw [hy1,hcur.cell _,Array.getElem?_eq_getElem (by rw [hcs];omega)]
    rfl) (fun j hj=>hcur.frozen _)
  rw [hy1,Nat.zero_add,show i+(n - i)=n by omega] at h
  exact h
 go_enter Tryz.func83,Tryz.ntmps83
 go_upto_region 5 with fail
 refine r2 (S:=fun _=>True) [(0,true),(1,true),(2,true),(3,true),(4,true),(5,true),(6,false),(7,true)] trivial ?_
 repeat ((first|refine pT ?_|refine pF ?_);try go_frame)
 refine qaj rfl (qae rfl) (fun K hK=>?_)
 refine Lib.wp_append_run w.drew (.tmp 22) (.tmp 25) 26 26 rfl _ _ rfl rfl _ _ (hrun _) ?_
 obtain ⟨cur1,hcur1,hcs1,hgr1⟩:=Blk.setCells (X.drop ((i+1) * 3)) (i * 3) (show Blk w.drew g 96 cur from hcur)
 obtain ⟨W1,hW1⟩:∃ W1,w.drew.setCells g (i * 3) (X.drop ((i+1) * 3))=W1:=⟨_,rfl⟩
 rw [hW1] at hcur1 hgr1 ⊢
 have hgr1:w.grownBy W1 (some g):=⟨hgr1.os,hgr1.tape,hgr1.output,hgr1.size,hgr1.block⟩
 have hdel:=del_cells (w:=w.drew) (g:=g) X (i * 3) ((i+1) * 3) (by omega) (by omega) (fun j u hj=>hcells j u hj)
 rw [hW1] at hdel
 have HDEL:=zh hdel
 clear hdel hW1
 refine hK.out _ _ trivial ?_
 clear hK K
 repeat ((first|refine pT ?_|refine pF ?_);try go_frame)
 refine qad ?_
 obtain ⟨Z,ZL,hZ,hzl,hZs,hZ1⟩:∃ (Z:Value) (ZL:List Value),i0.zero=some Z/\(Builtin.zeroCells Z.cells 1).toList=ZL/\ZL.length=3/\∀ v∈ZL,v.oneCell'=true:=⟨_,_,hy0,by rw [zero_one],rfl,by
  intro v hv
  simp [Value.cells] at hv
  rcases hv with rfl|rfl|rfl|rfl|rfl <;> rfl⟩
 have hst:=run_storeCells_cells (P:=Tryz.prog) g (n * 3) ZL 0 W1 (fun j hj=>by
  rw [hcur1.cell _,Array.getElem?_eq_getElem (by rw [hcs1,hcs];omega)]
  rfl) (fun j hj=>hcur1.frozen _) hZ1
 simp only [Nat.add_zero] at hst
 have hcl:∀ ty,(Builtin.clear_ #[26] ty #[.slice (some ⟨g,n * 3,none⟩) 1 (c - n)]).run Tryz.prog W1=.ok (.tuple #[]) (W1.setCells g (n * 3) ZL):=fun ty=>by
  simp [Builtin.clear_,run_underlying Tryz.underlying26,zeroValue,typeInfo,hi0,hZ,hzl,hst]
 obtain ⟨cur2,hcur2,hcs2,hgr2⟩:=Blk.setCells ZL (n * 3) hcur1
 have hxs:qal encZ (ws.take i++ws.drop (i+1))=X.take (i * 3)++X.drop ((i+1) * 3):=by
  rw [<-hXd,qbl,qdz encZ 3 kZ,qdx encZ 3 kZ]
 have hOwn:=qds (size:=3) (n:=n) (c:=c) (B:=B) hBg hcur2 (by rw [hcs2,hcs1,hcs]) (by omega) (by unfold maxLen;omega) (xs:=qal encZ (ws.take i++ws.drop (i+1))) (by rw [lenZ];simp;omega) (fun j u hu=>by
  have hj:=(List.getElem?_eq_some_iff.1 hu).1
  rw [lenZ] at hj
  simp only [List.length_append,List.length_take,List.length_drop] at hj
  rw [World.cell?_setCells_out _ _ _ _ _ (fun _ _=>.inl (by show j<n * 3;omega))]
  rw [hxs] at hu
  exact HDEL.out j u hu)
 have HOwn:=zh hOwn
 have HG:=zh (qah hgr1 hgr2)
 clear hOwn hxs hgr1 hgr2 hst hadd
 have hn1:(n:Int)<=(n:Int)+1:=by omega
 have hn2:¬(c=n):=by omega
 go_wp2
 go_ret
 exact ⟨rfl,HOwn.out,HG.out⟩
theorem insW {gv:Nat} {x:List Wrk} {t:Wrk} (hO:OwnE eWrkT 96 w B F A n c x) (ht:eWrkT.rel w F cs t) (hv:Blk w gv 96 cs.toArray) (hF:∀ g,A=some ⟨g,0,none⟩->gv≠g/\¬F g) (hi:i<=n) (hn:n<=1000) (hB:B<=w.heap.size):
  Calls Tryz.prog 27 #[.slice A n c,.int .i64 i,.slice (some ⟨gv,0,none⟩) 1 1] w fun e w'=>∃ A' c',e=.returned (.slice A' (n+1) c')/\OwnE eWrkT 96 w' B F A' (n+1) c' (x.take i++t::x.drop i)/\w.grownBy w' (Value.slice A n c).ownBlock:=by
 obtain ⟨css,h1,h2,h3⟩:=hO
 obtain ⟨ws,hws⟩:=as_cl (k:=3) css (fun z hz=>h2.klen z hz) h2.ones
 have hfl:qal encZ ws=css.flatten:=by rw [qfx,hws]
 have hwl:ws.length=n:=by rw [<-h3,<-h2.1,<-hws,List.length_map]
 refine (insert_W ws ⟨cs,eWrkT.len ht,eWrkT.one ht⟩ B A n c i gv w (by rw [hfl];exact h1) hwl hv (fun g hg=>(hF g hg).1) hi (by omega) hB).mono ?_
 rintro e w' ⟨A',c',rfl,ho,hg⟩
 have hk:Keep F w w':=Keep.grown hg (fun g hg=>by
  cases A with
  | none=>cases hg
  | some a =>
   obtain ⟨g',hg',_⟩:∃ g',(some a:Option Addr)=some ⟨g',0,none⟩/\True:=by
    rcases h1.2 with ⟨h',_⟩|⟨g',cap,cur,h',hb,_⟩
    ·cases h'
    ·injection h' with h';exact ⟨g',h',trivial⟩
   have:=(hF g' hg').2
   injection hg' with hg'
   subst hg'
   injection hg with hg
   subst hg
   exact this)
 refine ⟨A',c',rfl,⟨css.take i++cs::css.drop i,?_,?_,?_⟩,hg⟩
 ·have e1:qal encZ (ws.take i++(⟨cs,eWrkT.len ht,eWrkT.one ht⟩:Cl 3)::ws.drop i)=(css.take i++cs::css.drop i).flatten:=by
   rw [qfx,List.map_append,List.map_cons,List.map_take,List.map_drop,hws]
   rfl
  rw [e1] at ho
  exact ho
 ·exact Els.append ((h2.keep hk).take i) (Els.append (Els.one_ (eWrkT.keep ht hk)) ((h2.keep hk).drop i))
 ·simp [h3];omega
theorem delW {x:List Wrk} (hO:OwnE eWrkT 96 w B F (some ⟨g,0,none⟩) (n+1) c x) (hF:¬F g) (hi:i<=n) (hn:n<=1000):
  Calls Tryz.prog 83 #[.slice (some ⟨g,0,none⟩) (n+1) c,.int .i64 i,.int .i64 ((i:Int)+1)] w fun e w'=>e=.returned (.slice (some ⟨g,0,none⟩) n c)/\OwnE eWrkT 96 w' B F (some ⟨g,0,none⟩) n c (x.take i++x.drop (i+1))/\w.grownBy w' (some g):=by
 obtain ⟨css,h1,h2,h3⟩:=hO
 obtain ⟨ws,hws⟩:=as_cl (k:=3) css (fun z hz=>h2.klen z hz) h2.ones
 have hfl:qal encZ ws=css.flatten:=by rw [qfx,hws]
 have hwl:ws.length=n+1:=by rw [<-h3,<-h2.1,<-hws,List.length_map]
 refine (delete_W ws B g n c i w (by rw [hfl];exact h1) hwl hi (by omega)).mono ?_
 rintro e w' ⟨rfl,ho,hg⟩
 have hk:Keep F w w':=Keep.grown hg (fun g' hg'=>by injection hg' with hg';subst hg';exact hF)
 refine ⟨rfl,⟨css.take i++css.drop (i+1),?_,?_,?_⟩,hg⟩
 ·have e1:qal encZ (ws.take i++ws.drop (i+1))=(css.take i++css.drop (i+1)).flatten:=by
   rw [qfx,List.map_append,List.map_take,List.map_drop,hws]
  rw [e1] at ho
  exact ho
 ·exact Els.append ((h2.keep hk).take i) ((h2.keep hk).drop (i+1))
 ·simp [h3];omega
def NC (B g:Nat) (A A2:Option Addr):qab:=fun b=>B<=b/\b≠g/\A≠some ⟨b,0,none⟩/\A2≠some ⟨b,0,none⟩
structure CallW (w:World) (g B:Nat) (o e:Int) (x:DBd) (A:Option Addr) (c:Nat) (A2:Option Addr) (c2:Nat) (A3:Option Addr) (c3:Nat) (A4:Option Addr) (c4:Nat):Prop where
 blk:Blk w g 110 #[.slice A x.1.length c,.slice A2 x.2.1.length c2,.slice A3 x.2.2.1.length c3,.slice A4 x.2.2.2.length c4,.int .u32 o,.int .i32 0,.int .u32 0,.int .i64 e]
 tab:OwnE eTab 120 w B (NC B g A A2) A x.1.length c x.1
 wrk:OwnE eWrkT 96 w B (NC B g A A2) A2 x.2.1.length c2 x.2.1
 hld:Hh w B (NC B g A A2) A3 x.2.2.1.length c3 x.2.2.1
 wai:Hh w B (NC B g A A2) A4 x.2.2.2.length c4 x.2.2.2
 ne:∀ b,A=some ⟨b,0,none⟩->A2≠some ⟨b,0,none⟩/\b≠g
 ne2:∀ b,A2=some ⟨b,0,none⟩->b≠g
 lo:B<=g
def CallX (w:World) (g B:Nat) (o e:Int) (x:DBd):Prop:=∃ A c A2 c2 A3 c3 A4 c4,CallW w g B o e x A c A2 c2 A3 c3 A4 c4
section
variable {w w':World} {g B:Nat} {o e:Int} {x:DBd} {A:Option Addr} {c:Nat} {A2:Option Addr} {c2:Nat} {A3:Option Addr} {c3:Nat} {A4:Option Addr} {c4:Nat}
theorem CallW.ext (h:CallW w g B o e x A c A2 c2 A3 c3 A4 c4) (hb:Below w.heap.size w w'):CallW w' g B o e x A c A2 c2 A3 c3 A4 c4 :=
 ⟨h.blk.ext hb,h.tab.ext hb,h.wrk.ext hb,h.hld.ext hb,h.wai.ext hb,h.ne,h.ne2,h.lo⟩
theorem CallX.ext (h:CallX w g B o e x) (hb:Below w.heap.size w w'):CallX w' g B o e x:=by
 obtain ⟨A,c,A2,c2,A3,c3,A4,c4,h⟩:=h
 exact ⟨A,c,A2,c2,A3,c3,A4,c4,h.ext hb⟩
theorem CallW.db (h:CallW w g B o e x A c A2 c2 A3 c3 A4 c4):eDB.rel w (fun b=>B<=b/\b≠g) [.slice A x.1.length c,.slice A2 x.2.1.length c2,.slice A3 x.2.2.1.length c3,.slice A4 x.2.2.2.length c4] x:=by
 obtain ⟨css,h1,h2,h3⟩:=h.tab
 obtain ⟨dss,k1,k2,k3⟩:=h.wrk.loose
 refine qeg ⟨css,?_,h2.mono (fun b h=>⟨h.1,h.2.1⟩),h3⟩ ⟨dss,?_,k2.mono (fun b h=>⟨h.1,h.2.1⟩),k3⟩ (h.hld.sl.mono (fun b h=>⟨h.1,h.2.1⟩)) (h.wai.sl.mono (fun b h=>⟨h.1,h.2.1⟩))
 ·rcases RowF.of_row (F:=fun b=>B<=b/\b<w.heap.size) (Row.of_own h1) (fun b h1 h2=>⟨h1,h2⟩) with q|q|⟨b,off,q1,q2,q3,q4,q5⟩
  ·exact .inl q
  ·exact .inr (.inl q)
  ·refine .inr (.inr ⟨b,off,q1,q2,⟨q3.1,?_⟩,q4,q5⟩)
   rcases h1.2 with ⟨z,_⟩|⟨g',cap,cur,z,_⟩
   ·injection z with z;rw [z] at q1;cases q1
   ·injection z with z;rw [z] at q1;injection q1 with q1;injection q1 with q1;subst q1;exact (h.ne _ z).2
 ·rcases RowF.of_row (F:=fun b=>B<=b/\b<w.heap.size) (Row.of_own k1) (fun b h1 h2=>⟨h1,h2⟩) with q|q|⟨b,off,q1,q2,q3,q4,q5⟩
  ·exact .inl q
  ·exact .inr (.inl q)
  ·refine .inr (.inr ⟨b,off,q1,q2,⟨q3.1,?_⟩,q4,q5⟩)
   rcases k1.2 with ⟨z,_⟩|⟨g',cap,cur,z,_⟩
   ·injection z with z;rw [z] at q1;cases q1
   ·injection z with z;rw [z] at q1;injection q1 with q1;injection q1 with q1;subst q1;exact h.ne2 _ z
end
theorem qqj (a b c d:Value):Tryz.prog.built 110 [(0,.agg #[a,b,c,d])]=some #[a,b,c,d,.int .u32 0,.int .i32 0,.int .u32 0,.int .i64 0]:=by kernel_rfl
theorem qhq (h:eDB.rel w F cs x) (hok:okDB x):Calls Tryz.prog 24 #[.agg cs.toArray] w fun e w'=>∃ g,e=.returned (.pointer (some ⟨g,0,none⟩))/\CallX w' g w.heap.size 0 0 x/\Below w.heap.size w w':=by
 have HS:=zh h
 obtain ⟨A,n,c,A2,n2,c2,A3,n3,c3,A4,n4,c4,rfl,h1,h2,h3,h4⟩:=qav h
 clear h h1 h2 h3 h4
 go_enter Tryz.func24,Tryz.ntmps24
 go_upto_region 1 with fail
 obtain ⟨W,hW_,hb1,B1⟩:=al1 w 31 #[.slice A n c,.slice A2 n2 c2,.slice A3 n3 c3,.slice A4 n4 c4]
 rw [<-hW_]
 clear hW_
 have HF:=zh (qjy (eDB.ext HS.out hb1) hok)
 have q0:=B1.cell 0
 have q1:=B1.cell 1
 have q2:=B1.cell 2
 have q3:=B1.cell 3
 go_wp2_with fail
 refine HF.out.mono ?_
 rintro e w2 ⟨A5,c5,A6,c6,A7,c7,A8,c8,rfl,⟨t1,t2,t3,t4,t5⟩,hb2⟩
 clear q0 q1 q2 q3 HF
 have hbw2:=(hb1.tr hb2)
 have hs:=hb1.size
 have hne:∀ b,A5=some ⟨b,0,none⟩->b<w2.heap.size:=fun b h=>(t1.lt h).2
 have hne2:∀ b,A6=some ⟨b,0,none⟩->b<w2.heap.size:=fun b h=>(t2.lt h).2
 have T1:=zh ((t1.bound qdm).base hs)
 have T2:=zh ((t2.bound qog).base hs)
 have T3:=zh (show Hh w2 w.heap.size (fun b=>NB W.heap.size A5 A6 b/\b<w2.heap.size) A7 _ c7 _ from ⟨((t3.1.bound flat_hld.bnd).base hs),fun b e=>⟨t3.2 b e,(t3.1.lt e).2⟩⟩)
 have T4:=zh (show Hh w2 w.heap.size (fun b=>NB W.heap.size A5 A6 b/\b<w2.heap.size) A8 _ c8 _ from ⟨((t4.1.bound flat_hld.bnd).base hs),fun b e=>⟨t4.2 b e,(t4.1.lt e).2⟩⟩)
 have T5:=zh t5
 clear t1 t2 t3 t4 t5
 go_wp2_with (with_reducible show wpList _ _ _ (Oper.mk (some 5) _ _ _ _ _::_) _ _;refine qbt rfl 110 _ rfl (qqj _ _ _ _) rfl ?_)
 go_ret
 have hnb:∀ b,(NB W.heap.size A5 A6 b/\b<w2.heap.size)->NC w.heap.size w2.heap.size A5 A6 b:=fun b h=>⟨Nat.le_trans hs h.1.1,Nat.ne_of_lt h.2,h.1.2.1,h.1.2.2⟩
 have hba:∀ o,Below w2.heap.size w2 (w2.alloc o):=fun o=>(zb _ _).alloc (zl _) _
 exact ⟨w2.heap.size,rfl,⟨A5,c5,A6,c6,A7,c7,A8,c8,Blk.new _ _ _,(T1.out.ext (hba _)).mono hnb,(T2.out.ext (hba _)).mono hnb,(T3.out.ext (hba _)).mono hnb,(T4.out.ext (hba _)).mono hnb,fun b h=>⟨T5.out b h,Nat.ne_of_lt (hne b h)⟩,fun b h=>Nat.ne_of_lt (hne2 b h),hbw2.size⟩,hbw2.alloc hbw2.size _⟩
theorem qez (w:World) (r:Option Nat):w.grownBy w.drew r:=⟨rfl,rfl,rfl,zl _,fun _ _ _=>rfl⟩
theorem fail_ok:Calls Tryz.prog 63 #[.pointer (some ⟨g,0,none⟩),.int .i64 0] w fun e' w'=>e'=.returned (.tuple #[])/\Below w.heap.size w w':=by
 go_enter Tryz.func63,Tryz.ntmps63
 go_wp2
 go_end0
 exact ⟨rfl,((zb _ _).alloc (zl _) _).alloc (by simp) _⟩
theorem qme (h:CallW w g B o e x A c A2 c2 A3 c3 A4 c4) (k:ByteArray) (hn:x.1.length<=1000) (ho:Mono (cmpT k) x.1):
  Calls Tryz.prog 65 #[.pointer (some ⟨g,0,none⟩),.string k] w fun e' w'=>e'=.returned (.tuple #[.int .i64 (posG (cmpT k) x.1:Nat),.bool (isG (cmpT k) x.1)])/\Below w.heap.size w w':=by
 have HF:=zh (bsT_ k (h.tab.sl (G:=fun _=>True) (fun _ _ _=>trivial) (fun _ _=>trivial)) hn ho)
 have q:=h.blk.cell 0
 clear h
 go_enter Tryz.func65,Tryz.ntmps65
 go_wp2_with fail
 refine HF.out.mono ?_
 rintro e' w' ⟨rfl,hb⟩
 clear q HF
 go_wp2
 go_ret2
 exact ⟨rfl,hb⟩
theorem qgo (h:CallW w g B o e x A c A2 c2 A3 c3 A4 c4) (k:Int) (hn:x.2.1.length<=1000) (ho:Mono (cmpW k) x.2.1) (hk:-4611686018427387904<=k/\k<=4611686018427387904) (hs:∀ y∈x.2.1,-1000<=y.1/\y.1<=1000):
  Calls Tryz.prog 25 #[.pointer (some ⟨g,0,none⟩),.int .i64 k] w fun e' w'=>e'=.returned (.tuple #[.int .i64 (posG (cmpW k) x.2.1:Nat),.bool (isG (cmpW k) x.2.1)])/\Below w.heap.size w w':=by
 have HF:=zh (bsW_ k (h.wrk.loose.sl (G:=fun _=>True) (fun _ _ _=>trivial) (fun _ _=>trivial)) hn ho hk hs)
 have q:=h.blk.cell 1
 clear h hk hs
 go_enter Tryz.func25,Tryz.ntmps25
 go_wp2_with fail
 refine HF.out.mono ?_
 rintro e' w' ⟨rfl,hb⟩
 clear q HF
 go_wp2
 go_ret2
 exact ⟨rfl,hb⟩
end Go.Proofs.YtdjbpcnhnkemiaaGreat.tp
namespace Go.Proofs.YtdjbpcnhnkemiaaGreat.lx
structure Wd where
 k:Int
 n:Int
 s:List UInt8
def letB (c:UInt8):Bool:=decide (97<=c.toNat) && decide (c.toNat<=122)
def digB (c:UInt8):Bool:=decide (48<=c.toNat) && decide (c.toNat<=57)
def qcq (c:UInt8):Bool:=letB c || digB c || c == 95
def endW:Wd:=⟨0,0,[]⟩
end Go.Proofs.YtdjbpcnhnkemiaaGreat.lx
namespace Go.Proofs.YtdjbpcnhnkemiaaGreat.pg
open Go.Proofs.YtdjbpcnhnkemiaaGreat.lx
structure Nd where
 op:Int
 a:Int
 b:Int
 k:Int
 n:Int
 s:List UInt8
 nm:List UInt8
structure Pp where
 at_:Nat
 err:Int
structure Bs where
 p:Pp
 e:List Nd
def wAt (W:List Wd) (p:Pp):Wd:=(W[p.at_]?).getD endW
def cur (W:List Wd) (p:Pp):Wd:=if p.err=0 then wAt W p else endW
def failP (x:Int) (p:Pp):Pp:=if p.err=0 then ⟨p.at_,x⟩ else p
def stepP (p:Pp):Pp:=⟨p.at_+1,p.err⟩
def okIs (W:List Wd) (s:List UInt8) (p:Pp):Bool:=(decide ((cur W p).k=1) || decide ((cur W p).k=4)) && ((cur W p).s == s)
def mustP (W:List Wd) (s:List UInt8) (p:Pp):Pp:=if okIs W s p=true then stepP p else failP 6 p
def reserved:List (List UInt8):=[[97,110,100],[98,101,103,105,110],[98,111,111,108],[98,121],[99,111,109,109,105,116],[99,111,117,110,116],[99,114,101,97,116,101],[100,101,108,101,116,101],[100,101,115,99],[100,114,111,112],[102,97,108,115,101],[102,114,111,109],[103,114,111,117,112],[105,110,115,101,114,116],[105,110,116],[105,110,116,111],[105,115],[106,111,105,110],[107,101,121],[108,105,109,105,116],[109,97,120],[109,105,110],[110,111,116],[110,117,108,108],[111,110],[111,110,108,121],[111,114],[111,114,100,101,114],[112,114,105,109,97,114,121],[114,111,108,108,98,97,99,107],[115,97,118,101,112,111,105,110,116],[115,101,108,101,99,116],[115,101,116],[115,117,109],[116,97,98,108,101],[116,101,120,116],[116,111],[116,114,117,101],[117,112,100,97,116,101],[118,97,108,117,101,115],[119,104,101,114,101]]
def nameOk (s:List UInt8):Bool:=decide (1<=s.length) && (decide (s.length<=12) && (letB (s.headD 0) && (s.all qcq && !(reserved.contains s))))
def nameIs (W:List Wd) (p:Pp):Bool:=decide ((cur W p).k=1) && nameOk (cur W p).s
def nameP (W:List Wd) (p:Pp):List UInt8 × Pp:=if nameIs W p=true then ((cur W p).s,stepP p) else ([],failP 6 p)
def colP (W:List Wd) (p:Pp):List UInt8 × Pp:=match nameP W p with
 | (s,q)=>if okIs W [46] q=true then (match nameP W (stepP q) with|(t,r)=>(s++([46]++t),r)) else (s,q)
def putP (n:Nd) (b:Bs):Int × Bs:=if 60<=b.e.length then (0,⟨failP 4 b.p,b.e⟩) else ((b.e.length:Int),⟨b.p,b.e++[n]⟩)
def nd2 (op a b:Int):Nd:=⟨op,a,b,0,0,[],[]⟩
def ndV (k n:Int) (s:List UInt8):Nd:=⟨1,0,0,k,n,s,[]⟩
def ndC (s:List UInt8):Nd:=⟨2,0,0,0,0,[],s⟩
abbrev Sub:=Bs->Int × Bs
abbrev Ops:=List (List UInt8 × Int)
def opAt (W:List Wd) (ops:Ops) (p:Pp):Option Int :=
 if (cur W p).k=1\/(cur W p).k=4 then (ops.find? (fun x=>x.1 == (cur W p).s)).map (·.2) else none
def opS (W:List Wd) (ops:Ops) (p:Pp):Option Int :=
 if (cur W p).k=4 then (ops.find? (fun x=>x.1 == (cur W p).s)).map (·.2) else none
def qkm (b:Bs):Bs:=⟨stepP b.p,b.e⟩
def pairP (sub:Sub) (op a:Int) (b:Bs):Int × Bs:=match sub (qkm b) with
 | (c,q)=>putP (nd2 op a c) q
def loopP (W:List Wd) (sub:Sub) (ops:Ops):Nat->Int->Bs->Int × Bs
 | 0,a,b=>(a,b)
 | n+1,a,b=>match opAt W ops b.p with
  | some op=>(match pairP sub op a b with|(a',b')=>loopP W sub ops n a' b')
  | none=>(a,b)
def qly (W:List Wd) (sub:Sub) (ops:Ops) (b:Bs):Int × Bs:=match sub b with
 | (a,q)=>loopP W sub ops W.length a q
def cmps:Ops:=[([61],8),([60,62],9),([60],10),([60,61],11),([62],12),([62,61],13)]
def cmpP (W:List Wd) (sub:Sub) (b:Bs):Int × Bs:=match sub b with
 | (a,q)=>if okIs W [105,115] q.p=true then putP (nd2 5 a 0) ⟨mustP W [110,117,108,108] (stepP q.p),q.e⟩
  else match opS W cmps q.p with
  | some op=>pairP sub op a q
  | none=>(a,q)
def preP (W:List Wd) (s:List UInt8) (op:Int) (sub nxt:Sub) (b:Bs):Int × Bs :=
 if okIs W s b.p=true then (match sub (qkm b) with|(a,q)=>putP (nd2 op a 0) q) else nxt b
def consts (s:List UInt8):Option Nd :=
 if s=[116,114,117,101] then some (ndV 1 1 []) else if s=[102,97,108,115,101] then some (ndV 1 0 []) else if s=[110,117,108,108] then some (ndV 0 0 []) else none
def constAt (W:List Wd) (p:Pp):Option Nd:=if (cur W p).k=1 then consts (cur W p).s else none
def oneP (W:List Wd) (sub:Sub) (b:Bs):Int × Bs :=
 if (cur W b.p).k=2 then putP (ndV 2 (cur W b.p).n []) (qkm b)
 else if (cur W b.p).k=3 then putP (ndV 3 0 (cur W b.p).s) (qkm b)
 else match constAt W b.p with
 | some n=>putP n (qkm b)
 | none=>if okIs W [40] b.p=true then (match sub (qkm b) with|(a,q)=>(a,⟨mustP W [41] q.p,q.e⟩))
  else match colP W b.p with
  | (s,q)=>if q.err=0 then putP (ndC s) ⟨q,b.e⟩ else (0,⟨q,b.e⟩)
def pr (W:List Wd):Nat->Nat->Sub
 | 0,_=>fun b=>(0,b)
 | f+1,0=>qly W (pr W f 1) [([111,114],6)]
 | f+1,1=>qly W (pr W f 2) [([97,110,100],7)]
 | f+1,2=>preP W [110,111,116] 3 (pr W f 2) (pr W f 3)
 | f+1,3=>cmpP W (pr W f 4)
 | f+1,4=>qly W (pr W f 5) [([43],14),([45],15)]
 | f+1,5=>qly W (pr W f 6) [([42],16)]
 | f+1,6=>preP W [45] 4 (pr W f 6) (pr W f 7)
 | f+1,_+7=>oneP W (pr W f 0)
end Go.Proofs.YtdjbpcnhnkemiaaGreat.pg
namespace Go.Proofs.YtdjbpcnhnkemiaaGreat.lx
open Go.ChangeShapes Go.WideShapes Go.ChangeAt Go.RowKit Go.Proofs.YtdjbpcnhnkemiaaGreat.lib
theorem disable (w:World):(callFunc 245 #[]).run Tryz.prog w=.ok (.value (.tuple #[])) w:=run_call_mark0 Tryz.func245 (by kernel_rfl) (by kernel_rfl) (by kernel_rfl) .disable (by kernel_rfl) w
theorem enable (w:World):(callFunc 247 #[]).run Tryz.prog w=.ok (.value (.tuple #[])) w:=run_call_mark0 Tryz.func247 (by kernel_rfl) (by kernel_rfl) (by kernel_rfl) .enable (by kernel_rfl) w
theorem acquire (a:Addr) (w:World):(callFunc 248 #[.pointer (some a)]).run Tryz.prog w=.ok (.value (.tuple #[])) w:=run_call_marked Tryz.func248 (by kernel_rfl) (by kernel_rfl) (by kernel_rfl) .acquire (by kernel_rfl) a w
theorem releaseMerge (a:Addr) (w:World):(callFunc 250 #[.pointer (some a)]).run Tryz.prog w=.ok (.value (.tuple #[])) w:=run_call_marked Tryz.func250 (by kernel_rfl) (by kernel_rfl) (by kernel_rfl) .releaseMerge (by kernel_rfl) a w
theorem qfm (a:Addr) (x:Value) (u:FrameMode) (w:World) (hc:w.cell? a=some x) (hz:w.frozen? a=false) :
  CallsD Tryz.prog 199 #[.pointer (some a),.bool true] u w fun e u' w'=>u'=u/\(e=.returned (.tuple #[])/\w'=w.drew.setCell a (.int .u32 1)):=by
 have hc':w.drew.cell? a=some x:=by go_simp
 have hz':w.drew.frozen? a=false:=by go_simp
 have hst:=run_call_store (P:=Tryz.prog) Tryz.func232 (by kernel_rfl) (by kernel_rfl) (by kernel_rfl) (by kernel_rfl) (k:=.u32) (y:=1) hc' hz'
 go_enter_d Tryz.func199,Tryz.ntmps199
 go_wp2
 go_region_calls
 all_goals (go_end0;exact ⟨rfl,rfl⟩)
theorem qes (a:Addr) (u:FrameMode) (w:World) (hc:w.cell? a=some (.int .i32 1)) (hz:w.frozen? a=false) :
  CallsD Tryz.prog 198 #[.pointer (some a)] u w fun e u' w'=>u'=u/\(e=.returned (.tuple #[])/\w'=w.setCell a (.int .i32 0)):=by
 have hd:=disable
 have he:=enable
 have hr:=releaseMerge
 have hadd:=run_call_add (P:=Tryz.prog) Tryz.func251 (by kernel_rfl) (by kernel_rfl) (by kernel_rfl) .i32 (by kernel_rfl) (y:=-1) (s:=0) hc hz (by simp [go_sem];rfl)
 have hcv:=run_convert_to_unsafe (P:=Tryz.prog) (src:=391) (dst:=153) Tryz.underlying391 Tryz.underlying153 (by kernel_rfl) hc
 go_enter_d Tryz.func198,Tryz.ntmps198
 go_wp2
 go_end0
 go_wp2
 go_end0
 exact ⟨rfl,rfl⟩
theorem qjf (a:Addr) (w:World) (hc:w.cell? a=some (.int .i32 0)) (hz:w.frozen? a=false) :
  Calls Tryz.prog 197 #[.pointer (some a)] w fun e w'=>e=.returned (.tuple #[])/\w'=w.setCell a (.int .i32 1):=by
 have hd:=disable
 have he:=enable
 have ha:=acquire
 have hcas:=run_call_cas_hit (P:=Tryz.prog) Tryz.func246 (by kernel_rfl) (by kernel_rfl) (by kernel_rfl) .i32 (by kernel_rfl) (y:=1) hc hz
 have hc':(w.setCell a (.int .i32 1)).cell? a=some (.int .i32 1):=World.cell?_setCell_same w a _ hc
 have hcv:=run_convert_to_unsafe (P:=Tryz.prog) (src:=391) (dst:=153) Tryz.underlying391 Tryz.underlying153 (by kernel_rfl) hc'
 go_enter Tryz.func197,Tryz.ntmps197
 go_wp2
 first|go_end0|(simp only [Exit.inBlock,Exit.then];refine bodyPost_ret (results_none rfl _ _ _) rfl ?_)|refine bodyPost_ret (results_none rfl _ _ _) rfl ?_
 go_wp2
 go_end0
 exact ⟨rfl,rfl⟩
def wk (s:List UInt8) (out:Value) (d e:Int):Array Value:=#[.string ⟨s.toArray⟩,out,.int .u32 d,.int .i32 0,.int .u32 0,.int .i64 e]
theorem size_mk (l:List UInt8):(ByteArray.mk l.toArray).size=l.length:=by simp [ByteArray.size]
theorem bch0 {w w1 w2:World} (h:Below w.heap.size w w1) (k:Below w1.heap.size w1 w2):Below w.heap.size w w2:=zt h (zm k h.size)
def kw:List Wd:=[⟨1,0,[97]⟩,⟨4,0,[60,61]⟩,⟨2,1,[]⟩,⟨0,0,[]⟩]
end Go.Proofs.YtdjbpcnhnkemiaaGreat.lx
namespace Go.Proofs.YtdjbpcnhnkemiaaGreat.lib
open Go.ChangeShapes Go.WideShapes Go.ChangeAt Go.RowKit Go.MapKept
def MapAt (w:World) (b:Nat) (M:List (List UInt8 × Value)):Prop :=
 ∃ es clock,w.heap[b]? = some (.map es clock)/\es.toList.map (fun e=>(e.key,e.val))=M.map (fun x=>(Value.string ⟨x.1.toArray⟩,x.2))
def qfp (M:List (List UInt8 × Value)) (l:List UInt8) (z:Value):Value × Bool:=match M.find? (fun x=>x.1 == l) with
 | some x=>(x.2,true)
 | none=>(z,false)
theorem MapAt.lt {w:World} {b:Nat} {M:List (List UInt8 × Value)} (h:MapAt w b M):b<w.heap.size:=by
 obtain ⟨es,clock,hb,_⟩:=h
 exact (Array.getElem?_eq_some_iff.1 hb).1
theorem MapAt.new (w:World):MapAt (w.alloc (.map #[] 0)) w.heap.size []:=⟨#[],0,(heap_alloc w _).1,rfl⟩
theorem MapAt.same {w w':World} {b:Nat} {M:List (List UInt8 × Value)} (h:MapAt w b M) (hb:w'.heap[b]? = w.heap[b]?):MapAt w' b M:=by
 obtain ⟨es,clock,h1,h2⟩:=h
 exact ⟨es,clock,hb.trans h1,h2⟩
theorem MapAt.ext {w w':World} {b:Nat} {M:List (List UInt8 × Value)} (h:MapAt w b M) (hb:Below w.heap.size w w'):MapAt w' b M:=h.same (hb.block b h.lt)
theorem MapAt.grown {w w':World} {row:Option Nat} {b:Nat} {M:List (List UInt8 × Value)} (h:MapAt w b M) (hg:w.grownBy w' row) (hr:some b≠row):MapAt w' b M:=h.same (hg.block b h.lt hr)
theorem MapAt.notCells {w:World} {b:Nat} {M:List (List UInt8 × Value)} (h:MapAt w b M) (cs:Array Value) (t:TypeId):w.heap[b]?≠some (.cells cs t):=by
 obtain ⟨es,clock,h1,_⟩:=h
 rw [h1]
 intro e
 injection e with e
 cases e
theorem mk_inj {l m:List UInt8} (h:(⟨l.toArray⟩:ByteArray)=⟨m.toArray⟩):l=m:=by
 have:=congrArg (fun b:ByteArray=>b.data.toList) h
 simpa using this
theorem qhc (l:List UInt8):∀ (M:List (List UInt8 × Value)) (es:List MapEntry) (i:Nat),es.map (fun e=>(e.key,e.val))=M.map (fun x=>(Value.string ⟨x.1.toArray⟩,x.2)) ->
  (M.find? (fun x=>x.1 == l)=none/\Instr.findNow .string (.string ⟨l.toArray⟩) es i=some none) \/
  ∃ x j,M.find? (fun x=>x.1 == l)=some x/\Instr.findNow .string (.string ⟨l.toArray⟩) es i=some (some (j,x.2))
 | [],[],i,_=>.inl ⟨rfl,rfl⟩
 | [],_::_,i,h=>by cases h
 | _::_,[],i,h=>by cases h
 | x::M,e::es,i,h=>by
  simp only [List.map_cons,List.cons.injEq,Prod.mk.injEq] at h
  obtain ⟨⟨h1,h2⟩,h3⟩:=h
  obtain ⟨r,hr,hiff⟩:=sameNow_of_keys (d:=.string) (a:=.string ⟨l.toArray⟩) (b:=e.key) trivial (by rw [h1];exact trivial)
  by_cases hx:x.1=l
  ·refine .inr ⟨x,i,by simp [hx],?_⟩
   obtain rfl:r=true:=hiff.2 (by rw [h1,hx])
   simp [Instr.findNow,hr,h2]
  ·have hb:r=false:=by
    cases r with
    | false=>rfl
    | true =>
     have:=hiff.1 rfl
     rw [h1] at this
     injection this with this
     exact absurd (mk_inj this).symm hx
   subst hb
   have hf:(x::M).find? (fun x=>x.1 == l)=M.find? (fun x=>x.1 == l):=by
    rw [List.find?_cons_of_neg (by simpa using hx)]
   rw [hf]
   have hn:Instr.findNow .string (.string ⟨l.toArray⟩) (e::es) i=Instr.findNow .string (.string ⟨l.toArray⟩) es (i+1):=by
    simp [Instr.findNow,hr]
   rw [hn]
   exact qhc l M es (i+1) h3
section
variable {P:Program} {w:World} {ops:Array Oper} {rest:List Oper} {o:Oper} {a:Act} {Q:Exit->Act->World->Prop}
theorem look_lit (c:Bool) {t k e:TypeId} (ht:P.underlying t=some (.map k e)) (hk:P.underlying k=some .string) {z:Value} (hz:(zeroValue e).run P w=.ok z w) {b:Nat} {M:List (List UInt8 × Value)} (h:MapAt w b M) (l:List UInt8) :
  (Instr.lookup t (.map (some b)) (.string ⟨l.toArray⟩) c).run P w=.ok (if c then .tuple #[(qfp M l z).1,.bool (qfp M l z).2] else (qfp M l z).1) w:=by
 obtain ⟨es,clock,hb,he⟩:=h
 have hik:IsKey .string (.string ⟨l.toArray⟩):=trivial
 rcases qhc l M es.toList 0 he with ⟨h1,h2⟩|⟨x,j,h1,h2⟩
 ·simp [Instr.lookup,run_underlying ht,MapKept.run_getObj_map hb,run_checkKey hk hik,run_findKey hk h2,hz,Result.andThen,qfp,h1]
 ·simp [Instr.lookup,run_underlying ht,MapKept.run_getObj_map hb,run_checkKey hk hik,run_findKey hk h2,Result.andThen,qfp,h1]
theorem put_lit {t k e:TypeId} (ht:P.underlying t=some (.map k e)) (hk:P.underlying k=some .string) {b:Nat} {M:List (List UInt8 × Value)} (h:MapAt w b M) (l:List UInt8) (v:Value) (hn:M.find? (fun x=>x.1 == l)=none) :
  ∃ w',(Instr.mapUpdate t (.map (some b)) (.string ⟨l.toArray⟩) v).run P w=.ok () w'/\MapAt w' b (M++[(l,v)])/\w.grownBy w' (some b):=by
 obtain ⟨es,clock,hb,he⟩:=h
 have hik:IsKey .string (.string ⟨l.toArray⟩):=trivial
 rcases qhc l M es.toList 0 he with ⟨h1,h2⟩|⟨x,j,h1,h2⟩
 ·refine ⟨{ w with heap:=w.heap.setIfInBounds b (.map (es.push { key:=.string ⟨l.toArray⟩,val:=v,born:=clock }) (clock+1)) },by simp [Instr.mapUpdate,run_underlying ht,MapKept.run_getObj_map hb,run_checkKey hk hik,run_findKey hk h2,MapKept.run_setObj_map _ hb,Result.andThen],⟨_,_,(heap_set hb).1,?_⟩,⟨rfl,rfl,rfl,by simp,fun i _ hi=>(heap_set hb).2 i (fun e=>hi (by rw [e]))⟩⟩
  simp [he]
 ·rw [hn] at h1;cases h1
theorem qls (hg:o.guard=none) (m x:Operand) (t:TypeId) (c:Bool) (hop:o.op=Op.lookup t m x c) (k e:TypeId) (ht:P.underlying t=some (.map k e)) (hk:P.underlying k=some .string) (z:Value) (hz:∀ w,(zeroValue e).run P w=.ok z w)
  (b:Nat) (M:List (List UInt8 × Value)) (hm:a.eval m=.map (some b)) (h:MapAt w b M) (l:List UInt8) (s:ByteArray) (hs:s=⟨l.toArray⟩) (hx:a.eval x=.string s)
  (hK:wpList P ops Q rest (a.put o.dst (if c then .tuple #[(qfp M l z).1,.bool (qfp M l z).2] else (qfp M l z).1)) w):wpList P ops Q (o::rest) a w:=by
 subst hs
 refine wpList_plain hg fun K' hK'=>?_
 unfold Oper.wp
 simp [execOp,hop,hm,hx,look_lit c ht hk (hz w) h l,Result.andThen]
 exact hK' _ _ hK
theorem qmn (hg:o.guard=none) (m x y:Operand) (t:TypeId) (hop:o.op=Op.insert t m x y\/o.op=Op.mapUpdate t m x y) (k e:TypeId) (ht:P.underlying t=some (.map k e)) (hk:P.underlying k=some .string)
  (b:Nat) (M:List (List UInt8 × Value)) (hm:a.eval m=.map (some b)) (h:MapAt w b M) (l:List UInt8) (v:Value) (hx:a.eval x=.string ⟨l.toArray⟩) (hy:a.eval y=v) (hn:M.find? (fun x=>x.1 == l)=none)
  (hK:∀ w',MapAt w' b (M++[(l,v)])->w.grownBy w' (some b)->wpList P ops Q rest (a.put o.dst undef) w'):wpList P ops Q (o::rest) a w:=by
 refine wpList_plain hg fun K' hK'=>?_
 obtain ⟨w',hrun,h1,h2⟩:=put_lit ht hk h l v hn
 unfold Oper.wp
 rcases hop with hop|hop
 ·simp [execOp,hop,hm,hx,hy,hrun,Result.andThen]
  exact hK' _ _ (hK w' h1 h2)
 ·simp [execOp,hop,hm,hx,hy,hrun,Result.andThen]
  exact hK' _ _ (hK w' h1 h2)
end
end Go.Proofs.YtdjbpcnhnkemiaaGreat.lib
namespace Go.Proofs.YtdjbpcnhnkemiaaGreat.pg
open Go.ChangeShapes Go.WideShapes Go.ChangeAt Go.RowKit Go.Proofs.YtdjbpcnhnkemiaaGreat.lib Go.Proofs.YtdjbpcnhnkemiaaGreat.lx
section
variable {w w':World} {g:Nat} {W:List Wd} {b:Nat} {p:Pp} {a n c:Nat}
end
theorem two {w:World} {g:Nat} {t:TypeId} {x0 x1:Value} (h:Blk w g t #[x0,x1]) {w':World} (hb:Below w.heap.size w w') :
  w'.cell? ⟨g,0,none⟩=some x0/\w'.cell? ⟨g,1,none⟩=some x1:=⟨(h.ext hb).cell 0,(h.ext hb).cell 1⟩
theorem qek (w:World) (a:Addr) (u:Value):w.grownBy (w.setCell a u) (some a.block):=⟨rfl,rfl,rfl,by simp [World.setCell],fun k hk hne=>Below.heap_setCell _ _ _ _ (fun e=>hne (by rw [e]))⟩
theorem qlb {w w':World} (h:Below w.heap.size w w') (row:Option Nat):w.grownBy w' row:=⟨h.os,h.tape,h.output,h.size,fun k hk _=>h.block k hk⟩
theorem qbd {w w1 w2:World} {row:Option Nat} {r:Nat} (h:w.grownBy w1 row) (k:w1.grownBy w2 (some r)) (hr:w.heap.size<=r):w.grownBy w2 row :=
 ⟨k.os.trans h.os,k.tape.trans h.tape,k.output.trans h.output,Nat.le_trans h.size k.size,fun i hi hne=>(k.block i (Nat.lt_of_lt_of_le hi h.size) (fun e=>by injection e with e;omega)).trans (h.block i hi hne)⟩
def qef:List (List UInt8 × Value):=reserved.map fun s=>(s,.bool true)
theorem res_new:∀ k,k<41->∀ s,reserved[k]? = some s->(reserved.take k).find? (fun x=>x == s)=none:=by
 have h:(List.range 41).all (fun k=>((reserved.take k).find? (fun x=>x == (reserved[k]?).getD [])).isNone)=true:=by decide +kernel
 intro k hk s hs
 have:=List.all_eq_true.1 h k (List.mem_range.2 hk)
 rw [hs] at this
 simpa using this
theorem qok (l:List (List UInt8)) (s:List UInt8):(l.map fun s=>(s,Value.bool true)).find? (fun x=>x.1 == s)=(l.find? (fun x=>x == s)).map fun s=>(s,Value.bool true):=by
 induction l with
 | nil=>rfl
 | cons a l ih =>
  by_cases h:a=s
  ·simp [h]
  ·simp only [List.map_cons]
   rw [List.find?_cons_of_neg (by simpa using h),List.find?_cons_of_neg (by simpa using h),ih]
theorem zeroB (w:World):(zeroValue 4).run Tryz.prog w=.ok (.bool false) w:=by kernel_rfl
theorem qqh (l:List UInt8):qfp qef l (.bool false)=(.bool (reserved.contains l),reserved.contains l):=by
 unfold qfp qef
 rw [qok]
 cases h:reserved.find? (fun x=>x == l) with
 | none =>
  have:reserved.contains l=false:=by
   rw [Bool.eq_false_iff]
   intro hc
   rw [List.contains_iff_mem] at hc
   have:=List.find?_eq_none.1 h l hc
   simp at this
  simp only [Option.map_none,this]
 | some y =>
  have hy:=List.find?_some h
  have hm:=List.mem_of_find?_eq_some h
  have:reserved.contains l=true:=by
   rw [List.contains_iff_mem]
   have:y=l:=by simpa using hy
   rwa [this] at hm
  simp only [Option.map_some,this]
theorem four {w:World} {g:Nat} {t:TypeId} {x0 x1 x2 x3:Value} (h:Blk w g t #[x0,x1,x2,x3]) {w':World} (hb:Below w.heap.size w w') :
  w'.cell? ⟨g,0,none⟩=some x0/\w'.cell? ⟨g,1,none⟩=some x1/\w'.cell? ⟨g,2,none⟩=some x2/\w'.cell? ⟨g,3,none⟩=some x3 :=
 ⟨(h.ext hb).cell 0,(h.ext hb).cell 1,(h.ext hb).cell 2,(h.ext hb).cell 3⟩
theorem language_ (w:World):Calls Tryz.prog 236 #[] w fun e w'=>∃ g,e=.returned (.slice (some ⟨g,0,none⟩) 41 41)/\w.heap.size<=g/\Row w' 0 (some ⟨g,0,none⟩) 41 41 (reserved.map fun s=>Value.string ⟨s.toArray⟩)/\Below w.heap.size w w':=by
 go_enter Tryz.func236,Tryz.ntmps236
 go_wp2
 go_ret
 exact ⟨_,rfl,zl _,Row.of_blk (Blk.new w _ _) (Nat.zero_le _) 41 41 (zl _),(zb _ _).alloc (zl _) _⟩
theorem read_ {w:World} {q:Nat} {s:Int} (h:Blk w q 285 #[.int .u32 0,.int .i32 s,.int .u32 0,.map none]) :
  Calls Tryz.prog 206 #[.pointer (some ⟨q,0,none⟩)] w fun e w'=>∃ m,e=.returned (.tuple #[])/\Blk w' q 285 #[.int .u32 0,.int .i32 s,.int .u32 0,.map (some m)]/\MapAt w' m qef/\w.grownBy w' (some q):=by
 have hq:=h.lt
 have hmm:=@run_makeMap Tryz.prog
 have q1:=(four h ((zb w.heap.size w).alloc (zl _) (.map #[] 0))).2.2.2
 have f3:=(h.ext ((zb w.heap.size w).alloc (zl _) (.map #[] 0))).frozen 3
 have H:=zh h
 clear h
 go_enter Tryz.func206,Tryz.ntmps206
 go_upto_region 1 with fail
 have hqm:q≠w.heap.size:=by omega
 have H1:Blk (w.setCell ⟨q,3,none⟩ (.map (some w.heap.size))) q 285 #[.int .u32 0,.int .i32 s,.int .u32 0,.map (some w.heap.size)]:=by simpa using H.out.set_ 3 (.map (some w.heap.size))
 have hg1:=qek w ⟨q,3,none⟩ (.map (some w.heap.size))
 have HM1:=MapAt.new (w.setCell ⟨q,3,none⟩ (.map (some w.heap.size)))
 have hz:(w.setCell ⟨q,3,none⟩ (.map (some w.heap.size))).heap.size=w.heap.size:=by simp [World.setCell]
 rw [hz] at HM1
 obtain ⟨m,hm⟩:∃ m,w.heap.size=m:=⟨_,rfl⟩
 rw [hm] at HM1 H1 hg1 hqm ⊢
 have hb1:=(zb _ (w.setCell ⟨q,3,none⟩ (.map (some m)))).alloc (zl _) (.map #[] 0)
 have H2:=H1.ext hb1
 have hg2:=hg1.trans (qlb hb1 (some q))
 have HM2:=HM1
 generalize hw2:(w.setCell ⟨q,3,none⟩ (.map (some m))).alloc (.map #[] 0)=w2 at *
 have HW:=zh (show w.heap.size<=m by omega)
 clear hw2 q1 f3 hmm hm hq H1 HM1 hg1 hb1 hz H
 go_wp2_with fail
 refine (language_ _).mono ?_
 rintro e w3 ⟨gl,rfl,hgl,hrow,hb3⟩
 have hml:=HM2.lt
 have hql:=H2.lt
 have HM3:=HM2.ext hb3
 have H3:=H2.ext hb3
 have hg3:=hg2.trans (qlb hb3 (some q))
 have hne1:gl≠m:=by omega
 have hne2:gl≠q:=by omega
 clear HM2 H2 hb3 hgl hg2 hml hql
 go_wp2_with fail
 go_loopw [10] (fun i wr=>∃ k:Nat,i=.int .i64 k/\k<=41/\Blk wr q 285 #[.int .u32 0,.int .i32 s,.int .u32 0,.map (some m)]/\MapAt wr m ((reserved.take k).map fun s=>(s,.bool true))/\w3.grownBy wr (some m)) (fun i _=>41 - (intOf i).toNat)
 case atStart=>exact ⟨0,rfl,Nat.zero_le _,H3,HM3,World.grownBy.refl _ _⟩
 case round =>
  obtain ⟨k,rfl,hk,hB,hMk,hgk⟩:=hrel
  rcases Nat.lt_or_ge k 41 with hlt|hge
  case inr =>
   have hd:decide ((k:Int)<41)=false:=by simp;omega
   have e:reserved.take k=reserved:=List.take_of_length_le (show reserved.length<=k from hge)
   rw [e] at hMk
   have HF:=zh hMk
   have HB:=zh hB
   have HG:=zh (show w.grownBy wr (some q) from qbd hg3 hgk HW.out)
   clear hge e hMk hB hgk
   go_wp2
   first|go_end0|refine bodyPost_ret (results_none rfl _ _ _) rfl ?_
   exact ⟨m,rfl,HB.out,HF.out,HG.out⟩
  have hd:decide ((k:Int)<41)=true:=by simp;omega
  have hk41:(k:Int)<41:=by omega
  obtain ⟨r,hr⟩:∃ r,reserved[k]? = some r:=⟨_,List.getElem?_eq_getElem (show k<reserved.length from hlt)⟩
  have hc:=(hrow.grown hgk (fun b off e=>by injection e with e;injection e with e _;rw [<-e];simpa using hne1)).at_ (i:=k) (u:=.string ⟨r.toArray⟩) (by rw [List.getElem?_map,hr];rfl)
  simp only [Nat.zero_add] at hc
  have hfind:((reserved.take k).map fun s=>(s,Value.bool true)).find? (fun x=>x.1 == r)=none:=by rw [qok,res_new k hlt r hr];rfl
  have ht:((reserved.take (k+1)).map fun s=>(s,Value.bool true))=((reserved.take k).map fun s=>(s,Value.bool true))++[(r,.bool true)]:=by rw [List.take_add_one,hr,Option.toList_some,List.map_append];rfl
  have qb:=four hB (zb _ _)
  have HT:=zh ht
  have HFD:=zh hfind
  have HB:=zh hB
  have HMK:=zh hMk
  have HGK:=zh hgk
  clear ht hr hfind hB hMk hgk
  go_wp2_with (at_mapUpdate;refine qmn rfl _ _ _ 283 (.inr rfl) 9 4 Tryz.underlying283 Tryz.underlying9 m _ rfl HMK.out r (.bool true) rfl rfl HFD.out ?_;intro w4 hM4 hg4)
  have HM4:=zh (show MapAt w4 m ((reserved.take (k+1)).map fun s=>(s,.bool true)) by rw [HT.out];exact hM4)
  have HB4:=zh (HB.out.grown hg4 (by simp;omega))
  have HG4:=zh (HGK.out.trans hg4)
  clear hM4 hg4 qb hc
  go_wp2
  go_roundw
  case rel=>exact ⟨k+1,by go_num,by omega,HB4.out,HM4.out,HG4.out⟩
  case measure=>simp [intOf];omega
theorem slow_ {w:World} {q:Nat} (h:Blk w q 285 #[.int .u32 0,.int .i32 0,.int .u32 0,.map none]) :
  Calls Tryz.prog 128 #[.pointer (some ⟨q,0,none⟩),.func (.func 206) #[.pointer (some ⟨q,0,none⟩)] #[]] w fun r w'=>∃ m,r=.returned (.tuple #[])/\Blk w' q 285 #[.int .u32 1,.int .i32 0,.int .u32 0,.map (some m)]/\MapAt w' m qef/\w.grownBy w' (some q):=by
 have h1:Blk (w.setCell ⟨q,1,none⟩ (.int .i32 1)) q 285 #[.int .u32 0,.int .i32 1,.int .u32 0,.map none]:=by simpa using h.set_ 1 (.int .i32 1)
 have hg1:=qek w ⟨q,1,none⟩ (.int .i32 1)
 have hc:=(four h (zb _ _)).2.1
 have hf:=h.frozen 1
 have hl:=run_call_load (P:=Tryz.prog) Tryz.func196 (by kernel_rfl) (by kernel_rfl) (by kernel_rfl) .u32 (by kernel_rfl) (w:=w.setCell ⟨q,1,none⟩ (.int .i32 1)) (a:=⟨q,0,none⟩) (x:=0) (four h1 (zb _ _)).1
 have hnot:∀ (x:Bool) (w:World),(Op.unary .not (.bool x)).run Tryz.prog w=.ok (.bool (!x)) w:=fun _ _=>rfl
 have H1:=zh h1
 have HG1:=zh hg1
 clear h h1 hg1
 go_enter_defers Tryz.func128,Tryz.ntmps128
 go_wp2_with (go_at_call 197;refine (qjf ⟨q,1,none⟩ _ hc hf).mono ?_;rintro e w' ⟨rfl,rfl⟩)
 go_wp2_with (first|(go_at_call 127;go_in)|(refine (read_ H1.out).mono ?_;rintro e w2 ⟨m,rfl,h2,hM2,hg2⟩)|go_in)
 have HG2:=zh (HG1.out.trans hg2)
 have q2:=four h2 (zb _ _)
 have z0:=h2.frozen 0
 have B3:Blk (w2.drew.setCell ⟨q,0,none⟩ (.int .u32 1)) q 285 #[.int .u32 1,.int .i32 1,.int .u32 0,.map (some m)]:=by simpa using (show Blk w2.drew q _ _ from h2).set_ 0 (.int .u32 1)
 have B4:Blk ((w2.drew.setCell ⟨q,0,none⟩ (.int .u32 1)).setCell ⟨q,1,none⟩ (.int .i32 0)) q 285 #[.int .u32 1,.int .i32 0,.int .u32 0,.map (some m)]:=by simpa using B3.set_ 1 (.int .i32 0)
 have q3:=four B3 (zb _ _)
 have z1:=B3.frozen 1
 have hne:some m≠some q:=by
  intro e
  injection e with e
  exact hM2.notCells _ _ (by rw [e];exact h2)
 have HM2:MapAt w2.drew m qef:=hM2
 have HM4:=(HM2.grown (qek _ ⟨q,0,none⟩ (.int .u32 1)) hne).grown (qek _ ⟨q,1,none⟩ (.int .i32 0)) hne
 have HG4:=((HG2.out.trans (qlb ((zb _ w2).drew) _)).trans (qek _ ⟨q,0,none⟩ (.int .u32 1))).trans (qek _ ⟨q,1,none⟩ (.int .i32 0))
 refine leaves_cons (f:=199) (args:=#[.pointer (some ⟨q,0,none⟩),.bool true]) (by simp) (by simp [go_sem]) ?_
 refine (qfm ⟨q,0,none⟩ (.int .u32 0) .returning _ q2.1 z0).mono ?_
 rintro e u' w'' ⟨rfl,rfl,rfl⟩
 refine leaves_cons (f:=198) (args:=#[.pointer (some ⟨q,1,none⟩)]) (by simp [settle]) (by simp [go_sem]) ?_
 refine (qes ⟨q,1,none⟩ _ _ q3.2.1 z1).mono ?_
 rintro e u' w'' ⟨rfl,rfl,rfl⟩
 have R:=zh (show ∃ m,Ending.returned (.tuple #[])=.returned (.tuple #[])/\Blk ((w2.drew.setCell ⟨q,0,none⟩ (.int .u32 1)).setCell ⟨q,1,none⟩ (.int .i32 0)) q 285 #[.int .u32 1,.int .i32 0,.int .u32 0,.map (some m)]/\MapAt ((w2.drew.setCell ⟨q,0,none⟩ (.int .u32 1)).setCell ⟨q,1,none⟩ (.int .i32 0)) m qef/\w.grownBy ((w2.drew.setCell ⟨q,0,none⟩ (.int .u32 1)).setCell ⟨q,1,none⟩ (.int .i32 0)) (some q) from ⟨m,rfl,B4,HM4,HG4⟩)
 simp only [Leaves,settle,results,Tryz.results128]
 exact ⟨.tuple #[],by first|rfl|simp,R.out⟩
theorem once_ {w:World} {q:Nat} (h:Blk w q 285 #[.int .u32 0,.int .i32 0,.int .u32 0,.map none]) :
  Calls Tryz.prog 54 #[.pointer (some ⟨q,0,none⟩),.func (.func 206) #[.pointer (some ⟨q,0,none⟩)] #[]] w fun r w'=>∃ m,r=.returned (.tuple #[])/\Blk w' q 285 #[.int .u32 1,.int .i32 0,.int .u32 0,.map (some m)]/\MapAt w' m qef/\w.grownBy w' (some q):=by
 have H:=zh h
 have hl:=run_call_load (P:=Tryz.prog) Tryz.func196 (by kernel_rfl) (by kernel_rfl) (by kernel_rfl) .u32 (by kernel_rfl) (w:=w) (a:=⟨q,0,none⟩) (x:=0) (four h (zb _ _)).1
 have hnot:∀ (x:Bool) (w:World),(Op.unary .not (.bool x)).run Tryz.prog w=.ok (.bool (!x)) w:=fun _ _=>rfl
 clear h
 go_enter Tryz.func54,Tryz.ntmps54
 go_wp2_with (first|(go_at_call 128;refine (slow_ H.out).mono ?_;rintro e w2 ⟨m,rfl,h2,hM2,hg2⟩)|(go_at_call 127;go_in))
 have R:=zh (za h2 (za hM2 hg2))
 clear h2 hM2 hg2
 go_wp2
 first|go_end0|refine bodyPost_ret (results_none rfl _ _ _) rfl ?_
 exact ⟨m,rfl,R.out.1,R.out.2.1,R.out.2.2⟩
theorem again_ {w:World} {q m:Nat} (h:Blk w q 285 #[.int .u32 1,.int .i32 0,.int .u32 0,.map (some m)]) :
  Calls Tryz.prog 54 #[.pointer (some ⟨q,0,none⟩),.func (.func 206) #[.pointer (some ⟨q,0,none⟩)] #[]] w fun r w'=>r=.returned (.tuple #[])/\w=w':=by
 have hl:=run_call_load (P:=Tryz.prog) Tryz.func196 (by kernel_rfl) (by kernel_rfl) (by kernel_rfl) .u32 (by kernel_rfl) (w:=w) (a:=⟨q,0,none⟩) (x:=1) (four h (zb _ _)).1
 have hnot:∀ (x:Bool) (w:World),(Op.unary .not (.bool x)).run Tryz.prog w=.ok (.bool (!x)) w:=fun _ _=>rfl
 clear h
 go_enter Tryz.func54,Tryz.ntmps54
 go_wp2_with (go_at_call 127;go_in)
 first|go_end0|refine bodyPost_ret (results_none rfl _ _ _) rfl ?_
 exact ⟨rfl,rfl⟩
structure StrB (s:ByteArray) (l:List UInt8):Prop where
 eq:s=⟨l.toArray⟩
theorem StrB.size {s:ByteArray} {l:List UInt8} (h:StrB s l):s.size=l.length:=by rw [h.eq];exact size_mk l
theorem StrB.get {s:ByteArray} {l:List UInt8} (h:StrB s l) (k:Nat) (hk:k<s.size) (hl:k<l.length):s[k]=l[k]:=by
 obtain ⟨rfl⟩:=h
 rfl
theorem qjo {l:List UInt8} (k:Nat) (hk:k<l.length) (h:qcq l[k]=false):nameOk l=false:=by
 unfold nameOk
 have:l.all qcq=false:=by
  rw [Bool.eq_false_iff]
  intro h2
  rw [List.all_eq_true] at h2
  have:=h2 l[k] (List.getElem_mem hk)
  rw [h] at this
  cases this
 rw [this]
 simp
def Sp (w:World) (q:Nat):Prop:=Blk w q 285 #[.int .u32 0,.int .i32 0,.int .u32 0,.map none]\/∃ m,Blk w q 285 #[.int .u32 1,.int .i32 0,.int .u32 0,.map (some m)]/\MapAt w m qef
theorem Sp.lt {w:World} {q:Nat} (h:Sp w q):q<w.heap.size:=by
 rcases h with h|⟨m,h,_⟩
 ·exact h.lt
 ·exact h.lt
theorem Sp.ext {w w':World} {q:Nat} (h:Sp w q) (hb:Below w.heap.size w w'):Sp w' q:=by
 rcases h with h|⟨m,h,hM⟩
 ·exact .inl (h.ext hb)
 ·exact .inr ⟨m,h.ext hb,hM.ext hb⟩
theorem do_ {w:World} {q:Nat} (h:Sp w q) :
  Calls Tryz.prog 54 #[.pointer (some ⟨q,0,none⟩),.func (.func 206) #[.pointer (some ⟨q,0,none⟩)] #[]] w fun r w'=>∃ m,r=.returned (.tuple #[])/\Blk w' q 285 #[.int .u32 1,.int .i32 0,.int .u32 0,.map (some m)]/\MapAt w' m qef/\w.grownBy w' (some q):=by
 rcases h with h|⟨m,h,hM⟩
 ·exact once_ h
 ·refine (again_ h).mono ?_
  rintro e w' ⟨rfl,rfl⟩
  exact ⟨m,rfl,h,hM,World.grownBy.refl _ _⟩
theorem sname_ (l:List UInt8) (hl:l.length<=1000) {w:World} {q:Nat} (h:Sp w q) :
  Calls Tryz.prog 135 #[.pointer (some ⟨q,0,none⟩),.string ⟨l.toArray⟩] w fun e w'=>e=.returned (.bool (nameOk l))/\Sp w' q/\w.grownBy w' (some q):=by
 obtain ⟨s,hs⟩:∃ s:ByteArray,s=⟨l.toArray⟩:=⟨_,rfl⟩
 rw [<-hs]
 have HS:=zh (StrB.mk hs)
 have hz:=HS.out.size
 have HZ:=zh hz
 have HSP:=zh h
 have hmf:∀ (fn:Fn) (first cap:Array Value) (w:World),(Instr.makeFunc fn first cap).run Tryz.prog w=.ok (.func fn first cap) w:=fun _ _ _ _=>rfl
 have hsb:s.size<=1000:=by omega
 obtain ⟨ok,hok⟩:∃ b,nameOk l=b:=⟨_,rfl⟩
 rw [hok]
 have HOK:=zh hok
 clear hs hz hok h
 go_enter Tryz.func135,Tryz.ntmps135
 rcases Nat.lt_or_ge s.size 1 with h1|h1
 case inl =>
  have d1:decide ((s.size:Int)<1)=true:=by simp;omega
  obtain rfl:ok=false:=by rw [<-HOK.out];unfold nameOk;rw [decide_eq_false (show ¬1<=l.length by have:=HZ.out;omega)];rfl
  clear h1
  go_wp2
  go_ret
  exact ⟨rfl,HSP.out,World.grownBy.refl _ _⟩
 have d1:decide ((s.size:Int)<1)=false:=by simp;omega
 rcases Nat.lt_or_ge 12 s.size with h2|h2
 case inl =>
  have d2:decide ((12:Int)<(s.size:Int))=true:=by simp;omega
  obtain rfl:ok=false:=by rw [<-HOK.out];unfold nameOk;rw [decide_eq_false (show ¬l.length<=12 by have:=HZ.out;omega)];simp
  clear h2
  go_wp2
  go_ret
  exact ⟨rfl,HSP.out,World.grownBy.refl _ _⟩
 have d2:decide ((12:Int)<(s.size:Int))=false:=by simp;omega
 have h0:(0:Int)<(s.size:Int):=by omega
 have h00:0<s.size:=by omega
 have hl0:0<l.length:=by have:=HZ.out;omega
 have hg0:=HS.out.get 0 h00 hl0
 obtain ⟨c,hc⟩:∃ c,(s[0]'h00).toNat=c:=⟨_,rfl⟩
 have HC:=zh (show (l.headD 0).toNat=c by
  have:l.headD 0=l[0]:=by
   cases l with
   | nil=>simp at hl0
   | cons a t=>rfl
  rw [this,<-hg0];exact hc)
 clear hg0
 rcases Nat.lt_or_ge c 97 with h3|h3
 case inl =>
  have a1:decide ((c:Int)<97)=true:=by simp;omega
  obtain rfl:ok=false:=by
   rw [<-HOK.out];unfold nameOk letB
   rw [HC.out,decide_eq_false (show ¬97<=c by omega)];simp
  clear h3
  go_wp2
  go_ret
  exact ⟨rfl,HSP.out,World.grownBy.refl _ _⟩
 have a1:decide ((c:Int)<97)=false:=by simp;omega
 rcases Nat.lt_or_ge 122 c with h4|h4
 case inl =>
  have a2:decide ((122:Int)<(c:Int))=true:=by simp;omega
  obtain rfl:ok=false:=by
   rw [<-HOK.out];unfold nameOk letB
   rw [HC.out,decide_eq_false (show ¬c<=122 by omega)];simp
  clear h4
  go_wp2
  go_ret
  exact ⟨rfl,HSP.out,World.grownBy.refl _ _⟩
 have a2:decide ((122:Int)<(c:Int))=false:=by simp;omega
 have HL:=zh (show letB (l.headD 0)=true by unfold letB;rw [HC.out];simp;omega)
 go_wp2_with fail
 clear a1 a2 d1 d2 h0 hc h3 h4 HC
 go_loopw [27] (fun i w'=>∃ k:Nat,i=.int .i64 k/\k<=s.size/\Hid (∀ j (hj:j<l.length),j<k->qcq l[j]=true)/\w'=w) (fun i _=>s.size - (intOf i).toNat)
 case atStart=>exact ⟨0,rfl,Nat.zero_le _,zh (fun j hj h=>by omega),rfl⟩
 case round =>
  obtain ⟨k,rfl,hk,HNO,rfl⟩:=hrel
  rcases Nat.lt_or_ge k s.size with hlt|hge
  case inl =>
   have hd:decide (k<s.size)=true:=by simp;omega
   have hd2:decide ((k:Int)<(s.size:Int))=true:=by simp;omega
   have hl2:k<l.length:=by rw [<-HZ.out];exact hlt
   have hg:=HS.out.get k hlt hl2
   obtain ⟨c,hc⟩:∃ c,(s[k]'hlt).toNat=c:=⟨_,rfl⟩
   have HC:=zh (show l[k].toNat=c by rw [<-hg];exact hc)
   clear hg
   rcases Nat.lt_or_ge c 97 with h1|h1
   case inr =>
    rcases Nat.lt_or_ge 122 c with h2|h2
    case inr =>
     have a1:decide ((c:Int)<97)=false:=by simp;omega
     have a2:decide ((122:Int)<(c:Int))=false:=by simp;omega
     have HOKK:=zh (show qcq l[k]=true by
      unfold qcq letB
      rw [HC.out]
      simp
      omega)
     clear h1 h2
     go_wp2
     go_roundw
     case rel=>exact ⟨k+1,by go_num,by omega,zh (fun j hj h=>by
      by_cases hjk:j=k
      ·subst hjk;exact HOKK.out
      ·exact HNO.out j hj (by omega)),by trivial⟩
     case measure=>simp [intOf];omega
    have a1:decide ((c:Int)<97)=false:=by simp;omega
    have a2:decide ((122:Int)<(c:Int))=true:=by simp;omega
    have a4:decide ((c:Int)<48)=false:=by simp;omega
    have a5:decide ((57:Int)<(c:Int))=true:=by simp;omega
    have a6:((c:Int) != 95)=true:=by simp;omega
    have HNN:=zh (show qcq l[k]=false by
     unfold qcq letB digB
     have e:(l[k] == 95)=false:=by rw [beq_eq_false_iff_ne];intro e;have:=congrArg UInt8.toNat e;rw [HC.out] at this;simp at this;omega
     rw [HC.out,e]
     simp
     omega)
    obtain rfl:ok=false:=by rw [<-HOK.out];exact qjo k hl2 HNN.out
    clear h1 h2
    go_wp2
    go_ret
    exact ⟨rfl,HSP.out,World.grownBy.refl _ _⟩
   have a1:decide ((c:Int)<97)=true:=by simp;omega
   rcases Nat.lt_or_ge c 48 with h3|h3
   case inl =>
    have a4:decide ((c:Int)<48)=true:=by simp;omega
    have a6:((c:Int) != 95)=true:=by simp;omega
    have HNN:=zh (show qcq l[k]=false by
     unfold qcq letB digB
     have e:(l[k] == 95)=false:=by rw [beq_eq_false_iff_ne];intro e;have:=congrArg UInt8.toNat e;rw [HC.out] at this;simp at this;omega
     rw [HC.out,e]
     simp
     omega)
    obtain rfl:ok=false:=by rw [<-HOK.out];exact qjo k hl2 HNN.out
    clear h1 h3
    go_wp2
    go_ret
    exact ⟨rfl,HSP.out,World.grownBy.refl _ _⟩
   have a4:decide ((c:Int)<48)=false:=by simp;omega
   rcases Nat.lt_or_ge 57 c with h5|h5
   case inr =>
    have a5:decide ((57:Int)<(c:Int))=false:=by simp;omega
    have HOKK:=zh (show qcq l[k]=true by
     unfold qcq letB digB
     rw [HC.out]
     simp
     omega)
    clear h1 h3 h5
    go_wp2
    go_roundw
    case rel=>exact ⟨k+1,by go_num,by omega,zh (fun j hj h=>by
     by_cases hjk:j=k
     ·subst hjk;exact HOKK.out
     ·exact HNO.out j hj (by omega)),by trivial⟩
    case measure=>simp [intOf];omega
   have a5:decide ((57:Int)<(c:Int))=true:=by simp;omega
   by_cases h9:c=95
   ·have a6:((c:Int) != 95)=false:=by subst h9;rfl
    have HOKK:=zh (show qcq l[k]=true by
     unfold qcq
     have e:(l[k] == 95)=true:=by rw [beq_iff_eq];exact UInt8.toNat_inj.1 (by rw [HC.out,h9];rfl)
     rw [e]
     simp)
    clear h1 h3 h5 h9
    go_wp2
    go_roundw
    case rel=>exact ⟨k+1,by go_num,by omega,zh (fun j hj h=>by
     by_cases hjk:j=k
     ·subst hjk;exact HOKK.out
     ·exact HNO.out j hj (by omega)),by trivial⟩
    case measure=>simp [intOf];omega
   have a6:((c:Int) != 95)=true:=by simp;omega
   have HNN:=zh (show qcq l[k]=false by
    unfold qcq letB digB
    have e:(l[k] == 95)=false:=by rw [beq_eq_false_iff_ne];intro e;have:=congrArg UInt8.toNat e;rw [HC.out] at this;simp at this;omega
    rw [HC.out,e]
    simp
    omega)
   obtain rfl:ok=false:=by rw [<-HOK.out];exact qjo k hl2 HNN.out
   clear h1 h3 h5 h9
   go_wp2
   go_ret
   exact ⟨rfl,HSP.out,World.grownBy.refl _ _⟩
  have hd:decide (k<s.size)=false:=by simp;omega
  have hd2:decide ((k:Int)<(s.size:Int))=false:=by simp;omega
  have HALL:=zh (show l.all qcq=true by
   rw [List.all_eq_true]
   intro x hx
   obtain ⟨j,hj,rfl⟩:=List.getElem_of_mem hx
   exact HNO.out j hj (by have:=HZ.out;omega))
  have HN:=zh (show nameOk l = !(reserved.contains l) by
   unfold nameOk
   rw [HALL.out,HL.out,decide_eq_true (show 1<=l.length by omega),decide_eq_true (show l.length<=12 by have:=HZ.out;omega)]
   simp)
  obtain ⟨cb,hcb⟩:∃ cb,reserved.contains l=cb:=⟨_,rfl⟩
  obtain rfl:ok = !cb:=by rw [<-HOK.out,HN.out,hcb]
  have HCB:=zh hcb
  clear HNO hge hcb
  go_wp2_with fail
  refine (do_ HSP.out).mono ?_
  rintro e w1 ⟨m,rfl,hB1,hM1,hg1⟩
  have q1:=four hB1 (zb _ _)
  have HM1:=zh hM1
  have HR:=zh (za (show Sp w1 q from .inr ⟨m,hB1,hM1⟩) hg1)
  clear hB1 hM1 hg1
  go_wp2_with (at_lookup;refine qls rfl _ _ 283 false rfl 9 4 Tryz.underlying283 Tryz.underlying9 (.bool false) zeroB m qef rfl HM1.out l s HS.out.eq rfl ?_;rw [qqh,HCB.out])
  go_ret
  exact ⟨rfl,HR.out.1,HR.out.2⟩
end Go.Proofs.YtdjbpcnhnkemiaaGreat.pg
