/- Laws of its own that the claim's proof needs; no condition beyond those that each states. -/
import Derived.Test.YtdjbpcnhnkemiaaGreatZ7
import Derived.Test.YtdjbpcnhnkemiaaGreatZ2
import Derived.Deep.Slices
import Derived.Lib.SmallJoins
import Derived.RangeFuncFrom
import Derived.RangeFuncNested
import Derived.RangeFuncBound
import Derived.RangeFuncCalls
import Derived.RangeFuncLeaves
import Derived.Shelf.Abstract
import Derived.Shelf.RegionOpen
import Derived.Deep.CutRange
import Derived.Lib.MinMax
import Derived.Defers
import Derived.Test.YtdjbpcnhnkemiaaGreatZ5
import Derived.Maps.RangeWalk
import Derived.Maps.GroupsBeside
import Derived.Maps.Views
import Derived.Deep.AppendSrc
import Derived.Laws.LoneSync
import Derived.Lib.AppendZeros
import Derived.LoopTactic
set_option linter.unusedVariables false
set_option maxRecDepth 1000000
set_option maxHeartbeats 16000000
namespace Go.Proofs.YtdjbpcnhnkemiaaGreat.tp
open Go.ChangeShapes Go.WideShapes Go.ChangeAt Go.RowKit Go.Proofs.YtdjbpcnhnkemiaaGreat.lib
variable {w w':World}
variable {n c g B b off i j k m n2 n3 c2 c3 c4 c5 c6 gs gn np lo gr gd id b2 off2:Nat}
variable {A A2 A3 A4 A5 A6:Option Addr}
variable {cs:List Value}
variable {l r:List UInt8}
variable {rs:List (List UInt8)}
variable {s o e:Int}
variable {nm:ByteArray}
variable {F G:qab}
variable {x:DBd}
theorem qjh (a b c d:Value) (ha:a.oneCell'=true) (hb:b.oneCell'=true) (hc:c.oneCell'=true) (hd:d.oneCell'=true):Tryz.prog.built 255 [(0,.agg #[a,b,c,d])]=some #[a,b,c,d,.int .u32 0,.int .i32 0,.int .u32 0]:=by kernel_rfl
theorem qgt {P:Program} {fn:Func} {p q:Tmp} {ty uy:TypeId} (h:fn.results=#[.cell p ty,.cell q uy]) (tmps:Array Value) (w:World) (g k:Nat) (t u:TypeId) (cs ds:Array Value) (fr fs:Nat × Nat) (d e:TypeDesc)
  (hp:tmps.getD p undef=.pointer (some ⟨g,0,none⟩)) (hg:w.heap[g]? = some (.cells cs t fr))
  (hu:P.underlying ty=some d) (hd:(match d with | .struct _ | .array _ _=>true|_=>false)=true) (hi:(P.info? ty).map (·.size)=some cs.size)
  (hq:tmps.getD q undef=.pointer (some ⟨k,0,none⟩)) (hk:w.heap[k]? = some (.cells ds u fs))
  (hv:P.underlying uy=some e) (he:(match e with | .struct _ | .array _ _=>true|_=>false)=true) (hj:(P.info? uy).map (·.size)=some ds.size) :
  (results fn tmps).run P w=.ok (.tuple #[.agg cs,.agg ds]) w:=by
 have hp':tmps[p]?.getD undef=.pointer (some ⟨g,0,none⟩):=by simpa using hp
 have hq':tmps[q]?.getD undef=.pointer (some ⟨k,0,none⟩):=by simpa using hq
 simp [results,h,hp',hq',asAddr,run_loadVar_row w g t ty cs fr d hg hu hd hi,run_loadVar_row w k u uy ds fs e hk hv he hj]
theorem qnc (id:Int) (t:TxD) (h:okTx t):qkh (id,[t],[],[]):=⟨⟨by simp,fun y hy=>by simp at hy;subst hy;exact h⟩,by simp,fun l hl=>by cases hl⟩
theorem qqg (id:Int):qkh (id,[],[],[]):=⟨⟨by simp,fun y hy=>by cases hy⟩,by simp,fun l hl=>by cases hl⟩
theorem ladd_ {x:Chg} (h:eLed.rel w F cs ((id:Int),[],[],[])) (hc:Sl eChg w G A 1 c [x]) (hok:okTx ((id:Int),[x])) (hid:id<1000000):
  Calls Tryz.prog 45 #[.agg cs.toArray,.slice A 1 c] w fun e w'=>∃ ds ts:List Value,e=.returned (.tuple #[.agg ds.toArray,.agg ts.toArray])/\eLed.rel w' (fun b=>w.heap.size<=b) ds (((id+1:Nat):Int),[((id:Int),[x])],[],[])/\eTx.rel w' (fun b=>w.heap.size<=b) ts ((id:Int),[x])/\Below w.heap.size w w':=by
 have HL:=zh h
 have HC:=zh hc
 have HOK:=zh hok
 obtain ⟨B,n,d,B2,n2,d2,B3,n3,d3,rfl,l1,l2,l3⟩:=qei h
 clear h hc hok l1 l2 l3
 go_enter Tryz.func45,Tryz.ntmps45
 go_upto_region 1 with fail
 obtain ⟨W,hW_,hb1,BL,BR,BS⟩:=al3 w 147 147 168 #[.int .i64 (id:Int),.slice B n d,.slice B2 n2 d2,.slice B3 n3 d3] #[.int .i64 0,.slice none 0 0,.slice none 0 0,.slice none 0 0] #[.int .i64 0,.slice none 0 0]
 rw [<-hW_]
 clear hW_
 obtain ⟨gl,hgl⟩:∃ g,w.heap.size=g:=⟨_,rfl⟩
 obtain ⟨gr,hgr⟩:∃ g,w.heap.size+1=g:=⟨_,rfl⟩
 obtain ⟨gs,hgs⟩:∃ g,w.heap.size+1+1=g:=⟨_,rfl⟩
 have hgrw:w.heap.size<=gr:=by omega
 have hgsw:w.heap.size<=gs:=by omega
 have hrs:gr≠gs:=by omega
 rw [hgs] at BS ⊢
 rw [hgr] at BR ⊢
 rw [hgl] at BL ⊢
 clear hgl hgr hgs
 have hgrl:gr<W.heap.size:=BR.lt
 have hgsl:gs<W.heap.size:=BS.lt
 have HF:=zh (lown0_ (eLed.ext HL.out hb1) (qqg _) rfl)
 have q0:=BL.cell 0
 have q1:=BL.cell 1
 have q2:=BL.cell 2
 have q3:=BL.cell 3
 go_wp2_with fail
 refine HF.out.mono ?_
 rintro e w2 ⟨A5,A6,c6,A7,rfl,⟨h5,h6,h7⟩,hb2⟩
 clear q0 q1 q2 q3 HF
 simp only [List.length_nil] at h5 h6 h7 ⊢
 have hbw2:=(hb1.tr hb2)
 have BL2:=BL.ext hb2
 have BR2:=BR.ext hb2
 have BS2:=BS.ext hb2
 have H5:=zh (h5.bound qia)
 have H6:=zh (h6.bound flat_blk.bnd)
 have H7:=zh (h7.bound (qbk qia))
 have H6L:=zh (fun b e=>h6.lt e (b:=b))
 clear h5 h6 h7 BL BR BS
 go_upto_region 2 with (with_reducible show wpList _ _ _ (Oper.mk (some 10) _ _ _ _ _::_) _ _;refine qbt rfl 255 _ rfl (qjh _ _ _ _ rfl rfl rfl rfl) rfl ?_)
 obtain ⟨W3,hW_,hb3,BQ⟩:=al1 w2 255 #[.int .i64 (id:Int),.slice A5 0 0,.slice A6 0 c6,.slice A7 0 0,.int .u32 0,.int .i32 0,.int .u32 0]
 rw [<-hW_]
 clear hW_
 obtain ⟨q,hq⟩:∃ g,w2.heap.size=g:=⟨_,rfl⟩
 have hqw:w.heap.size<=q:=by have:=hbw2.size;omega
 have hWq:W.heap.size<=q:=by have:=hb2.size;omega
 have hNB:∀ b,N1 W.heap.size A6 b/\b<w2.heap.size->CB W.heap.size q b/\A6≠some ⟨b,0,none⟩:=fun b h=>⟨⟨h.1.1,by have:=h.2;omega⟩,h.1.2⟩
 have HA6:=zh (show ∀ b,A6=some ⟨b,0,none⟩->b≠q from fun b e=>by have:=(H6L.out b e).2;omega)
 rw [hq] at BQ ⊢
 clear hq
 have BL3:=BL2.ext hb3
 have BR3:=BR2.ext hb3
 have BS3:=BS2.ext hb3
 have hbw3:=(hbw2.tr hb3)
 have H5:=zh ((H5.out.ext hb3).mono hNB)
 have H6:=zh ((H6.out.ext hb3).mono (fun b h=>(hNB b h).1))
 have H7:=zh ((H7.out.ext hb3).mono hNB)
 have HF:=zh (qmu (eTx_mk (x:=((id:Int),[x])) (HC.out.ext hbw3)) HOK.out)
 have q0:=BL3.cell 0
 clear BL2 BR2 BS2 hNB H6L hb1 hb2 hb3 hbw2
 go_wp2_with fail
 refine HF.out.mono ?_
 rintro e w4 ⟨ct,rfl,ht4,hb4⟩
 obtain ⟨A8,n8,c8,rfl,hs8⟩:=qfd ht4
 have hn8:n8=1:=hs8.len.symm
 subst hn8
 have HT:=zh ht4
 clear q0 HF ht4 hs8 BL3
 go_upto_region 3 with fail
 obtain ⟨W5,hW_,hb5,BT⟩:=al1 w4 168 #[.int .i64 (id:Int),.slice A8 1 c8]
 rw [<-hW_]
 clear hW_
 obtain ⟨gt,hgt⟩:∃ g,w4.heap.size=g:=⟨_,rfl⟩
 have hqt:q≠gt:=by have:=BQ.lt;have:=hb4.size;omega
 have hb35:=(hb4.tr hb5)
 rw [hgt] at BT ⊢
 clear hgt
 have BQ5:=BQ.ext hb35
 have BR5:=BR3.ext hb35
 have BS5:=BS3.ext hb35
 have hbw5:=(hbw3.tr hb35)
 have H5:=zh ((H5.out.ext hb35).mono (fun b h=>h.1))
 have H6:=zh (H6.out.ext hb35)
 have H7:=zh ((H7.out.ext hb35).mono (fun b h=>h.1))
 have HT:=zh (eTx.mono (eTx.ext HT.out hb5) (G:=CB W.heap.size q) (fun b (hb:W3.heap.size<=b)=>by
  have h1:=BQ.lt
  have h2:=hbw3.size
  have h3:W.heap.size<=W3.heap.size:=Nat.le_trans hWq (Nat.le_of_lt h1)
  exact ⟨Nat.le_trans h3 hb,by omega⟩))
 have q0:=BQ5.cell 0
 have f0:=BQ5.frozen 0
 clear BQ BR3 BS3 hb4 hb5 hb35 hbw3
 go_upto_region 4 with fail
 have BQ6:Blk (W5.setCell ⟨q,0,none⟩ (.int .i64 ((id:Int)+1))) q 255 #[.int .i64 ((id:Int)+1),.slice A5 0 0,.slice A6 0 c6,.slice A7 0 0,.int .u32 0,.int .i32 0,.int .u32 0]:=BQ5.set_ 0 _
 have hg6:=qac W5 q 0 (.int .i64 ((id:Int)+1))
 have hk6:Keep (CB W.heap.size q) W5 (W5.setCell ⟨q,0,none⟩ (.int .i64 ((id:Int)+1))):=Keep.grown hg6 (fun g hg h=>by injection hg with hg;exact h.2 hg.symm)
 have H5:=zh (H5.out.keep hk6)
 have H6:=zh ((H6.out.keep (G:=fun b=>b≠q) (Keep.grown hg6 (fun g hg h=>by injection hg with hg;exact h hg.symm)) HA6.out (fun b h=>h.2)))
 have H7:=zh (H7.out.keep hk6)
 have HT:=zh (eTx.keep HT.out hk6)
 have BT6:=BT.grown hg6 (by intro e;injection e with e;exact hqt e.symm)
 have BR6:=BR5.grown hg6 (by intro e;injection e with e;omega)
 have BS6:=BS5.grown hg6 (by intro e;injection e with e;omega)
 have hbw6:=(hbw5.gw hg6)
 clear hg6 hk6 BQ5 BR5 BS5 BT hbw5 q0 f0
 generalize W5.setCell ⟨q,0,none⟩ (.int .i64 ((id:Int)+1))=w6 at *
 have D:=fun w' (h:Below w6.heap.size w6.drew w')=>za ((BQ6.ext ((zb _ _).drew.trans h)).cell 1) (two_ BT6 ((zb _ _).drew.trans h))
 refine r3 (S:=fun w'=>Below w6.heap.size w6.drew w') [(0,true),(1,true),(2,true),(3,true),(4,true),(5,true),(6,true),(7,false),(8,false),(9,true),(10,true),(11,true)] [(12,false)] (zb _ _) ?_
 repeat ((first|refine pT ?_|refine pF ?_);try go_frame)
 refine pD fun K hK=>?_;go_simp
 obtain ⟨gv,hgv⟩:∃ g,w6.heap.size=g:=⟨_,rfl⟩
 have hba:Below w6.heap.size w6 (w6.alloc (.cells #[.int .i64 (id:Int),.slice A8 1 c8] 168)).drew:=((zb _ _).alloc (zl _) _).drew
 have BV:Blk (w6.alloc (.cells #[.int .i64 (id:Int),.slice A8 1 c8] 168)).drew w6.heap.size 168 #[.int .i64 (id:Int),.slice A8 1 c8]:=Blk.new _ _ _
 have hda:Below w6.heap.size w6.drew (w6.alloc (.cells #[.int .i64 (id:Int),.slice A8 1 c8] 168)).drew:=show Below w6.heap.size w6.drew (w6.drew.alloc _) from (zb w6.heap.size w6.drew).alloc (zl _) _
 obtain ⟨Wa,hWa⟩:∃ W,W=(w6.alloc (.cells #[.int .i64 (id:Int),.slice A8 1 c8] 168)).drew:=⟨_,rfl⟩
 rw [<-hWa] at hba BV hda ⊢
 rw [hgv] at BV ⊢
 refine hK.out _ _ hda ?_
 clear hK K hWa
 obtain ⟨iX,hxi,hx0,hx1,hx2⟩:=ip Tryz.prog 168 (.agg #[.int .i64 0,.slice none 0 0]) 2 32
 refine qaj rfl (qae rfl) (fun K hK=>?_)
 refine qbm 34 (.tmp 31) (.tmp 33) 143 rfl rfl 168 iX _ 2 32 Tryz.underlying143 hxi hx0 hx1 hx2 rfl (by decide) A5 0 0 [] rfl (fun _=>⟨rfl,rfl⟩) rfl (fun b hb j u hu=>by simp at hu) ⟨gv,0,none⟩ 1 1 [.int .i64 (id:Int),.slice A8 1 c8] rfl rfl (fun j u hu=>by rw [Addr.add_mid];exact Blk.whole (cs:=[_,_]) BV j u hu) (eTx.one HT.out) (by omega) (by unfold maxLen;omega) (by omega) ?_
 intro A9 c9 w7 hown hgr
 have hbc:Below Wa.heap.size Wa w7:=(zb _ _).grown hgr (zl _) (fun k hk=>by cases hk)
 have hda7:=(hda.tr hbc)
 refine hK.out _ _ hda7 ?_
 clear hK K D
 have hbac:=(hba.tr hbc)
 have BQ7:=BQ6.ext hbac
 have BR7:=BR6.ext hbac
 have BS7:=BS6.ext hbac
 have BT7:=BT6.ext hbac
 have H6:=zh (H6.out.ext hbac)
 have H7:=zh (H7.out.ext hbac)
 have HT:=zh (eTx.ext HT.out hbac)
 have hbw7:=(hbw6.tr hbac)
 have HO7:=zh hown
 have hWa:W.heap.size<=Wa.heap.size:=by have:=hba.size;have:=BQ6.lt;omega
 clear hown hgr hbc hda7 hbac hba hda BV BQ6 BR6 BS6 BT6 hbw6 hxi hx0 hx1 hx2 iX hgv H5
 repeat ((first|refine pT ?_|refine pF ?_);try go_frame)
 refine qak ?_
 have q1:=BQ7.cell 1
 have f1:=BQ7.frozen 1
 refine pD fun K hK=>?_;go_simp
 refine hK.out _ _ trivial (qad ?_)
 clear hK K q1 f1
 have hnq:=qfy HO7.out BQ7 (by decide)
 have htx:Sl eTx w7 (CB W.heap.size q) A9 1 c9 [((id:Int),[x])]:=by
  have hE:OwnE eTx 168 w7 W.heap.size (CB W.heap.size q) A9 1 c9 [((id:Int),[x])]:=⟨[[.int .i64 (id:Int),.slice A8 1 c8]],by rw [show [[Value.int .i64 (id:Int),.slice A8 1 c8]].flatten=[]++[Value.int .i64 (id:Int),.slice A8 1 c8] by simp];exact qat HO7.out hWa,Els.one_ HT.out,rfl⟩
  exact hE.slB (fun b e=>⟨(hE.lt e).1,hnq b e⟩) (fun b h=>h)
 have hg8:=qac w7 q 1 (.slice A9 1 c9)
 have BQ8:Blk (w7.setCell ⟨q,1,none⟩ (.slice A9 1 c9)) q 255 #[.int .i64 ((id:Int)+1),.slice A9 1 c9,.slice A6 0 c6,.slice A7 0 0,.int .u32 0,.int .i32 0,.int .u32 0]:=BQ7.set_ 1 _
 have hk8:Keep (CB W.heap.size q) w7 (w7.setCell ⟨q,1,none⟩ (.slice A9 1 c9)):=Keep.grown hg8 (fun g hg h=>by injection hg with hg;exact h.2 hg.symm)
 have H5:=zh (htx.keep hk8)
 have H6:=zh ((H6.out.keep (G:=fun b=>b≠q) (Keep.grown hg8 (fun g hg h=>by injection hg with hg;exact h hg.symm)) HA6.out (fun b h=>h.2)).slB (G:=CB W.heap.size q) (fun b e=>⟨(H6.out.lt e).1,HA6.out b e⟩) (fun b h=>h))
 have H7:=zh (H7.out.keep hk8)
 have HT:=zh (eTx.keep HT.out hk8)
 have BT8:=BT7.grown hg8 (by intro e;injection e with e;exact hqt e.symm)
 have BR8:=BR7.grown hg8 (by intro e;injection e with e;omega)
 have BS8:=BS7.grown hg8 (by intro e;injection e with e;omega)
 have hbw8:=(hbw7.gw hg8)
 clear hnq htx hg8 hk8 BQ7 BT7 BR7 BS7 hbw7 HO7
 generalize w7.setCell ⟨q,1,none⟩ (.slice A9 1 c9)=w8 at *
 have q1:=BQ8.cell 1
 go_upto_region 7 with fail
 clear q1
 have D:=fun w' (h:Below w8.heap.size w8.drew w')=>za ((BQ8.ext ((zb _ _).drew.trans h)).cell 0) (za ((BQ8.ext ((zb _ _).drew.trans h)).cell 1) (za ((BQ8.ext ((zb _ _).drew.trans h)).cell 2) (za ((BQ8.ext ((zb _ _).drew.trans h)).cell 3) (two_ BT8 ((zb _ _).drew.trans h)))))
 refine r3 (S:=fun w'=>Below w8.heap.size w8.drew w') [(0,true),(1,true),(2,true),(3,true),(5,true),(4,false),(6,false)] [(7,false),(8,false)] (zb _ _) ?_
 repeat ((first|refine pT ?_|refine pF ?_);try go_frame)
 clear D
 have hd0:=(zb w8.heap.size w8).drew
 have HLD:=zh (eLed.ext (qkc (x:=(((id+1:Nat):Int),[((id:Int),[x])],[],[])) H5.out H6.out H7.out) hd0)
 have HF:=zh (lown0_ HLD.out (qnc _ _ HOK.out) rfl)
 refine pD fun K hK=>?_;go_simp
 refine HF.out.mono ?_
 rintro e w9 ho9
 obtain ⟨ds,rfl,hr9,hb9⟩:=ho9.owned
 refine hK.out _ _ hb9 ?_
 clear hK K HF ho9 HLD
 have HR9:=zh hr9
 have HF:=zh (qmu (eTx.ext HT.out (hd0.trans hb9)) HOK.out)
 refine pD fun K hK=>?_;go_simp
 refine HF.out.mono ?_
 rintro e w10 ⟨ts,rfl,hr10,hb10⟩
 have hd10:=(hb9.tr hb10)
 refine hK.out _ _ hd10 ?_
 clear hK K HF
 refine qak ?_
 have hb810:=hd0.trans hd10
 have BR10:=BR8.ext hb810
 have BS10:=BS8.ext hb810
 have hbw10:=(hbw8.tr hb810)
 have h89:w.heap.size<=w8.heap.size:=hbw8.size
 have h98:w8.heap.size<=w9.heap.size:=hb9.size
 have HR10:=zh (eLed.mono (eLed.ext HR9.out hb10) (G:=fun b=>w8.heap.size<=b) (fun b h=>h))
 have HT10:=zh (eTx.mono hr10 (G:=fun b=>w8.heap.size<=b) (fun b h=>Nat.le_trans h98 h))
 have hdl:ds.length=4:=eLed.len HR10.out
 have htl:ts.length=2:=eTx.len HT10.out
 have hdo:=eLed.one HR10.out
 have hto:=eTx.one HT10.out
 have hszd:(Tryz.prog.info? 147).map (·.size)=some ds.length:=by rw [hdl];kernel_rfl
 have hszt:(Tryz.prog.info? 168).map (·.size)=some ts.length:=by rw [htl];kernel_rfl
 have hr8:gr<w8.heap.size:=BR8.lt
 have hs8:gs<w8.heap.size:=BS8.lt
 clear hr9 hr10 hb9 hb10 hd10 hb810 HR9 BR8 BS8 hbw8 BQ8 BT8 H5 H6 H7 HT hd0
 have hth:=Blk.there (o:=0) (n:=4) BR10 (by simp)
 obtain ⟨B11,hg11⟩:=Blk.lay ds 0 BR10 (by rw [hdl];simp)
 rw [qai _ _ (by rw [hdl];rfl)] at B11
 refine qaj rfl (qae rfl) (fun K hK=>?_)
 refine qao 147 (.tmp 4) (.tmp 55) rfl rfl gr 0 ds rfl rfl (by rw [hdl];exact hth) hszd hdo ?_
 refine hK.out _ _ trivial ?_
 clear hK K hth
 have BS11:=BS10.grown hg11 (by intro e;injection e with e;exact hrs e.symm)
 have hbw11:=(hbw10.gw hg11)
 have HR11:=zh (eLed.keep HR10.out (Keep.grown hg11 (fun g hg h=>by injection hg with hg;omega)))
 have HT11:=zh (eTx.keep HT10.out (Keep.grown hg11 (fun g hg h=>by injection hg with hg;omega)))
 clear hg11 BR10 BS10 hbw10 HR10 HT10
 generalize w10.setCells gr 0 ds=w11 at *
 have hth:=Blk.there (o:=0) (n:=2) BS11 (by simp)
 obtain ⟨B12,hg12⟩:=Blk.lay ts 0 BS11 (by rw [htl];simp)
 rw [qai _ _ (by rw [htl];rfl)] at B12
 refine qaj rfl (qae rfl) (fun K hK=>?_)
 refine qao 168 (.tmp 5) (.tmp 57) rfl rfl gs 0 ts rfl rfl (by rw [htl];exact hth) hszt hto ?_
 refine hK.out _ _ trivial (qad ?_)
 clear hK K hth
 have BR12:=B11.grown hg12 (by intro e;injection e with e;exact hrs e)
 have hbw12:=(hbw11.gw hg12)
 have HR12:=eLed.mono (eLed.keep HR11.out (Keep.grown hg12 (fun g hg h=>by injection hg with hg;omega))) (G:=fun b=>w.heap.size<=b) (fun b h=>Nat.le_trans h89 h)
 have HT12:=eTx.mono (eTx.keep HT11.out (Keep.grown hg12 (fun g hg h=>by injection hg with hg;omega))) (G:=fun b=>w.heap.size<=b) (fun b h=>Nat.le_trans h89 h)
 have HH:=zh (za HR12 (za HT12 hbw12))
 clear hg12 HR12 HT12 hbw12 HR11 HT11 hbw11 B11 BS11
 generalize w11.setCells gs 0 ts=w12 at *
 go_wp2
 exact bodyPost_ret (v:=.tuple #[.agg ds.toArray,.agg ts.toArray]) (qgt rfl _ _ gr gs _ _ _ _ (0,0) (0,0) _ _ rfl BR12 Tryz.underlying147 rfl (by rw [List.size_toArray];exact hszd) rfl B12 Tryz.underlying168 rfl (by rw [List.size_toArray];exact hszt)) rfl ⟨ds,ts,rfl,HH.out⟩
def StartI (w:World) (r0 rj bd bx k:Nat) (wr:World):Prop:=∃ (cs cx:List Value) (x':DBd),Blk wr bd 31 cs.toArray/\Blk wr bx 38 cx.toArray/\eDB.rel wr (fun b=>bx<b) cs (TT k,[],[],[])/\eDB.rel wr (fun b=>bx<b) cx x'/\FineT cx/\OkD k x' /\
 Blk wr r0 31 #[.slice none 0 0,.slice none 0 0,.slice none 0 0,.slice none 0 0]/\Blk wr rj 38 #[.slice none 0 0,.slice none 0 0,.slice none 0 0,.slice none 0 0]/\Below w.heap.size w wr
def StartE (w:World) (e:Ending) (w':World):Prop:=∃ (cs cx:List Value) (x':DBd),e=.returned (.tuple #[.agg cs.toArray,.agg cx.toArray])/\eDB.rel w' (fun b=>w.heap.size<=b) cs (TT 3,[],[],[])/\eDB.rel w' (fun _=>True) cx x'/\Below w.heap.size w w'
theorem nilDB (w:World) (F:qab):eDB.rel w F [.slice none 0 0,.slice none 0 0,.slice none 0 0,.slice none 0 0] ([],[],[],[]):=qeg (x:=([],[],[],[])) (Sl.nil _ _) (Sl.nil _ _) (Sl.nil _ _) (Sl.nil _ _)
theorem next_ {FS:qab} {nb:ByteArray} {oB:Bool} (hk:k<3) (hnb:⟨(nmT k).toArray⟩=nb) (hoB:(k == 2)=oB) (h:eDB.rel w F cs (TT k,[],[],[])) (hS:Sl eCol w FS A 2 c (colsT.map qdf)):
  Calls Tryz.prog 21 #[.agg cs.toArray,.agg #[.string nb,.slice A 2 c,.int .i64 0,.bool oB]] w (DBE (TT (k+1),[],[],[]) 0 w):=by
 subst hnb hoB
 have hn:=nextT k hk
 have HF:=create_ (nm:=nmT k) (cols:=colsT) (key:=0) (only:=k == 2) h (okTT k (by omega)) hS (goodT k hk) hn.1 hn.2.1 (by rw [qhs];omega) rfl
 rw [hn.2.2,show (TT k).take k=TT k from List.take_of_length_le (by rw [qhs];exact zl _),show (TT k).drop k=[] from List.drop_of_length_le (by rw [qhs];exact zl _),TT_snoc] at HF
 exact HF
theorem next13_ {nb:ByteArray} {oB:Bool} (hk:k<3) (hnb:⟨(nmT k).toArray⟩=nb) (h:eDB.rel w F cs x) (hf:FineT cs) (hx:OkD k x) (hS:Sl eCol w F A 2 c (colsT.map qdf)):
  Calls Tryz.prog 23 #[.agg cs.toArray,.agg #[.string nb,.slice A 2 c,.int .i64 0,.bool oB]] w (AnyD F (k+1) w):=by
 subst hnb
 refine create13_ h hf hx (by omega) hS (by decide) (by decide) ?_ ?_
 ·have h3:k=0\/k=1\/k=2:=by omega
  rcases h3 with rfl|rfl|rfl <;> decide
 ·intro y hy
  simp only [colsT,List.map_cons,List.map_nil,List.mem_cons,List.not_mem_nil,or_false] at hy
  rcases hy with rfl|rfl <;> decide
theorem start_:Calls Tryz.prog 5 #[] w (StartE w):=by
 go_enter Tryz.func5,Tryz.ntmps5
 go_upto_region 2 with fail
 obtain ⟨W,hW_,hb1,B0,B1,B2,B3⟩:=al4 w 31 38 31 38 #[.slice none 0 0,.slice none 0 0,.slice none 0 0,.slice none 0 0] #[.slice none 0 0,.slice none 0 0,.slice none 0 0,.slice none 0 0] #[.slice none 0 0,.slice none 0 0,.slice none 0 0,.slice none 0 0] #[.slice none 0 0,.slice none 0 0,.slice none 0 0,.slice none 0 0]
 rw [<-hW_]
 clear hW_
 obtain ⟨r0,hr0⟩:∃ g,w.heap.size=g:=⟨_,rfl⟩
 obtain ⟨rj,hr1⟩:∃ g,w.heap.size+1=g:=⟨_,rfl⟩
 obtain ⟨bd,hbd⟩:∃ g,w.heap.size+1+1=g:=⟨_,rfl⟩
 obtain ⟨bx,hbx⟩:∃ g,w.heap.size+1+1+1=g:=⟨_,rfl⟩
 rw [hbx] at B3 ⊢
 rw [hbd] at B2 ⊢
 rw [hr1] at B1 ⊢
 rw [hr0] at B0 ⊢
 have HO:=zh (show w.heap.size<=r0/\r0<rj/\rj<bd/\bd<bx from ⟨by omega,by omega,by omega,by omega⟩)
 clear hr0 hr1 hbd hbx
 have HI:=zh (show StartI w r0 rj bd bx 0 W from ⟨_,_,([],[],[],[]),B2,B3,nilDB _ _,nilDB _ _,⟨none,0,0,_,rfl,.inl rfl⟩,⟨Nat.zero_le _,fun t h=>(by cases h),rfl⟩,B0,B1,hb1⟩)
 clear B0 B1 B2 B3 hb1
 go_wp2_with fail
 go_loopw [4] (fun i wr=>∃ k:Nat,i=.int .i64 k/\k<=3/\StartI w r0 rj bd bx k wr) (fun i _=>3 - (intOf i).toNat)
 case atStart=>exact ⟨0,rfl,Nat.zero_le _,HI.out⟩
 case round =>
  clear HI
  obtain ⟨k,rfl,hk,cs,cx,x',B2,B3,hcs,hcx,hfx,hox,B0,B1,hbw⟩:=hrel
  have HO2:=zh (za B0 (za B1 hbw))
  have HX:=zh (za hfx hox)
  have HC:=zh hcs
  have HCX:=zh hcx
  obtain ⟨A1,n1,c1,A2,n2,c2,A3,n3,c3,A4,n4,c4,rfl,_,_,_,_⟩:=qav hcs
  obtain ⟨Y1,m1,d1,Y2,m2,d2,Y3,m3,d3,Y4,m4,d4,rfl,_,_,_,_⟩:=qav hcx
  have HB2:=zh B2
  have HB3:=zh B3
  clear hcs hcx hfx hox B0 B1 B2 B3 hbw
  rcases Nat.lt_or_ge k 3 with hlt|hge
  ·have hd:decide ((k:Int)<3)=true:=by simp;omega
   obtain ⟨nb,hnb⟩:∃ b:ByteArray,⟨(nmT k).toArray⟩=b:=⟨_,rfl⟩
   obtain ⟨oB,hoB⟩:∃ b,(k == 2)=b:=⟨_,rfl⟩
   have HNB:=zh (za hnb hoB)
   have HSH:=fun (w':World)=>shape_ (w:=w') k hlt
   unfold ShapeR at HSH
   rw [hnb,hoB] at HSH
   have HSH:=zh HSH
   clear hnb hoB
   go_wp2_with fail
   have D:=fun w' (h:Below wr.heap.size wr.drew w')=>four (HB2.out.ext ((zb _ _).drew.trans h)) (zb _ _)
   refine r3 (S:=fun w'=>Below wr.heap.size wr.drew w') [(0,true),(1,true),(2,false),(3,false),(4,true)] [(5,true),(6,true),(7,false)] (zb _ _) ?_
   repeat ((first|refine pT ?_|refine pF ?_);try go_frame)
   clear D
   refine pD fun K hK=>?_;go_simp
   refine (HSH.out _).mono ?_
   rintro e w1 ⟨g,rfl,hS,hb1⟩
   have HS:=zh hS
   have HF:=zh (next_ hlt HNB.out.1 HNB.out.2 (eDB.ext HC.out ((zb _ _).drew.trans hb1)) hS)
   refine hK.out _ _ hb1 ?_
   clear hK K hS
   refine pD fun K hK=>?_;go_simp
   refine HF.out.mono ?_
   rintro e w2 ⟨cz,rfl,hz,hb2⟩
   have hb12:=hb1.tr hb2
   refine hK.out _ _ hb12 ?_
   clear hK K HF
   repeat ((first|refine pT ?_|refine pF ?_);try go_frame)
   refine qak ?_
   repeat ((first|refine pT ?_|refine pF ?_);try go_frame)
   have hbw2:=(zb wr.heap.size wr).drew.trans hb12
   have hczl:cz.length=4:=eDB.len hz
   have B2:=HB2.out.ext hbw2
   have hth:=Blk.there (o:=0) (n:=4) B2 (by simp)
   refine qaj rfl (qae rfl) (fun K hK=>?_)
   refine qao 31 (.tmp 2) (.tmp 16) rfl rfl bd 0 cz rfl rfl (by rw [hczl];exact hth) (by rw [hczl];kernel_rfl) (eDB.one hz) ?_
   obtain ⟨BN,hgN⟩:=lay4 B2 cz hczl
   refine hK.out _ _ trivial (qad ?_)
   clear hK K hth
   have hkN:Keep (fun b=>b≠bd) w2 (w2.setCells bd 0 cz):=Keep.grown hgN (fun g hg h=>by injection hg with hg;exact h hg.symm)
   have hk3:Keep (fun b=>b≠bd) wr (w2.setCells bd 0 cz):=(Keep.below hbw2).trans hkN
   have hlw:bx<w1.heap.size:=by have:=HB3.out.lt;have:=hb1.size;have e:wr.drew.heap.size=wr.heap.size:=rfl;omega
   have HZ:=zh (eDB.mono (eDB.keep hz (hkN.mono (fun b h=>by have:=HO.out;omega))) (G:=fun b=>bx<b) (fun b h=>by omega))
   have HCX3:=zh (eDB.keep HCX.out (hk3.mono (fun b h=>by have:=HO.out;omega)))
   have HB3:=zh (Blk.keep HB3.out hk3 (by have:=HO.out;omega))
   have HO3:=zh (za (Blk.keep HO2.out.1 hk3 (by have:=HO.out;omega)) (za (Blk.keep HO2.out.2.1 hk3 (by have:=HO.out;omega)) (((HO2.out.2.2.tr hbw2)).grown hgN ((HO2.out.2.2.tr hbw2)).size (fun k hk=>by injection hk with hk;have:=HO.out;omega))))
   have HBN:=zh BN
   clear hz hb12 hb1 hb2 hbw2 hkN hk3 hgN BN B2 hlw HB2 HC HCX HO2
   generalize w2.setCells bd 0 cz=w3 at *
   go_wp2_with fail
   have D:=fun w' (h:Below w3.heap.size w3.drew w')=>four (HB3.out.ext ((zb _ _).drew.trans h)) (zb _ _)
   refine r3 (S:=fun w'=>Below w3.heap.size w3.drew w') [(0,true),(1,true),(2,false),(3,false),(4,true)] [(5,true),(6,true),(7,false)] (zb _ _) ?_
   repeat ((first|refine pT ?_|refine pF ?_);try go_frame)
   clear D
   refine pD fun K hK=>?_;go_simp
   refine (HSH.out _).mono ?_
   rintro e w4 ⟨g4,rfl,hS,hb1⟩
   have hlw:bx<w3.drew.heap.size:=HB3.out.lt
   have HF:=zh (next13_ (oB:=oB) hlt HNB.out.1 (eDB.ext HCX3.out ((zb _ _).drew.trans hb1)) HX.out.1 HX.out.2 (hS.mono (G:=fun b=>bx<b) (fun b h=>by omega)))
   refine hK.out _ _ hb1 ?_
   clear hK K hS
   refine pD fun K hK=>?_;go_simp
   refine HF.out.mono ?_
   rintro e w5 ⟨cy,y',r,rfl,hz,hfy,hoy,hb2⟩
   have hb12:=hb1.tr hb2
   refine hK.out _ _ hb12 ?_
   clear hK K HF
   repeat ((first|refine pT ?_|refine pF ?_);try go_frame)
   refine qak ?_
   repeat ((first|refine pT ?_|refine pF ?_);try go_frame)
   have hbw2:=(zb w3.heap.size w3).drew.trans hb12
   have hcyl:cy.length=4:=eDB.len hz
   have B2:=HB3.out.ext hbw2
   have hth:=Blk.there (o:=0) (n:=4) B2 (by simp)
   refine qaj rfl (qae rfl) (fun K hK=>?_)
   refine qao 38 (.tmp 3) (.tmp 23) rfl rfl bx 0 cy rfl rfl (by rw [hcyl];exact hth) (by rw [hcyl];kernel_rfl) (eDB.one hz) ?_
   obtain ⟨BN,hgN⟩:=lay4 B2 cy hcyl
   refine hK.out _ _ trivial (qad ?_)
   clear hK K hth
   have hkN:Keep (fun b=>b≠bx) w5 (w5.setCells bx 0 cy):=Keep.grown hgN (fun g hg h=>by injection hg with hg;exact h hg.symm)
   have hk3:Keep (fun b=>b≠bx) w3 (w5.setCells bx 0 cy):=(Keep.below hbw2).trans hkN
   have hlw4:bx<w4.heap.size:=by have:=hb1.size;omega
   have HI:=zh (show StartI w r0 rj bd bx (k+1) (w5.setCells bx 0 cy) from ⟨cz,cy,y',Blk.keep HBN.out hk3 (by have:=HO.out;omega),BN,eDB.keep HZ.out (hk3.mono (fun b h=>by omega)),
    eDB.mono (eDB.keep hz (hkN.mono (fun b h=>by rcases h with h|h <;> omega))) (fun b h=>by rcases h with h|h <;> omega),hfy,hoy,Blk.keep HO3.out.1 hk3 (by have:=HO.out;omega),Blk.keep HO3.out.2.1 hk3 (by have:=HO.out;omega),
    ((HO3.out.2.2.tr hbw2)).grown hgN ((HO3.out.2.2.tr hbw2)).size (fun k hk=>by injection hk with hk;have:=HO.out;omega)⟩)
   clear hz hb12 hb1 hb2 hbw2 hkN hk3 hgN BN B2 hlw hlw4
   generalize w5.setCells bx 0 cy=w6 at *
   go_wp2
   go_roundw
   case rel=>exact ⟨k+1,by go_num,by omega,HI.out⟩
   case measure=>simp [intOf];omega
  ·have hd:decide ((k:Int)<3)=false:=by simp;omega
   obtain rfl:k=3:=by omega
   go_wp2_with fail
   have D:=fun w' (h:Blk w' bd 31 #[.slice A1 n1 c1,.slice A2 n2 c2,.slice A3 n3 c3,.slice A4 n4 c4]/\Blk w' bx 38 #[.slice Y1 m1 d1,.slice Y2 m2 d2,.slice Y3 m3 d3,.slice Y4 m4 d4])=>za (four h.1 (zb _ _)) (four h.2 (zb _ _))
   refine r2 (S:=fun w'=>Blk w' bd 31 #[.slice A1 n1 c1,.slice A2 n2 c2,.slice A3 n3 c3,.slice A4 n4 c4]/\Blk w' bx 38 #[.slice Y1 m1 d1,.slice Y2 m2 d2,.slice Y3 m3 d3,.slice Y4 m4 d4]) [(0,true),(1,true),(2,false),(3,false)] ⟨Blk.drew HB2.out,Blk.drew HB3.out⟩ ?_
   repeat ((first|refine pT ?_|refine pF ?_);try go_frame)
   clear D
   have E0:=Blk.drew HO2.out.1
   have hth:=Blk.there (o:=0) (n:=4) E0 (by simp)
   obtain ⟨F0,hg0⟩:=lay4 E0 [.slice A1 n1 c1,.slice A2 n2 c2,.slice A3 n3 c3,.slice A4 n4 c4] rfl
   refine qaj rfl (qae rfl) (fun K hK=>?_)
   refine qao 31 (.tmp 0) (.tmp 25) rfl rfl r0 0 [.slice A1 n1 c1,.slice A2 n2 c2,.slice A3 n3 c3,.slice A4 n4 c4] rfl rfl hth (by kernel_rfl) (eDB.one HC.out) ?_
   have hk0:Keep (fun b=>b≠r0) wr.drew (wr.drew.setCells r0 0 [.slice A1 n1 c1,.slice A2 n2 c2,.slice A3 n3 c3,.slice A4 n4 c4]):=Keep.grown hg0 (fun g hg h=>by injection hg with hg;exact h hg.symm)
   have hwd:=HO2.out.2.2.drew
   have hbw0:=hwd.grown hg0 hwd.size (fun k hk=>by injection hk with hk;have:=HO.out;omega)
   refine hK.out _ _ ⟨Blk.keep (Blk.drew HB2.out) hk0 (by have:=HO.out;omega),Blk.keep (Blk.drew HB3.out) hk0 (by have:=HO.out;omega)⟩ ?_
   clear hK K hth
   have E1:=Blk.keep (Blk.drew HO2.out.2.1) hk0 (by have:=HO.out;omega)
   have HA:=zh (eDB.keep HC.out ((Keep.drew _ wr).trans (hk0.mono (fun b h=>by have:=HO.out;omega))))
   have HAX:=zh (eDB.keep HCX.out ((Keep.drew _ wr).trans (hk0.mono (fun b h=>by have:=HO.out;omega))))
   have HS2:=zh (za (Blk.keep (Blk.drew HB2.out) hk0 (by have:=HO.out;omega)) (Blk.keep (Blk.drew HB3.out) hk0 (by have:=HO.out;omega)))
   clear hk0 hg0 E0 hwd
   generalize wr.drew.setCells r0 0 [.slice A1 n1 c1,.slice A2 n2 c2,.slice A3 n3 c3,.slice A4 n4 c4]=w2 at *
   have hth:=Blk.there (o:=0) (n:=4) E1 (by simp)
   obtain ⟨F1,hg1⟩:=lay4 E1 [.slice Y1 m1 d1,.slice Y2 m2 d2,.slice Y3 m3 d3,.slice Y4 m4 d4] rfl
   refine qaj rfl (qae rfl) (fun K hK=>?_)
   refine qao 38 (.tmp 1) (.tmp 26) rfl rfl rj 0 [.slice Y1 m1 d1,.slice Y2 m2 d2,.slice Y3 m3 d3,.slice Y4 m4 d4] rfl rfl hth (by kernel_rfl) (eDB.one HCX.out) ?_
   have hk1:Keep (fun b=>b≠rj) w2 (w2.setCells rj 0 [.slice Y1 m1 d1,.slice Y2 m2 d2,.slice Y3 m3 d3,.slice Y4 m4 d4]):=Keep.grown hg1 (fun g hg h=>by injection hg with hg;exact h hg.symm)
   have hbw1:=hbw0.grown hg1 hbw0.size (fun k hk=>by injection hk with hk;have:=HO.out;omega)
   refine hK.out _ _ ⟨Blk.keep HS2.out.1 hk1 (by have:=HO.out;omega),Blk.keep HS2.out.2 hk1 (by have:=HO.out;omega)⟩ (qad ?_)
   clear hK K hth
   have F0':=Blk.keep F0 hk1 (by have:=HO.out;omega)
   have HE:=zh (show StartE w (.returned (.tuple #[.agg #[.slice A1 n1 c1,.slice A2 n2 c2,.slice A3 n3 c3,.slice A4 n4 c4],.agg #[.slice Y1 m1 d1,.slice Y2 m2 d2,.slice Y3 m3 d3,.slice Y4 m4 d4]])) (w2.setCells rj 0 [.slice Y1 m1 d1,.slice Y2 m2 d2,.slice Y3 m3 d3,.slice Y4 m4 d4]) from ⟨[.slice A1 n1 c1,.slice A2 n2 c2,.slice A3 n3 c3,.slice A4 n4 c4],[.slice Y1 m1 d1,.slice Y2 m2 d2,.slice Y3 m3 d3,.slice Y4 m4 d4],x',rfl,eDB.mono (eDB.keep HA.out (hk1.mono (fun b h=>by have:=HO.out;omega))) (fun b h=>by have:=HO.out;omega),eDB.mono (eDB.keep HAX.out (hk1.mono (fun b h=>by have:=HO.out;omega))) (fun _ _=>trivial),hbw1⟩)
   clear hk1 hg1 hbw1 hbw0 F0 E1
   generalize w2.setCells rj 0 [.slice Y1 m1 d1,.slice Y2 m2 d2,.slice Y3 m3 d3,.slice Y4 m4 d4]=w3 at *
   go_wp2
   exact bodyPost_ret (v:=.tuple #[.agg #[.slice A1 n1 c1,.slice A2 n2 c2,.slice A3 n3 c3,.slice A4 n4 c4],.agg #[.slice Y1 m1 d1,.slice Y2 m2 d2,.slice Y3 m3 d3,.slice Y4 m4 d4]]) (qgt rfl _ _ r0 rj _ _ _ _ (0,0) (0,0) _ _ rfl F0' Tryz.underlying31 rfl (by kernel_rfl) rfl F1 Tryz.underlying38 rfl (by kernel_rfl)) rfl HE.out
theorem lay5 {t:TypeId} {a b c d e:Value} (B:Blk w g t #[a,b,c,d,e]) (cz:List Value) (hl:cz.length=5):Blk (w.setCells g 0 cz) g t cz.toArray/\w.grownBy (w.setCells g 0 cz) (some g):=by
 obtain ⟨B9,hg9⟩:=Blk.lay cz 0 B (by rw [hl];simp)
 rw [qai _ _ (by rw [hl];rfl)] at B9
 exact ⟨B9,hg9⟩
theorem toRef10_ {A':Option Addr} {n' c':Nat} {key:Int} {only:Bool}:Calls Tryz.prog 30 #[.agg #[.string nm,.slice A n c,.int .i64 key,.bool only,.slice A' n' c']] w fun e w' =>
  e=.returned (.agg #[.string nm,.slice A n c,.int .i64 key,.bool only,.slice A' n' c'])/\Below w.heap.size w w':=by
 go_enter Tryz.func30,Tryz.ntmps30
 go_upto_region 1 with fail
 obtain ⟨W,hW_,hb1,B0,B1⟩:=al2 w 120 118 #[.string nm,.slice A n c,.int .i64 key,.bool only,.slice A' n' c'] #[.string ⟨#[]⟩,.slice none 0 0,.int .i64 0,.bool false,.slice none 0 0]
 rw [<-hW_]
 clear hW_
 have q0:=B0.cell 0
 have q1:=B0.cell 1
 have q2:=B0.cell 2
 have q3:=B0.cell 3
 have q4:=B0.cell 4
 obtain ⟨gr,hgr⟩:∃ g,w.heap.size+1=g:=⟨_,rfl⟩
 have hgw:w.heap.size<=gr:=by omega
 rw [hgr] at B1 ⊢
 clear hgr B0
 have hth:=Blk.there (o:=0) (n:=5) B1 (by simp)
 obtain ⟨B9,hg9⟩:=lay5 B1 [.string nm,.slice A n c,.int .i64 key,.bool only,.slice A' n' c'] rfl
 have hbw:=(hb1.gw hg9)
 clear hg9
 go_wp2_with ((with_reducible refine sS 2 ?_);(refine wpList_store_mid rfl 118 _ _ rfl gr 0 #[.string nm,.slice A n c,.int .i64 key,.bool only,.slice A' n' c'] rfl rfl ?zs ?zt ?zo ?_))
 case zs=>exact hth
 case zt=>kernel_rfl
 case zo=>simp [Value.oneCell']
 clear hth q0 q1 q2 q3 q4 hb1 B1
 generalize W.setCells gr 0 [.string nm,.slice A n c,.int .i64 key,.bool only,.slice A' n' c']=wz at *
 go_wp2
 exact bodyPost_ret (v:=.agg #[.string nm,.slice A n c,.int .i64 key,.bool only,.slice A' n' c']) (results_cell_row rfl _ _ gr _ _ (0,0) _ rfl B9 Tryz.underlying118 rfl rfl) rfl ⟨rfl,hbw⟩
def AnyL (w:World) (e:Ending) (w':World):Prop:=∃ (A:Option Addr) (n c:Nat) (A':Option Addr) (n' c':Nat),e=.returned (.agg #[.slice A n c,.slice A' n' c'])/\Below w.heap.size w w'
theorem toRef12_ {A':Option Addr} {n' c':Nat} {hs ws:List Hld} (h1:Sl eHld w F A n c hs) (h2:Sl eHld w F A' n' c' ws) (hn:n<=10000) (hn':n'<=10000):Calls Tryz.prog 29 #[.agg #[.slice A n c,.slice A' n' c']] w (AnyL w):=by
 have H1:=zh h1
 have H2:=zh h2
 clear h1 h2
 obtain ⟨i0,hi,hz0,hz1,hz2⟩:=ip Tryz.prog 219 (.agg #[.int .i64 0,.string ⟨#[]⟩,.bool false]) 3 32
 go_enter Tryz.func29,Tryz.ntmps29
 go_wp2_with fail
 obtain ⟨Wz,hW_,hbz,B1,B2,B8⟩:=al3 w 29 36 36 #[.slice A n c,.slice A' n' c'] #[.slice none 0 0,.slice none 0 0] #[.slice none 0 0,.slice none 0 0]
 rw [<-hW_]
 clear hW_
 obtain ⟨g1,hg1⟩:∃ g,w.heap.size=g:=⟨_,rfl⟩
 obtain ⟨g2,hg2⟩:∃ g,w.heap.size+1=g:=⟨_,rfl⟩
 obtain ⟨g8,hg8⟩:∃ g,w.heap.size+1+1=g:=⟨_,rfl⟩
 rw [hg8] at B8 ⊢
 rw [hg2] at B2 ⊢
 rw [hg1] at B1 ⊢
 have HO:=zh (show w.heap.size<=g1/\g1<g2/\g2<g8/\g8<Wz.heap.size from ⟨by omega,by omega,by omega,B8.lt⟩)
 clear hg1 hg2 hg8
 have H1z:=zh (H1.out.bound flat_hld.bnd |>.ext hbz)
 have H2z:=zh (H2.out.bound flat_hld.bnd |>.ext hbz)
 have HBZ:=zh hbz
 clear hbz H1 H2
 go_loopw [4] (fun i wr=>∃ (j c7:Nat) (A7:Option Addr) (X:List Value),i=.int .i64 j/\j<=n/\wr.ownsRow Wz.heap.size 219 3 (.slice A7 j c7) j X/\Blk wr g8 36 #[.slice A7 j c7,.slice none 0 0]/\Wz.grownBy wr (some g8)) (fun i _=>n - (intOf i).toNat)
 case atStart=>exact ⟨0,0,none,[],rfl,Nat.zero_le _,World.ownsRow_nil _ _ _ _,B8,qby _ _⟩
 case round =>
  obtain ⟨j,c7,A7,X,rfl,hj,own,E,gn⟩:=hrel
  have C:=B1.grown gn (fun e=>by injection e with e;have:=HO.out;omega)
  have qc:=C.cell 0
  have HOW:=zh own
  have HEE:=zh E
  have HGN:=zh gn
  clear own E gn
  rcases Nat.lt_or_ge j n with hlt|hge
  ·have hd:decide ((j:Int)<(n:Int))=true:=by simp;omega
   have hjn:(j:Int)<(n:Int):=by omega
   obtain ⟨b,off,rfl,_,_,hbl⟩:=H1z.out.some_ (by omega)
   obtain ⟨y,hy⟩:∃ y,hs[j]? = some y:=⟨_,List.getElem?_eq_getElem (by rw [H1z.out.len];omega)⟩
   obtain ⟨cs,hcs,hcell⟩:=H1z.out.at_ hy
   obtain ⟨_,_,rfl,rfl,_,_,rfl,rfl,rfl⟩:=hcs
   simp only [show eHld.k=3 from rfl] at hcell
   have hown:∀ x,x<Wz.heap.size->some x≠(Value.slice A7 j c7).ownBlock:=fun x hx e=>by have:=(HOW.out.lt x e.symm).1;omega
   have hcr:∀ (i:Nat) u,i<3->Wz.cell? ⟨b,off+j * 3+i,none⟩=some u->wr.drew.cell? ⟨b,off+j * 3+i,none⟩=some u:=fun i u _ h=>(World.cell?_of_block (HGN.out.block b hbl (fun e=>by injection e with e;have:=HO.out;omega))).trans h
   have hbr:b<wr.heap.size:=Nat.lt_of_lt_of_le hbl HGN.out.size
   have D:=fun w' (h:wr.drew.grownBy w' (Value.slice A7 j c7).ownBlock)=>za (((Blk.drew C).grown h (hown _ (by have:=HO.out;omega))).cell 0) (za (((Blk.drew HEE.out).grown h (hown _ (by have:=HO.out;omega))).cell 0) (za
    (show w'.cell? ⟨b,off+j * 3,none⟩=some (.int .i64 y.1) from (World.cell?_of_block (h.block b hbr (hown b hbl))).trans (hcr 0 _ (by omega) (hcell 0 _ rfl))) (za
    (show w'.cell? ⟨b,off+j * 3+1,none⟩=some (.string y.2.1) from (World.cell?_of_block (h.block b hbr (hown b hbl))).trans (hcr 1 _ (by omega) (hcell 1 _ rfl)))
    (show w'.cell? ⟨b,off+j * 3+2,none⟩=some (.bool y.2.2) from (World.cell?_of_block (h.block b hbr (hown b hbl))).trans (hcr 2 _ (by omega) (hcell 2 _ rfl))))))
   clear hy hcell hcr
   go_wp2_with fail
   clear qc
   refine r3 (S:=fun w'=>wr.drew.grownBy w' (Value.slice A7 j c7).ownBlock) [(0,true),(1,true),(2,true),(3,true),(4,true),(5,true),(6,true),(7,true),(8,true),(9,true),(10,true),(11,true),(12,true),(13,true),(14,true),(15,true),(16,true),(17,true),(18,true),(19,true),(20,true),(21,false),(22,false),(23,true)] [(24,false)] (qby _ _) ?_
   repeat ((first|refine pT ?_|refine pF ?_);try go_frame)
   clear D
   refine pD fun K hK=>?_;go_simp
   have hgA:wr.drew.grownBy (wr.alloc (.cells #[.int .i64 y.1,.string y.2.1,.bool y.2.2] 219)).drew (Value.slice A7 j c7).ownBlock:=World.grownBy_alloc _ _ _
   have X1:Blk (wr.alloc (.cells #[.int .i64 y.1,.string y.2.1,.bool y.2.2] 219)).drew wr.heap.size 219 #[.int .i64 y.1,.string y.2.1,.bool y.2.2]:=Blk.drew (Blk.new wr _ _)
   have ownA:=(HOW.out.alloc (.cells #[.int .i64 y.1,.string y.2.1,.bool y.2.2] 219)).drew
   have hsz:Wz.heap.size<=(wr.alloc (.cells #[.int .i64 y.1,.string y.2.1,.bool y.2.2] 219)).drew.heap.size:=by have:=HGN.out.size;simp;omega
   refine hK.out _ _ hgA ?_
   clear hK K
   generalize (wr.alloc (.cells #[.int .i64 y.1,.string y.2.1,.bool y.2.2] 219)).drew=wa at *
   refine qaj rfl (qae rfl) (fun K hK=>?_)
   refine qdo 36 (.tmp 15) (.tmp 35) 34 rfl rfl Wz.heap.size 219 i0 _ 3 32 Tryz.underlying34 hi hz0 hz1 hz2 rfl (by decide) _ j X rfl ownA ⟨wr.heap.size,0,none⟩ 1 1 [.int .i64 y.1,.string y.2.1,.bool y.2.2] rfl rfl (Row.of_blk X1 (Nat.zero_le _) 1 1 (zl _)).src (by intro u hu;simp at hu;rcases hu with rfl|rfl|rfl <;> rfl) (by unfold maxLen;omega) (by omega) hsz ?_
   intro A9 c9 w5 own5 hg5
   go_frame
   have hg15:=World.grownBy.trans hgA hg5
   refine hK.out _ _ hg15 ?_
   clear hK K
   repeat ((first|refine pT ?_|refine pF ?_);try go_frame)
   refine qak ?_
   have E5:=(Blk.drew HEE.out).grown hg15 (hown _ (by have:=HO.out;omega))
   have f0:=E5.frozen 0
   have q0:=E5.cell 0
   refine pD fun K hK=>?_;go_simp
   have hg6:=qac w5 g8 0 (.slice A9 (j+1) c9)
   have own6:=own5.kept hg6 (by
    cases ho:(Value.slice A9 (j+1) c9).ownBlock with
    | none=>exact .inl rfl
    | some x=>exact .inr (fun e=>by injection e with e;have:=(own5.lt x ho).1;have:=HO.out;omega))
   have E6:=E5.set_ 0 (.slice A9 (j+1) c9)
   have gn6:Wz.grownBy (w5.setCell ⟨g8,0,none⟩ (.slice A9 (j+1) c9)) (some g8):=qah (HGN.out.andThen (World.grownBy.trans (qez wr _) hg15) (fun k hk=>.inl (HOW.out.lt k hk).1)) hg6
   refine hK.out _ _ trivial (qad ?_)
   clear hK K f0 q0 hg6 own5 hg5 hg15 E5 hgA X1 ownA hsz hown
   have HX:=zh (za own6 (za E6 gn6))
   clear own6 E6 gn6
   go_wp2
   go_roundw
   case rel=>exact ⟨j+1,c9,A9,_,by go_num,by omega,HX.out.1,by simpa using HX.out.2.1,HX.out.2.2⟩
   case measure=>simp [intOf];omega
  ·have hd:decide ((j:Int)<(n:Int))=false:=by simp;omega
   obtain rfl:n=j:=by omega
   have HE:=zh (za HEE.out HGN.out)
   clear HEE HGN HOW C
   go_wp2_with fail
   clear qc
   go_loopw [5] (fun i wr=>∃ (j c8:Nat) (A8:Option Addr) (X:List Value),i=.int .i64 j/\j<=n'/\wr.ownsRow Wz.heap.size 219 3 (.slice A8 j c8) j X/\Blk wr g8 36 #[.slice A7 n c7,.slice A8 j c8]/\Wz.grownBy wr (some g8)) (fun i _=>n' - (intOf i).toNat)
   case atStart=>exact ⟨0,0,none,[],rfl,Nat.zero_le _,World.ownsRow_nil _ _ _ _,HE.out.1,HE.out.2⟩
   case round =>
    obtain ⟨j,c8,A8,X,rfl,hj,own,E,gn⟩:=hrel
    have C:=B1.grown gn (fun e=>by injection e with e;have:=HO.out;omega)
    have qc:=C.cell 1
    have HOW:=zh own
    have HEE:=zh E
    have HGN:=zh gn
    clear own E gn
    rcases Nat.lt_or_ge j n' with hlt|hge
    ·have hd:decide ((j:Int)<(n':Int))=true:=by simp;omega
     have hjn:(j:Int)<(n':Int):=by omega
     obtain ⟨b,off,rfl,_,_,hbl⟩:=H2z.out.some_ (by omega)
     obtain ⟨y,hy⟩:∃ y,ws[j]? = some y:=⟨_,List.getElem?_eq_getElem (by rw [H2z.out.len];omega)⟩
     obtain ⟨cs,hcs,hcell⟩:=H2z.out.at_ hy
     obtain ⟨_,_,rfl,rfl,_,_,rfl,rfl,rfl⟩:=hcs
     simp only [show eHld.k=3 from rfl] at hcell
     have hown:∀ x,x<Wz.heap.size->some x≠(Value.slice A8 j c8).ownBlock:=fun x hx e=>by have:=(HOW.out.lt x e.symm).1;omega
     have hcr:∀ (i:Nat) u,i<3->Wz.cell? ⟨b,off+j * 3+i,none⟩=some u->wr.drew.cell? ⟨b,off+j * 3+i,none⟩=some u:=fun i u _ h=>(World.cell?_of_block (HGN.out.block b hbl (fun e=>by injection e with e;have:=HO.out;omega))).trans h
     have hbr:b<wr.heap.size:=Nat.lt_of_lt_of_le hbl HGN.out.size
     have D:=fun w' (h:wr.drew.grownBy w' (Value.slice A8 j c8).ownBlock)=>za (((Blk.drew C).grown h (hown _ (by have:=HO.out;omega))).cell 1) (za (((Blk.drew HEE.out).grown h (hown _ (by have:=HO.out;omega))).cell 1) (za
      (show w'.cell? ⟨b,off+j * 3,none⟩=some (.int .i64 y.1) from (World.cell?_of_block (h.block b hbr (hown b hbl))).trans (hcr 0 _ (by omega) (hcell 0 _ rfl))) (za
      (show w'.cell? ⟨b,off+j * 3+1,none⟩=some (.string y.2.1) from (World.cell?_of_block (h.block b hbr (hown b hbl))).trans (hcr 1 _ (by omega) (hcell 1 _ rfl)))
      (show w'.cell? ⟨b,off+j * 3+2,none⟩=some (.bool y.2.2) from (World.cell?_of_block (h.block b hbr (hown b hbl))).trans (hcr 2 _ (by omega) (hcell 2 _ rfl))))))
     clear hy hcell hcr
     go_wp2_with fail
     clear qc
     refine r3 (S:=fun w'=>wr.drew.grownBy w' (Value.slice A8 j c8).ownBlock) [(0,true),(1,true),(2,true),(3,true),(4,true),(5,true),(6,true),(7,true),(8,true),(9,true),(10,true),(11,true),(12,true),(13,true),(14,true),(15,true),(16,true),(17,true),(18,true),(19,true),(20,true),(21,false),(22,false),(23,true)] [(24,false)] (qby _ _) ?_
     repeat ((first|refine pT ?_|refine pF ?_);try go_frame)
     clear D
     refine pD fun K hK=>?_;go_simp
     have hgA:wr.drew.grownBy (wr.alloc (.cells #[.int .i64 y.1,.string y.2.1,.bool y.2.2] 219)).drew (Value.slice A8 j c8).ownBlock:=World.grownBy_alloc _ _ _
     have X1:Blk (wr.alloc (.cells #[.int .i64 y.1,.string y.2.1,.bool y.2.2] 219)).drew wr.heap.size 219 #[.int .i64 y.1,.string y.2.1,.bool y.2.2]:=Blk.drew (Blk.new wr _ _)
     have ownA:=(HOW.out.alloc (.cells #[.int .i64 y.1,.string y.2.1,.bool y.2.2] 219)).drew
     have hsz:Wz.heap.size<=(wr.alloc (.cells #[.int .i64 y.1,.string y.2.1,.bool y.2.2] 219)).drew.heap.size:=by have:=HGN.out.size;simp;omega
     refine hK.out _ _ hgA ?_
     clear hK K
     generalize (wr.alloc (.cells #[.int .i64 y.1,.string y.2.1,.bool y.2.2] 219)).drew=wa at *
     refine qaj rfl (qae rfl) (fun K hK=>?_)
     refine qdo 67 (.tmp 46) (.tmp 66) 34 rfl rfl Wz.heap.size 219 i0 _ 3 32 Tryz.underlying34 hi hz0 hz1 hz2 rfl (by decide) _ j X rfl ownA ⟨wr.heap.size,0,none⟩ 1 1 [.int .i64 y.1,.string y.2.1,.bool y.2.2] rfl rfl (Row.of_blk X1 (Nat.zero_le _) 1 1 (zl _)).src (by intro u hu;simp at hu;rcases hu with rfl|rfl|rfl <;> rfl) (by unfold maxLen;omega) (by omega) hsz ?_
     intro A9 c9 w5 own5 hg5
     go_frame
     have hg15:=World.grownBy.trans hgA hg5
     refine hK.out _ _ hg15 ?_
     clear hK K
     repeat ((first|refine pT ?_|refine pF ?_);try go_frame)
     refine qak ?_
     have E5:=(Blk.drew HEE.out).grown hg15 (hown _ (by have:=HO.out;omega))
     have f0:=E5.frozen 1
     have q0:=E5.cell 1
     refine pD fun K hK=>?_;go_simp
     have hg6:=qac w5 g8 1 (.slice A9 (j+1) c9)
     have own6:=own5.kept hg6 (by
      cases ho:(Value.slice A9 (j+1) c9).ownBlock with
      | none=>exact .inl rfl
      | some x=>exact .inr (fun e=>by injection e with e;have:=(own5.lt x ho).1;have:=HO.out;omega))
     have E6:=E5.set_ 1 (.slice A9 (j+1) c9)
     have gn6:Wz.grownBy (w5.setCell ⟨g8,1,none⟩ (.slice A9 (j+1) c9)) (some g8):=qah (HGN.out.andThen (World.grownBy.trans (qez wr _) hg15) (fun k hk=>.inl (HOW.out.lt k hk).1)) hg6
     refine hK.out _ _ trivial (qad ?_)
     clear hK K f0 q0 hg6 own5 hg5 hg15 E5 hgA X1 ownA hsz hown
     have HX:=zh (za own6 (za E6 gn6))
     clear own6 E6 gn6
     go_wp2
     go_roundw
     case rel=>exact ⟨j+1,c9,A9,_,by go_num,by omega,HX.out.1,by simpa using HX.out.2.1,HX.out.2.2⟩
     case measure=>simp [intOf];omega
    ·have hd:decide ((j:Int)<(n':Int))=false:=by simp;omega
     obtain rfl:n'=j:=by omega
     have E8:=HEE.out
     have q0:=E8.cell 0
     have q1:=E8.cell 1
     have B2z:=B2.grown HGN.out (fun e=>by injection e with e;have:=HO.out;omega)
     have f0:=B2z.frozen 0
     have f1:=B2z.frozen 1
     have r0:=B2z.cell 0
     have rj:=B2z.cell 1
     clear C
     go_wp2
     obtain ⟨w',hw',B',_,hgr⟩:=lk.Blk.set2 B2z (.slice A7 n c7) (.slice A8 n' c8)
     rw [<-hw']
     have hbw:=(HBZ.out.grown HGN.out HBZ.out.size (fun k hk=>by injection hk with hk;have:=HO.out;omega))
     have hbw2:=hbw.grown hgr hbw.size (fun k hk=>by injection hk with hk;have:=HO.out;omega)
     exact bodyPost_ret (v:=.agg #[.slice A7 n c7,.slice A8 n' c8]) (results_cell_row rfl _ _ g2 _ _ (0,0) _ rfl B' Tryz.underlying36 rfl rfl) rfl ⟨_,_,_,_,_,_,rfl,hbw2⟩
def RefS (S:List Int) (w:World) (e:Ending) (w':World):Prop:=∃ (A A2 A3 A4:Option Addr) (n c c2 n3 c3 n4 c4:Nat),e=.returned (.agg #[.slice A n c,.slice A2 S.length c2,.slice A3 n3 c3,.slice A4 n4 c4])/\Sl eWrk w' (fun _=>True) A2 S.length c2 (S.map w0)/\Below w.heap.size w w'
theorem Sl.none_any {α:Type} {E:Enc α} {x:List α} (h:Sl E w F A 0 c x):Sl E w' G A 0 c x:=by
 obtain ⟨css,h1,h2,h3⟩:=h
 obtain rfl:=List.length_eq_zero_iff.1 h3
 have hc:css=[]:=List.length_eq_zero_iff.1 h2.1
 subst hc
 refine ⟨[],?_,Els.nil _ _,rfl⟩
 rcases h1 with h|⟨ad,h,_⟩|⟨b,off,e,_⟩
 ·exact .inl h
 ·exact .inr (.inl ⟨ad,h,rfl,Nat.zero_le _,rfl⟩)
 ·exact .inr (.inl ⟨_,e,rfl,Nat.zero_le _,rfl⟩)
theorem els_w0 {css:List (List Value)} {l:List Int} (h:Els eWrk w F css (l.map w0)):Els eWrk w' G css (l.map w0):=⟨h.1,fun i cs x a b=>by
 have hx:=h.2 i cs x a b
 obtain ⟨s',_,rfl⟩:=List.mem_map.1 (List.mem_of_getElem? b)
 obtain ⟨Aw',nw',cw',Am',nm',cm',rfl,kw',km'⟩:=qdc hx
 obtain rfl:nw'=0:=kw'.len.symm
 obtain rfl:nm'=0:=km'.len.symm
 exact qkf kw'.none_any km'.none_any⟩
theorem toRef13_ {T:List Tab} {S:List Int} {L:lk.Lk} (h:eDB.rel w F cs (dbG T S L)) (hT:T.length<=1000) (hS:S.length<=1000) (h1:L.hs.length<=1000) (h2:L.ws.length<=1000):Calls Tryz.prog 10 #[.agg cs.toArray] w (RefS S w):=by
 obtain ⟨A1,n1,c1,A2,n2,c2,A3,n3,c3,A4,n4,c4,rfl,k1,k2,k3,k4⟩:=qav h
 have e1:n1=T.length:=k1.len.symm
 have e2:n2=S.length:=by rw [<-k2.len];simp [dbG]
 have e3:n3<=1000:=by rw [<-k3.len];simpa [dbG] using h1
 have e4:n4<=1000:=by rw [<-k4.len];simpa [dbG] using h2
 have hT:n1<=1000:=by omega
 have hS:n2<=1000:=by omega
 have K1:=zh (show Sl eTab w F A1 n1 c1 T from k1)
 have K2:=zh (show Sl eWrk w F A2 n2 c2 (S.map w0) from k2)
 have K34:=zh (za k3 k4)
 have E2:=zh e2
 clear h k1 k2 k3 k4 e1 e2 h1 h2
 obtain ⟨i0,hi,hz0,hz1,hz2⟩:=ip Tryz.prog 118 (.agg #[.string ⟨#[]⟩,.slice none 0 0,.int .i64 0,.bool false,.slice none 0 0]) 5 80
 obtain ⟨j0,hji,hy0,hy1,hy2⟩:=ip Tryz.prog 114 (.agg #[.int .i64 0,.slice none 0 0,.slice none 0 0]) 3 56
 go_enter Tryz.func10,Tryz.ntmps10
 go_upto_region 1 with fail
 obtain ⟨W,hW_,hb1,B1,B2⟩:=al2 w 31 38 #[.slice A1 n1 c1,.slice A2 n2 c2,.slice A3 n3 c3,.slice A4 n4 c4] #[.slice none 0 0,.slice none 0 0,.slice none 0 0,.slice none 0 0]
 rw [<-hW_]
 clear hW_
 obtain ⟨g1,hg1⟩:∃ g,w.heap.size=g:=⟨_,rfl⟩
 obtain ⟨g2,hg2⟩:∃ g,w.heap.size+1=g:=⟨_,rfl⟩
 rw [hg2] at B2 ⊢
 rw [hg1] at B1 ⊢
 have HO:=zh (show w.heap.size<=g1/\g1<g2/\g2<W.heap.size from ⟨by omega,by omega,B2.lt⟩)
 have HK:=zh (toRef12_ (K34.out.1.ext hb1) (K34.out.2.ext hb1) (by omega) (by omega))
 have q2:=B1.cell 2
 have q3:=B1.cell 3
 clear hg1 hg2 K34
 go_wp2_with fail
 refine HK.out.mono ?_
 rintro e w1 ⟨A5,n5,c5,A6,n6,c6,rfl,hb2⟩
 have hbw1:=hb1.tr hb2
 have B1:=B1.ext hb2
 have B2:=B2.ext hb2
 have hgw1:g2<w1.heap.size:=B2.lt
 clear HK q2 q3 hb1 hb2
 go_upto_region 2 with fail
 obtain ⟨Wz,hW_,hbz,B8⟩:=al1 w1 38 #[.slice none 0 0,.slice none 0 0,.slice A5 n5 c5,.slice A6 n6 c6]
 rw [<-hW_]
 clear hW_
 obtain ⟨g8,hg8⟩:∃ g,w1.heap.size=g:=⟨_,rfl⟩
 have hg28:g2<g8:=by omega
 rw [hg8] at B8 ⊢
 clear hg8 hgw1
 have B1:=B1.ext hbz
 have B2:=B2.ext hbz
 have HBZ:=zh (hbw1.tr hbz)
 have HZ:=zh (show w.heap.size<=g1/\g1<g2/\g2<g8/\g8<Wz.heap.size from ⟨HO.out.1,HO.out.2.1,hg28,B8.lt⟩)
 have K1z:=zh ((K1.out.bound qdm).ext HBZ.out)
 have K2z:=zh ((K2.out.bound qhz).ext HBZ.out)
 clear hbw1 hbz HO K1 K2 hg28
 go_wp2_with fail
 go_loopw [4] (fun i wr=>∃ (j c8:Nat) (A8:Option Addr) (X:List Value),i=.int .i64 j/\j<=n1/\wr.ownsRow Wz.heap.size 118 5 (.slice A8 j c8) j X/\Blk wr g8 38 #[.slice A8 j c8,.slice none 0 0,.slice A5 n5 c5,.slice A6 n6 c6]/\Wz.grownBy wr (some g8)) (fun i _=>n1 - (intOf i).toNat)
 case atStart=>exact ⟨0,0,none,[],rfl,Nat.zero_le _,World.ownsRow_nil _ _ _ _,B8,qby _ _⟩
 case round =>
  obtain ⟨j,c7,A7,X,rfl,hj,own,E,gn⟩:=hrel
  have C:=B1.grown gn (fun e=>by injection e with e;have:=HZ.out;omega)
  have qc:=C.cell 0
  have HOW:=zh own
  have HEE:=zh E
  have HGN:=zh gn
  clear own E gn
  rcases Nat.lt_or_ge j n1 with hlt|hge
  ·have hd:decide ((j:Int)<(n1:Int))=true:=by simp;omega
   have hjn:(j:Int)<(n1:Int):=by omega
   obtain ⟨b,off,rfl,_,_,hbl⟩:=K1z.out.some_ (by omega)
   obtain ⟨y,hy⟩:∃ y,T[j]? = some y:=⟨_,List.getElem?_eq_getElem (by rw [K1z.out.len];omega)⟩
   obtain ⟨cs,hcs,hcell⟩:=K1z.out.at_ hy
   obtain ⟨At,nt,ct,At2,nt2,ct2,rfl,_,_⟩:=qbo hcs
   simp only [show eTab.k=5 from rfl] at hcell
   have hown:∀ x,x<Wz.heap.size->some x≠(Value.slice A7 j c7).ownBlock:=fun x hx e=>by have:=(HOW.out.lt x e.symm).1;omega
   have hbr:b<wr.heap.size:=Nat.lt_of_lt_of_le hbl HGN.out.size
   have hcr:∀ w',wr.drew.grownBy w' (Value.slice A7 j c7).ownBlock->∀ (i:Nat) u,([.string y.1.1,.slice At nt ct,.int .i64 y.1.2.2.1,.bool y.1.2.2.2,.slice At2 nt2 ct2]:List Value)[i]? = some u->w'.cell? ⟨b,off+j * 5+i,none⟩=some u:=fun w' h i u hu=>(World.cell?_of_block (h.block b hbr (hown b hbl))).trans ((World.cell?_of_block (HGN.out.block b hbl (fun e=>by injection e with e;have:=HZ.out;omega))).trans (hcell i u hu))
   have D:=fun w' (h:wr.drew.grownBy w' (Value.slice A7 j c7).ownBlock)=>za (((Blk.drew C).grown h (hown _ (by have:=HZ.out;omega))).cell 0) (za (((Blk.drew HEE.out).grown h (hown _ (by have:=HZ.out;omega))).cell 0) (za
    (show w'.cell? ⟨b,off+j * 5,none⟩=some (.string y.1.1) from hcr w' h 0 _ rfl) (za (hcr w' h 1 _ rfl) (za (hcr w' h 2 _ rfl) (za (hcr w' h 3 _ rfl) (hcr w' h 4 _ rfl))))))
   clear hy hcs hcell hcr
   go_wp2_with fail
   clear qc
   refine r3 (S:=fun w'=>wr.drew.grownBy w' (Value.slice A7 j c7).ownBlock) [(0,true),(1,true),(2,true),(3,true),(4,true),(5,true),(6,true),(7,false),(8,false),(9,false),(10,true)] [(11,false)] (qby _ _) ?_
   repeat ((first|refine pT ?_|refine pF ?_);try go_frame)
   clear D
   refine pD fun K hK=>?_;go_simp
   refine (toRef10_).mono ?_
   rintro e w3 ⟨rfl,hb3⟩
   have hg3:=qcw hb3 (Value.slice A7 j c7).ownBlock
   refine hK.out _ _ hg3 ?_
   clear hK K
   refine pD fun K hK=>?_;go_simp
   have hg4:wr.drew.grownBy (w3.alloc (.cells #[.string y.1.1,.slice At nt ct,.int .i64 y.1.2.2.1,.bool y.1.2.2.2,.slice At2 nt2 ct2] 118)) (Value.slice A7 j c7).ownBlock:=World.grownBy.trans hg3 (World.grownBy_alloc _ _ _)
   have X1:Blk (w3.alloc (.cells #[.string y.1.1,.slice At nt ct,.int .i64 y.1.2.2.1,.bool y.1.2.2.2,.slice At2 nt2 ct2] 118)) w3.heap.size 118 #[.string y.1.1,.slice At nt ct,.int .i64 y.1.2.2.1,.bool y.1.2.2.2,.slice At2 nt2 ct2]:=Blk.new w3 _ _
   have hb4:=hb3.tr ((zb w3.heap.size w3).alloc (zl _) (.cells #[.string y.1.1,.slice At nt ct,.int .i64 y.1.2.2.1,.bool y.1.2.2.2,.slice At2 nt2 ct2] 118))
   have ownA:=qay HOW.out.drew hb4
   have hsz:Wz.heap.size<=(w3.alloc (.cells #[.string y.1.1,.slice At nt ct,.int .i64 y.1.2.2.1,.bool y.1.2.2.2,.slice At2 nt2 ct2] 118)).heap.size:=by have h1:=HGN.out.size;have h2:=hb4.size;have h3:wr.drew.heap.size=wr.heap.size:=rfl;omega
   refine hK.out _ _ hg4 ?_
   clear hK K hb3 hb4 hg3
   generalize w3.alloc (.cells #[.string y.1.1,.slice At nt ct,.int .i64 y.1.2.2.1,.bool y.1.2.2.2,.slice At2 nt2 ct2] 118)=wa at *
   refine qaj rfl (qae rfl) (fun K hK=>?_)
   refine qdo 28 (.tmp 20) (.tmp 27) 32 rfl rfl Wz.heap.size 118 i0 _ 5 80 Tryz.underlying32 hi hz0 hz1 hz2 rfl (by decide) _ j X rfl ownA ⟨w3.heap.size,0,none⟩ 1 1 [.string y.1.1,.slice At nt ct,.int .i64 y.1.2.2.1,.bool y.1.2.2.2,.slice At2 nt2 ct2] rfl rfl (Row.of_blk X1 (Nat.zero_le _) 1 1 (zl _)).src (by intro u hu;simp at hu;rcases hu with rfl|rfl|rfl|rfl|rfl <;> rfl) (by unfold maxLen;omega) (by omega) hsz ?_
   intro A9 c9 w5 own5 hg5
   go_frame
   have hg15:=World.grownBy.trans hg4 hg5
   refine hK.out _ _ hg15 ?_
   clear hK K
   repeat ((first|refine pT ?_|refine pF ?_);try go_frame)
   refine qak ?_
   have E5:=(Blk.drew HEE.out).grown hg15 (hown _ (by have:=HZ.out;omega))
   have f0:=E5.frozen 0
   have q0:=E5.cell 0
   refine pD fun K hK=>?_;go_simp
   have hg6:=qac w5 g8 0 (.slice A9 (j+1) c9)
   have own6:=own5.kept hg6 (by
    cases ho:(Value.slice A9 (j+1) c9).ownBlock with
    | none=>exact .inl rfl
    | some x=>exact .inr (fun e=>by injection e with e;have:=(own5.lt x ho).1;have:=HZ.out;omega))
   have E6:=E5.set_ 0 (.slice A9 (j+1) c9)
   have gn6:Wz.grownBy (w5.setCell ⟨g8,0,none⟩ (.slice A9 (j+1) c9)) (some g8):=qah (HGN.out.andThen (World.grownBy.trans (qez wr _) hg15) (fun k hk=>.inl (HOW.out.lt k hk).1)) hg6
   refine hK.out _ _ trivial (qad ?_)
   clear hK K f0 q0 hg6 own5 hg5 hg15 hg4 E5 X1 ownA hsz hown
   have HX:=zh (za own6 (za E6 gn6))
   clear own6 E6 gn6
   go_wp2
   go_roundw
   case rel=>exact ⟨j+1,c9,A9,_,by go_num,by omega,HX.out.1,by simpa using HX.out.2.1,HX.out.2.2⟩
   case measure=>simp [intOf];omega
  ·have hd:decide ((j:Int)<(n1:Int))=false:=by simp;omega
   obtain rfl:n1=j:=by omega
   have HE:=zh (za HEE.out HGN.out)
   clear HEE HGN HOW C
   go_wp2_with fail
   clear qc
   generalize wr=wo at *
   go_loopw [5] (fun i wr=>∃ (j c8:Nat) (A8:Option Addr),i=.int .i64 j/\j<=n2/\OwnE eWrk 114 wr Wz.heap.size (fun _=>True) A8 j c8 ((S.take j).map w0)/\Blk wr g8 38 #[.slice A7 n1 c7,.slice A8 j c8,.slice A5 n5 c5,.slice A6 n6 c6]/\Wz.grownBy wr (some g8)) (fun i _=>n2 - (intOf i).toNat)
   case atStart=>exact ⟨0,0,none,rfl,Nat.zero_le _,⟨[],World.ownsRow_nil _ _ _ _,Els.nil _ _,rfl⟩,HE.out.1,HE.out.2⟩
   case round =>
    obtain ⟨j,c8,A8,rfl,hj,own,E,gn⟩:=hrel
    have C:=B1.grown gn (fun e=>by injection e with e;have:=HZ.out;omega)
    have qc:=C.cell 1
    have HOW:=zh own
    have HEE:=zh E
    have HGN:=zh gn
    clear own E gn
    rcases Nat.lt_or_ge j n2 with hlt|hge
    ·have hd:decide ((j:Int)<(n2:Int))=true:=by simp;omega
     have hjn:(j:Int)<(n2:Int):=by omega
     obtain ⟨b,off,rfl,_,_,hbl⟩:=K2z.out.some_ (by omega)
     obtain ⟨s,hs⟩:∃ s,S[j]? = some s:=⟨_,List.getElem?_eq_getElem (by rw [<-E2.out];exact hlt)⟩
     obtain ⟨cs,hcs,hcell⟩:=K2z.out.at_ (i:=j) (x:=w0 s) (by rw [List.getElem?_map,hs];rfl)
     obtain ⟨Aw,nw,cw,Am,nm,cm,rfl,kw,km⟩:=qdc hcs
     obtain rfl:nw=0:=kw.len.symm
     obtain rfl:nm=0:=km.len.symm
     simp only [show eWrk.k=3 from rfl] at hcell
     have HTK:=zh (show S.take (j+1)=S.take j++[s] from by rw [List.take_add_one,hs];rfl)
     have hown:∀ x,x<Wz.heap.size->some x≠(Value.slice A8 j c8).ownBlock:=fun x hx e=>by
      obtain ⟨css,k1,_,_⟩:=HOW.out
      have:=(k1.lt x e.symm).1
      omega
     have hbr:b<wr.heap.size:=Nat.lt_of_lt_of_le hbl HGN.out.size
     have hcr:∀ w',Below wr.heap.size wr w'->∀ (i:Nat) u,([.int .i64 s,.slice Aw 0 cw,.slice Am 0 cm]:List Value)[i]? = some u->w'.cell? ⟨b,off+j * 3+i,none⟩=some u:=fun w' h i u hu=>(World.cell?_of_block (h.block b hbr)).trans ((World.cell?_of_block (HGN.out.block b hbl (fun e=>by injection e with e;have:=HZ.out;omega))).trans (hcell i u hu))
     have HCR:=zh hcr
     have HKW:=zh kw
     have D:=fun w' (h:Below wr.heap.size wr.drew w')=>za ((C.ext ((zb _ _).drew.trans h)).cell 1) (za (show w'.cell? ⟨b,off+j * 3,none⟩=some (.int .i64 s) from hcr w' ((zb _ _).drew.trans h) 0 _ rfl) (hcr w' ((zb _ _).drew.trans h) 1 _ rfl))
     clear hs hcs hcell hcr kw km
     go_wp2_with fail
     clear qc
     refine r1 [(0,true),(1,true),(2,true),(3,true),(4,true),(5,true),(6,true),(7,true),(8,true),(9,true),(10,true),(11,true),(12,true),(13,false),(14,false)] ?_
     repeat ((first|refine pT ?_|refine pF ?_);try go_frame)
     clear D
     refine pD fun K hK=>?_;go_simp
     have BA:Blk (wr.alloc (.cells #[.int .i64 0,.slice none 0 0,.slice none 0 0] 114)).drew wr.heap.size 114 #[.int .i64 0,.slice none 0 0,.slice none 0 0]:=Blk.drew (Blk.new wr _ _)
     have hbA:Below wr.heap.size wr (wr.alloc (.cells #[.int .i64 0,.slice none 0 0,.slice none 0 0] 114)).drew:=((zb _ _).alloc (zl _) _).drew
     obtain ⟨g6,hg6⟩:∃ g,wr.heap.size=g:=⟨_,rfl⟩
     refine hK.out _ _ (show Below wr.heap.size wr.drew _ from ⟨hbA.os,hbA.tape,hbA.output,hbA.size,hbA.block⟩) ?_
     clear hK K
     generalize (wr.alloc (.cells #[.int .i64 0,.slice none 0 0,.slice none 0 0] 114)).drew=wA at *
     rw [hg6] at BA ⊢
     have f0:=BA.frozen 0
     have f1:=BA.frozen 1
     have f2:=BA.frozen 2
     have r0:=BA.cell 0
     have rj:=BA.cell 1
     have rk:=BA.cell 2
     refine pD fun K hK=>?_;go_simp
     obtain ⟨w6,hw6,B6,hlow,hne6,hsz6⟩:=BA.set3 (.int .i64 s) (.slice Aw 0 cw) (.slice none 0 0)
     rw [<-hw6]
     have hb6:Below wr.heap.size wr w6:=hbA.trans (hlow _ (by omega))
     refine hK.out _ _ (show Below g6 wr.drew w6 from hg6 ▸ (⟨hb6.os,hb6.tape,hb6.output,hb6.size,hb6.block⟩:Below wr.heap.size wr.drew w6)) (qad ?_)
     clear hK K f0 f1 f2 r0 rj rk hw6 hlow hne6 hsz6 hbA BA
     have h86:Wz.heap.size<=g6:=by have:=HGN.out.size;omega
     have C6:=C.ext hb6
     have E6:=HEE.out.ext hb6
     have hk1:=C6.cell 1
     have hk2:=HCR.out w6 hb6 2 _ rfl
     clear hg6
     go_wp2_with fail
     refine wp_loop_rounds 1 ?_
     rw [rounds_succ]
     have hq:=E6.cell 1
     have hb3:=B6.three (zb _ _)
     obtain ⟨css,hO,hEl,hln⟩:=HOW.out
     have HO6:=zh (qay hO hb6)
     have HLN:=zh hln
     have hl6:=Nat.le_trans HGN.out.size hb6.size
     go_wp2_with (at_builtin;refine wpList_append_own _ rfl (.tmp 88) (.tmp 90) 33 rfl Wz.heap.size 114 j0 _ 3 56 Tryz.underlying33 hji hy0 hy1 hy2 rfl (by decide) _ j _ rfl (HO6.out.alloc _) ⟨w6.heap.size,0,none⟩ 1 1 [.int .i64 s,.slice Aw 0 cw,.slice none 0 0] rfl rfl ?an1 ?an2 ?an3 ?an4 ?an5 ?_)
     case an1=>exact (Row.of_blk (Blk.new w6 _ _) (Nat.zero_le _) 1 1 (zl _)).src
     case an2=>intro u hu;simp at hu;rcases hu with rfl|rfl|rfl <;> rfl
     case an3=>unfold maxLen;omega
     case an4=>omega
     case an5=>simp;omega
     intro v9 w9 hown9 hgrow9 _
     obtain ⟨A9,c9,rfl⟩:=qan hown9
     have hba:=(zb w6.heap.size w6).alloc (zl _) (.cells #[.int .i64 s,.slice Aw 0 cw,.slice none 0 0] 114)
     have hown6:∀ x,x<Wz.heap.size->some x≠(Value.slice A8 j c8).ownBlock:=hown
     have E9:=(E6.ext hba).grown hgrow9 (hown6 _ (by have:=HZ.out;omega))
     have gn9:Wz.grownBy w9 (some g8):=(HGN.out.andThen (World.grownBy.trans (qcw (hb6.tr hba) (Value.slice A8 j c8).ownBlock) hgrow9) (fun k hk=>.inl (by have:=(hO.lt k hk).1;omega)))
     have HEL9:=zh ((els_w0 (w':=w9) (G:=fun _=>True) hEl).append (Els.one_ (qkf (x:=w0 s) (HKW.out.none_any (w':=w9) (G:=fun _=>True)) (Sl.nil _ _))))
     have HO9:=zh hown9
     have HE9:=zh (za E9 gn9)
     have q1:=E9.cell 1
     have f1:=E9.frozen 1
     clear hq hb3 hO hEl hln hba E9 gn9 hown9 hgrow9 C6 E6 B6 hb6 hl6
     go_wp2_with fail
     have hg10:=qac w9 g8 1 (.slice A9 (j+1) c9)
     have own10:=HO9.out.kept hg10 (by
      cases ho:(Value.slice A9 (j+1) c9).ownBlock with
      | none=>exact .inl rfl
      | some x=>exact .inr (fun e=>by injection e with e;have:=(HO9.out.lt x ho).1;have:=HZ.out;omega))
     have E10:=HE9.out.1.set_ 1 (.slice A9 (j+1) c9)
     have gn10:=qah HE9.out.2 hg10
     have HR:=zh (show OwnE eWrk 114 (w9.setCell ⟨g8,1,none⟩ (.slice A9 (j+1) c9)) Wz.heap.size (fun _=>True) A9 (j+1) c9 ((S.take (j+1)).map w0) from
      ⟨css++[[.int .i64 s,.slice Aw 0 cw,.slice none 0 0]],by rw [List.flatten_append];exact own10,by
       have h:=HEL9.out
       have e:(S.take j).map w0++[w0 s]=(S.take (j+1)).map w0:=by rw [HTK.out,List.map_append];rfl
       rw [e] at h
       exact els_w0 h,by rw [HTK.out,List.map_append,List.length_append,HLN.out];rfl⟩)
     go_roundw
     case rel=>exact ⟨j+1,c9,A9,by go_num,by omega,HR.out,by simpa using E10,gn10⟩
     case measure=>simp [intOf];omega
    ·have hd:decide ((j:Int)<(n2:Int))=false:=by simp;omega
     obtain rfl:n2=j:=by omega
     have E8:=HEE.out
     have q0:=E8.cell 0
     have q1:=E8.cell 1
     have q2:=E8.cell 2
     have q3:=E8.cell 3
     have B2z:=B2.grown HGN.out (fun e=>by injection e with e;have:=HZ.out;omega)
     have hth:=Blk.there (o:=0) (n:=4) B2z (by simp)
     obtain ⟨B9,hg9⟩:=lay4 B2z [.slice A7 n1 c7,.slice A8 n2 c8,.slice A5 n5 c5,.slice A6 n6 c6] rfl
     clear C
     go_wp2_with ((with_reducible refine sS 2 ?_);(refine wpList_store_mid rfl 38 _ _ rfl g2 0 #[.slice A7 n1 c7,.slice A8 n2 c8,.slice A5 n5 c5,.slice A6 n6 c6] rfl rfl ?zs ?zt ?zo ?_))
     case zs=>exact hth
     case zt=>kernel_rfl
     case zo=>simp [Value.oneCell']
     have hbw:=(HBZ.out.grown HGN.out HBZ.out.size (fun k hk=>by injection hk with hk;have:=HZ.out;omega))
     have hbw2:=hbw.grown hg9 hbw.size (fun k hk=>by injection hk with hk;have:=HZ.out;omega)
     have HR:=zh (show RefS S w (.returned (.agg #[.slice A7 n1 c7,.slice A8 n2 c8,.slice A5 n5 c5,.slice A6 n6 c6])) (wr.setCells g2 0 [.slice A7 n1 c7,.slice A8 n2 c8,.slice A5 n5 c5,.slice A6 n6 c6]) from
      ⟨A7,A8,A5,A6,n1,c7,c8,n5,c5,n6,c6,by rw [<-E2.out],by
       obtain ⟨css,k1,k2,k3⟩:=HOW.out
       rw [<-E2.out]
       have e:S.take n2=S:=List.take_of_length_le (by rw [<-E2.out];exact zl _)
       rw [e] at k2 k3
       exact ⟨css,RowF.of_row (Row.of_own (k1.kept hg9 (by
        cases ho:(Value.slice A8 n2 c8).ownBlock with
        | none=>exact .inl rfl
        | some x=>exact .inr (fun e=>by injection e with e;have:=(k1.lt x ho).1;have:=HZ.out;omega)))) (fun _ _ _=>trivial),els_w0 k2,k3⟩,hbw2⟩)
     clear hg9 hth hbw hbw2 q0 q1 q2 q3 E8
     generalize wr.setCells g2 0 [.slice A7 n1 c7,.slice A8 n2 c8,.slice A5 n5 c5,.slice A6 n6 c6]=wz at *
     go_wp2
     exact bodyPost_ret (v:=.agg #[.slice A7 n1 c7,.slice A8 n2 c8,.slice A5 n5 c5,.slice A6 n6 c6]) (results_cell_row rfl _ _ g2 _ _ (0,0) _ rfl B9 Tryz.underlying38 rfl (by kernel_rfl)) rfl HR.out
end Go.Proofs.YtdjbpcnhnkemiaaGreat.tp
namespace Go.Proofs.YtdjbpcnhnkemiaaGreat.tp
open Go.ChangeShapes Go.WideShapes Go.ChangeAt Go.RowKit Go.Proofs.YtdjbpcnhnkemiaaGreat.lib Go.Deep Go.Joins
variable {w w':World}
variable {n c g B b off i j k m n2 n3 c2 c3 c4 c5 c6 gs gn np lo gr gd id b2 off2:Nat}
variable {A A2 A3 A4 A5 A6:Option Addr}
variable {cs:List Value}
variable {l r:List UInt8}
variable {rs:List (List UInt8)}
variable {s o e:Int}
variable {nm:ByteArray}
variable {F G:qab}
variable {x:DBd}
def wi (a n:Int):Int:=if a.tmod n<0 then a.tmod n+n else a.tmod n
theorem qkx {a n:Int} (hn:0<n):0<=wi a n/\wi a n<n:=by
 have h2:=Int.tmod_lt_of_pos a hn
 have h3:-n<a.tmod n:=by
  have h4:=Int.tmod_lt_of_pos (-a) hn
  rw [Int.neg_tmod] at h4
  omega
 unfold wi
 split <;> omega
theorem qmq (a n:Int) (w:World) (hn:0<n) (hn2:n<=100000):
  Calls Tryz.prog 8 #[.int .i64 a,.int .i64 n] w fun e w'=>e=.returned (.int .i64 (wi a n))/\w=w':=by
 have hn0:(n == 0)=false:=by simp;omega
 have hn1:n≠0:=by omega
 have h2:=Int.tmod_lt_of_pos a hn
 have h3:-n<a.tmod n:=by
  have h4:=Int.tmod_lt_of_pos (-a) hn
  rw [Int.neg_tmod] at h4
  omega
 have hw:IntKind.i64.wrap (a.tmod n)=a.tmod n:=by rw [IntKind.wrap_i64];omega
 have hw2:wrap64 (a.tmod n)=a.tmod n:=by unfold wrap64;omega
 have hw3:IntKind.i64.wrap (a.tmod n+n)=a.tmod n+n:=by rw [IntKind.wrap_i64];omega
 have hw4:wrap64 (a.tmod n+n)=a.tmod n+n:=by unfold wrap64;omega
 unfold wi
 by_cases h:a.tmod n<0
 ·have hd:decide (a.tmod n<0)=true:=by simpa using h
  rw [if_pos h]
  go_enter Tryz.func8,Tryz.ntmps8
  go_wp2
  go_ret
  exact ⟨rfl,rfl⟩
 ·have hd:decide (a.tmod n<0)=false:=by simpa using h
  rw [if_neg h]
  go_enter Tryz.func8,Tryz.ntmps8
  go_wp2
  go_ret
  exact ⟨rfl,rfl⟩
structure Ac4 where
 s:Int
 n:Int
 a:Int
 b:Int
instance:Inhabited Ac4:=⟨⟨0,0,0,0⟩⟩
def Acts4 (w:World) (A:Option Addr) (l:List Ac4):Prop:=0<l.length->∃ b off,A=some ⟨b,off,none⟩/\b<w.heap.size/\∀ (i:Nat) a,l[i]? = some a ->
 w.cell? ⟨b,off+i * 4,none⟩=some (.int .i64 a.s)/\w.cell? ⟨b,off+i * 4+1,none⟩=some (.int .i64 a.n)/\w.cell? ⟨b,off+i * 4+2,none⟩=some (.int .i64 a.a)/\w.cell? ⟨b,off+i * 4+3,none⟩=some (.int .i64 a.b)
theorem Acts4.ext {l:List Ac4} (h:Acts4 w A l) (hb:Below w.heap.size w w'):Acts4 w' A l:=fun hn=>by
 obtain ⟨b,off,e,hlt,hc⟩:=h hn
 refine ⟨b,off,e,Nat.lt_of_lt_of_le hlt hb.size,fun i a ha=>?_⟩
 obtain ⟨h1,h2,h3,h4⟩:=hc i a ha
 exact ⟨(hb.cell (by exact hlt)).trans h1,(hb.cell (by exact hlt)).trans h2,(hb.cell (by exact hlt)).trans h3,(hb.cell (by exact hlt)).trans h4⟩
theorem qqk:Tryz.prog.cellsOf 48=4:=by kernel_rfl
theorem qqm:Tryz.prog.cellsOf 3=1:=by kernel_rfl
theorem acts20_arg {H:Type} {enc:TypeId × Value->H} {W:World} {base:Nat} {v:Value} {d:DataW H} {p:List MemPlace}
  (hval:Value.okWide Tryz.prog W .any base 22 v) (h:DataW.Trod enc Tryz.prog W 0 (fun _=>true) true 22 v d p) :
  ∃ (A:Option Addr) (n c:Nat) (l:List Ac4),v=.slice A n c/\l.length=n/\n<=maxLen/\Acts4 W A l:=by
 obtain ⟨a,len,cap,rfl⟩:=okWide_slice Tryz.underlying22 hval
 obtain ⟨fuel,hf⟩:=h
 rcases open_slice Tryz.underlying22 hf with ⟨hcs,_⟩|⟨a',len',cap',m,n,D,Pl,hcs,_,hl,hm,hmm,_,hx⟩
 ·simp [Value.cells] at hcs
  obtain ⟨rfl,rfl,rfl⟩:=hcs
  exact ⟨none,0,0,[],rfl,rfl,Nat.zero_le _,fun h=>absurd h (by simp)⟩
 ·simp [Value.cells] at hcs
  obtain ⟨rfl,rfl,rfl⟩:=hcs
  simp only [if_true] at hmm
  have each:∀ i,i<len->∃ q:Ac4,W.cell? (a'.add (i * 4))=some (.int .i64 q.s)/\W.cell? (a'.add (i * 4+1))=some (.int .i64 q.n)/\W.cell? (a'.add (i * 4+2))=some (.int .i64 q.a)/\W.cell? (a'.add (i * 4+3))=some (.int .i64 q.b):=by
   intro i hi
   obtain ⟨cs',h1,h2⟩:=hx i (by omega)
   rw [qqk] at h1
   obtain ⟨_,hlen,hcell⟩:=World.cells?_some h1
   obtain ⟨y0,y1,y2,y3,k,_,hcl,g0,g1,g2,g3⟩:=trod_struct4 Tryz.underlying48 h2
   match cs',hlen with
   | [v0,v1,v2,v3],_ =>
    simp only [qqm] at g0 g1 g2 g3
    obtain ⟨z0,e0,_,_⟩:=DataW.trod_int Tryz.underlying3 g0
    obtain ⟨z1,e1,_,_⟩:=DataW.trod_int Tryz.underlying3 g1
    obtain ⟨z2,e2,_,_⟩:=DataW.trod_int Tryz.underlying3 g2
    obtain ⟨z3,e3,_,_⟩:=DataW.trod_int Tryz.underlying3 g3
    simp at e0 e1 e2 e3
    subst e0 e1 e2 e3
    have c0:=hcell 0 (by omega)
    have c1:=hcell 1 (by omega)
    have c2:=hcell 2 (by omega)
    have c3:=hcell 3 (by omega)
    rw [add_add] at c0 c1 c2 c3
    exact ⟨⟨z0,z1,z2,z3⟩,by simpa using c0,by simpa using c1,by simpa using c2,by simpa using c3⟩
  obtain ⟨q,hq⟩:=choose_lt each
  refine ⟨some a',len,cap,(List.range len).map q,rfl,by simp,Nat.le_trans hl hm,fun hn=>?_⟩
  obtain ⟨ab,ao,spot⟩:=a'
  have hn0:0<len:=by simpa using hn
  have h0:=(hq 0 hn0).1
  have hspot:spot=none:=by simpa [Addr.add] using World.cell?_spot h0
  subst hspot
  refine ⟨ab,ao,rfl,?_,fun i x hi=>?_⟩
  ·have:=World.block_lt_of_cell? W _ h0
   simpa [Addr.add] using this
  ·have hil:i<len:=by simpa using (List.getElem?_eq_some_iff.1 hi).1
   rw [List.getElem?_map,List.getElem?_range hil] at hi
   injection hi with hi
   subst hi
   obtain ⟨h1,h2,h3,h4⟩:=hq i hil
   rw [Addr.add_lit] at h1 h2 h3 h4
   exact ⟨h1,by rw [Nat.add_assoc];exact h2,by rw [Nat.add_assoc];exact h3,by rw [Nat.add_assoc];exact h4⟩
end Go.Proofs.YtdjbpcnhnkemiaaGreat.tp
namespace Go.Proofs.YtdjbpcnhnkemiaaGreat.tp
open Go.ChangeShapes Go.WideShapes Go.ChangeAt Go.RowKit Go.Shelf Go.Proofs.YtdjbpcnhnkemiaaGreat.lib
variable {w w':World}
variable {n c g B b off i j k m n2 n3 c2 c3 c4 c5 c6 gs gn np lo gr gd id b2 off2:Nat}
variable {A A2 A3 A4 A5 A6:Option Addr}
variable {cs:List Value}
variable {l r:List UInt8}
variable {rs:List (List UInt8)}
variable {s o e:Int}
variable {nm:ByteArray}
variable {F G:qab}
variable {x:DBd}
theorem backward_:Calls Tryz.prog 216 #[.slice A n c] w fun e w' =>
  e=.returned (.func (.func 239) #[] #[.pointer (some ⟨w.heap.size,0,none⟩)])/\w'=w.alloc (.cells #[.slice A n c] 51):=by
 go_enter Tryz.func216,Tryz.ntmps216
 go_wp2
 go_ret
 exact ⟨rfl,rfl⟩
theorem qpx {l:Nat} (h:w.cell? ⟨g,0,none⟩=some (.slice A 0 c)):Calls Tryz.prog 239 #[.func (.yield l) #[] #[],.pointer (some ⟨g,0,none⟩)] w fun e w' =>
  e=.returned (.tuple #[])/\w=w':=by
 go_enter Tryz.func239,Tryz.ntmps239
 go_wp2_with fail
 refine wp_loop_rounds 1 ?_
 rw [rounds_succ]
 go_wp2
 go_end0
 exact ⟨rfl,rfl⟩
theorem qmr (h:w.cell? ⟨g,0,none⟩=some (.slice A 0 c)) (hg:g<w.heap.size) (n n₀:Nat) (encs:Empty->Array Value):
  SeqStopsK Fence.wide n Tryz.prog 239 #[.pointer (some ⟨g,0,none⟩)] encs (Below n₀) (fun ys=>ys=[]) (fun _=>False) 0 w:=fun l J Jx W hW _ _ hY h0 =>
 (callsIn_wide.2 (qpx (l:=l) ((hW.cell (p:=⟨g,0,none⟩) hg).trans h))).mono fun e W' ⟨he,hw⟩=>⟨⟨_,he⟩,.inl ⟨[],rfl,hw ▸ h0⟩⟩
theorem Blk.set_same {t:TypeId} {cs:Array Value} {u:Value} (h:Blk w g t cs) (hu:w.cell? ⟨g,i,none⟩=some u):Below w.heap.size w (w.setCell ⟨g,i,none⟩ u):=by
 have hg:=qac w g i u
 refine ⟨hg.os,hg.tape,hg.output,hg.size,fun k hk=>?_⟩
 by_cases e:k=g
 ·subst e
  have h1:=h.set_ i u
  have e2:cs.setIfInBounds i u=cs:=by
   rw [h.cell] at hu
   obtain ⟨hi,hu⟩:=Array.getElem?_eq_some_iff.1 hu
   rw [<-hu]
   simp [Array.setIfInBounds,hi]
  rw [e2] at h1
  exact h1.trans h.symm
 ·exact hg.block k hk (fun e'=>by injection e' with e';exact e e')
theorem undo0_ {at_:Nat} {s':Int} {marks:List Mrk}
  (h:CallW w g B o e x A c (some ⟨b2,0,none⟩) c2 A3 c3 A4 c4) (hok:okDB x) (hat:x.2.1[at_]? = some (s',[],marks)) :
  Calls Tryz.prog 155 #[.pointer (some ⟨g,0,none⟩),.int .i64 at_,.int .i64 0] w fun e' w' =>
   e'=.returned (.tuple #[])/\Below w.heap.size w w':=by
 obtain ⟨cw,hcw,hcell⟩:=h.wrk.at_ hat
 obtain ⟨A5,n5,A6,n6,c6,rfl,h5,h6⟩:=qgw hcw
 have hn5:n5=0:=h5.len.symm
 subst hn5
 have q1:w.cell? ⟨b2,at_ * 3+1,none⟩=some (.slice A5 0 0):=hcell 1 _ rfl
 have hin:at_<x.2.1.length:=(List.getElem?_eq_some_iff.1 hat).1
 have hb2:b2<w.heap.size:=(h.wrk.lt rfl).2
 have HC:=zh h
 have HQ1:=zh q1
 have hlen:x.2.1.length<=1000:=hok.2.2.1
 obtain ⟨N,hN⟩:∃ N,x.2.1.length=N:=⟨_,rfl⟩
 have q0:=h.blk.cell 1
 rw [hN] at hin hlen q0
 clear h hcw hcell h5 h6 q1 hok hN
 refine callsIn_wide.1 (callsIn_of_wp_marks (n:=3) Tryz.func155 rfl trivial (wpIn_wide.2 ?_))
 simp only [Tryz.ntmps155,List.size_toArray,List.length_cons,List.length_nil,Nat.reduceAdd,Nat.reduceSub,Array.replicate_succ,Array.replicate_zero,List.push_toArray,List.append_toArray,List.nil_append,List.cons_append]
 go_upto_region 1 with fail
 obtain ⟨W,hW_,hb1,BP⟩:=al1 w 88 #[.pointer (some ⟨g,0,none⟩)]
 rw [<-hW_]
 clear hW_
 obtain ⟨gp,hgp⟩:∃ g,w.heap.size=g:=⟨_,rfl⟩
 have hgpw:w.heap.size<=gp:=by omega
 rw [hgp] at BP ⊢
 clear hgp
 have q:=BP.cell 0
 have q2:=(hb1.cell (p:=⟨g,1,none⟩) HC.out.blk.lt).trans q0
 have hai:(at_:Int)<(N:Int):=by omega
 go_upto_region 2 with fail
 clear q q2 q0
 have D:=fun w' (h:Below W.heap.size W.drew w')=>show w'.cell? ⟨b2,at_ * 3+1,none⟩=some (.slice A5 0 0) from ((hb1.trans (zm ((zb W.heap.size W).drew.trans h) hb1.size)).cell (p:=⟨b2,at_ * 3+1,none⟩) hb2).trans HQ1.out
 refine r1 [(0,true),(1,true),(2,true),(3,true),(4,true),(5,true),(6,true),(7,true),(8,true),(9,true),(10,true),(11,true),(12,true),(13,false)] ?_
 repeat ((first|refine pT ?_|refine pF ?_);try go_frame)
 clear D
 refine pD fun K hK=>?_;go_simp
 refine backward_.mono ?_
 rintro e' w2 ⟨rfl,hw2⟩
 have hb2':Below W.heap.size W.drew w2:=by rw [hw2];exact (show Below W.drew.heap.size W.drew _ from (zb _ _).alloc (zl _) _)
 have B2:Blk w2 W.drew.heap.size 51 #[.slice A5 0 0]:=by rw [hw2];exact Blk.new W.drew _ _
 refine hK.out _ _ hb2' (qad ?_)
 clear hK K hw2
 have hbw:Below w.heap.size w w2:=hb1.trans (zm ((zb W.heap.size W).drew.trans hb2') hb1.size)
 have BP2:=BP.ext ((zb W.heap.size W).drew.trans hb2')
 obtain ⟨gs,hgs⟩:∃ g,W.drew.heap.size=g:=⟨_,rfl⟩
 rw [hgs] at B2 ⊢
 have hgs':W.heap.size=gs:=hgs
 have hgsw:w.heap.size<=gs:=by have:=hb1.size;omega
 have hgpl:gp<gs:=by rw [<-hgs'];exact BP.lt
 clear hgs hgs' BP hb1 hb2'
 go_wp2_with fail
 refine (wpIn_wide (n:=3)).1 ?_
 refine wpIn_rangeFunc_ownF (α:=Empty) rfl (by omega) (gf:=239) (lb:=#[.pointer (some ⟨gs,0,none⟩)]) rfl trivial (enters_of Tryz.func239 (by kernel_rfl) rfl)
  (qmr (B2.cell 0) B2.lt 2 w2.heap.size (fun x=>x.elim)) belowK_t (belowK_b (zl _)) (zb _ _) (fun x=>x.elim) (fun _ W'=>Below w2.heap.size w2 W') (fun _ _ _=>False) (ownFrom_below (zl _) (zl _)) (fun _ _ _ _ _ h=>h.elim) (zb _ _) (fun x=>x.elim) (fun _ x=>x.elim) (fun _ _ x=>x.elim) ?_ (fun _ _ _ _ _ _ h=>h.elim)
 intro DD xs w3 hD _ hb3 hDD
 have BP3:=BP2.ext hb3
 have hbw3:=(hbw.tr hb3)
 clear BP2 hb3 B2
 have q:=BP3.cell 0
 go_upto_region 11 with fail
 clear q
 have HU:=zh ((hbw3.cell (p:=⟨b2,at_ * 3+1,none⟩) hb2).trans HQ1.out)
 have D:=fun w' (h:Below w3.heap.size w3.drew w')=>show w'.cell? ⟨b2,at_ * 3+1,none⟩=some (.slice A5 0 0) from (((zb _ _).drew.trans h).cell (p:=⟨b2,at_ * 3+1,none⟩) (Nat.lt_of_lt_of_le hb2 hbw3.size)).trans HU.out
 obtain ⟨cur,hcur⟩:=(HC.out.ext hbw3).wrk.blk
 have hsame:=Blk.set_same (Blk.drew hcur) HU.out
 have f:=Blk.frozen (Blk.drew hcur) (at_ * 3+1)
 have p:=HU.out
 refine r3 (S:=fun w'=>Below w3.heap.size w3.drew w') [(0,true),(1,true),(2,true),(3,true),(4,true),(5,true),(6,true),(7,true),(8,true),(9,true),(10,true),(11,true),(12,true),(13,true),(14,true),(15,true)] [(16,false)] (zb _ _) ?_
 repeat ((first|refine pT ?_|refine pF ?_);try go_frame)
 refine qak ?_
 clear D
 refine pD fun K hK=>?_;go_simp
 refine hK.out _ _ trivial (qad ?_)
 clear hK K
 have hD4:(w3.drew.setCell ⟨b2,at_ * 3+1,none⟩ (.slice A5 0 0)).heap[DD]? = some (.deferred (some [])):=(hsame.block DD (Array.getElem?_eq_some_iff.1 hDD).1).trans hDD
 have hb4:=(hbw3.drew).trans (zm hsame hbw3.size)
 refine ⟨by simp,.inl ⟨_,_,rfl,run_takeDeferred hD4,?_⟩⟩
 refine ⟨_,results_none rfl _ _ _,rfl,hb4.grown (grownBy_putObj' _ DD _) hb4.size (fun k hk=>by injection hk with hk;have:=hbw.size;omega)⟩
end Go.Proofs.YtdjbpcnhnkemiaaGreat.tp
namespace Go.Proofs.YtdjbpcnhnkemiaaGreat.tp
open Go.ChangeShapes Go.WideShapes Go.ChangeAt Go.RowKit Go.Proofs.YtdjbpcnhnkemiaaGreat.lib
variable {w w':World}
variable {n c g B b off i j k m n2 n3 c2 c3 c4 c5 c6 gs gn np lo gr gd id b2 off2:Nat}
variable {A A2 A3 A4 A5 A6:Option Addr}
variable {cs:List Value}
variable {l r:List UInt8}
variable {rs:List (List UInt8)}
variable {s o e:Int}
variable {nm:ByteArray}
variable {F G:qab}
variable {x:DBd}
theorem back0_ {s':Int} {marks:List Mrk}
  (h:CallW w g B o e x A c (some ⟨b2,0,none⟩) c2 A3 c3 A4 c4) (hok:okDB x) (hse:qex x) (hs:-1000<=s/\s<=1000) (hmw:Mono (cmpW s) x.2.1) (his:isG (cmpW s) x.2.1=true) (hw:x.2.1[posG (cmpW s) x.2.1]? = some (s',[],marks)) :
  Calls Tryz.prog 82 #[.pointer (some ⟨g,0,none⟩),.int .i64 s] w fun e' w' =>
   e'=.returned (.tuple #[])/\(∃ A5 c5 A6 c6,CallW w' g B o e (endD x s) A c (some ⟨b2,0,none⟩) c2 A5 c5 A6 c6)/\Frm (fun b=>b=g\/b=b2) w w':=by
 have HC:=zh h
 have HT:=qgo h s hok.2.2.1 hmw ⟨by omega,by omega⟩ hse
 rw [his] at HT
 have HT:=zh HT
 have HU:=zh (fun (w':World) (hb:Below w.heap.size w w')=>undo0_ (h.ext hb) hok hw)
 have HD:=zh (fun (w':World) (hb:Below w.heap.size w w')=>endd_ (um:=.returning) (h.ext hb) hok hse hs hmw his)
 clear h hok hse hmw his hw hs
 go_enter_defers Tryz.func82,Tryz.ntmps82
 go_wp2_with fail
 refine HT.out.mono ?_
 rintro e' w1 ⟨rfl,hb1⟩
 have HV:=zh (HU.out w1 hb1)
 clear HT HU
 go_wp2_with fail
 refine HV.out.mono ?_
 rintro e' w2 ⟨rfl,hb2⟩
 have hb:=hb1.tr hb2
 have HE:=zh (HD.out w2 hb)
 clear HV HD HC hb1 hb2
 go_wp2
 refine leaves_cons (f:=33) (args:=#[.pointer (some ⟨g,0,none⟩),.int .i64 s]) (by simp) (by simp [go_sem]) ?_
 refine HE.out.mono ?_
 rintro e' u' w3 ⟨rfl,rfl,hC,hf⟩
 have HF:=zh (za hC ((Frm.below hb).trans hf))
 clear hC hf HE hb
 simp [Leaves,settle,results,Tryz.results82,go_sem]
 exact HF.out
end Go.Proofs.YtdjbpcnhnkemiaaGreat.tp
namespace Go.Proofs.YtdjbpcnhnkemiaaGreat.lk
open Go.ChangeShapes Go.WideShapes Go.ChangeAt Go.RowKit Go.Proofs.YtdjbpcnhnkemiaaGreat.lib
theorem lawI:Maps.Keyed Tryz.prog 3:=Maps.int_keyed Tryz.underlying3
def qjv:DataW Unit->List Int
 | .slice l _=>l.filterMap fun d=>match d with | .lit (.int _ z)=>some z|_=>none
 | _=>[]
theorem qpm (zs:List Int):qjv (.slice (lits .i64 zs) [])=zs:=by
 unfold qjv lits
 induction zs with
 | nil=>rfl
 | cons z r ih=>simp only [List.map_cons,List.filterMap_cons];exact congrArg (z::·) ih
def bd (z:Int):Prop:=-9223372036854775808<=z/\z<=9223372036854775807
theorem qis {z:Int} (h:bd z):(Lit.int .i64 z).wf=true:=by
 unfold bd at h
 simp [Lit.wf,IntKind.min,IntKind.max,IntKind.signed,IntKind.bits];omega
def qea (ws hs:List Hd) (z:Int):List Int:=(ws.filter fun o=>o.s == z).flatMap fun o=>(hs.filter (agB o)).map Hd.s
def Gr (w:World) (b base n:Nat) (F:Int->List Int):Prop:=∃ D:DataW Unit,w.ownsGroups Tryz.prog 3 base 3 .i64 b n D/\Maps.IsMap D/\∀ z,bd z->qjv (D.atKey (.int .i64 z) .nil)=F z
theorem qjd {P:Program} {w:World} {o:Oper} {a:Act} {K:Act->World->Prop} {Q:Exit->Act->World->Prop} (m x:Operand) (t:TypeId) (ho:o.op=Op.lookup t m x false) (vm vx:Value) (hm:a.eval m=vm) (hx:a.eval x=vx) (v':Value)
  (hr:(Instr.lookup t vm vx false).run P w=.ok v' w) (h:K (a.put o.dst v') w):o.wp P a w K Q:=by
 unfold Oper.wp
 simp [execOp,ho,hm,hx,hr,Result.andThen]
 exact h
theorem qlf {P:Program} {w w':World} {o:Oper} {a:Act} {K:Act->World->Prop} {Q:Exit->Act->World->Prop} (m x v:Operand) (t:TypeId) (ho:o.op=Op.mapUpdate t m x v) (vm vx vv:Value) (hm:a.eval m=vm) (hx:a.eval x=vx) (hv:a.eval v=vv)
  (hr:(Instr.mapUpdate t vm vx vv).run P w=.ok () w') (h:K (a.put o.dst undef) w'):o.wp P a w K Q:=by
 unfold Oper.wp
 simp [execOp,ho,hm,hx,hv,hr,Result.andThen]
 exact h
theorem qir {w:World} {base:Nat} {e:TypeId} {v:Value} {zs:List Int} (h:w.ownsInts base e .i64 v zs):qjv (rowDatum .i64 v zs)=zs:=by
 rcases h.1.2 with ⟨rfl,h0⟩|⟨g,cap,cur,rfl,_⟩
 ·have:zs=[]:=List.length_eq_zero_iff.1 h0
  subst this
  rfl
 ·exact qpm zs
theorem Gr.congr {w:World} {b base n:Nat} {F F':Int->List Int} (h:Gr w b base n F) (he:∀ z,F z=F' z):Gr w b base n F':=by
 obtain ⟨D,h1,h2,h3⟩:=h
 exact ⟨D,h1,h2,fun z hz=>(h3 z hz).trans (he z)⟩
theorem Gr.ext {w w':World} {b base n:Nat} {F:Int->List Int} (h:Gr w b base n F) (hb:Below w.heap.size w w'):Gr w' b base n F:=by
 obtain ⟨D,h1,h2,h3⟩:=h
 exact ⟨D,h1.kept (row:=none) ⟨hb.os,hb.tape,hb.output,hb.size,fun k hk _=>hb.block k hk⟩ (by simp) (h1.rowsAbove (fun j hj=>by cases hj)),h2,h3⟩
theorem Gr.kept {w w':World} {b base n g:Nat} {F:Int->List Int} (h:Gr w b base n F) (hg:w.grownBy w' (some g)) (hb:b≠g) (hgb:g<base):Gr w' b base n F:=by
 obtain ⟨D,h1,h2,h3⟩:=h
 exact ⟨D,h1.kept hg (fun e=>hb (by injection e)) (h1.rowsAbove (fun j hj=>by injection hj with hj;omega)),h2,h3⟩
theorem gr_put {w w2 w3:World} {b base n:Nat} {F:Int->List Int} {D:DataW Unit} {s y:Int} {v v':Value} {zs:List Int} (hm:Maps.IsMap D) (hF:∀ z,bd z->qjv (D.atKey (.int .i64 z) .nil)=F z) (hs:bd s)
  (hat:D.atKey (.int .i64 s) .nil=rowDatum .i64 v zs) (ho:w.ownsInts base 3 .i64 v zs) (ho':w3.ownsInts base 3 .i64 v' (zs++[y])) (h:w2.ownsGroups Tryz.prog 3 base 3 .i64 b n (D.put (.int .i64 s) (rowDatum .i64 v' (zs++[y])))) :
  Gr w2 b base n (fun z=>F z++(if s=z then [y] else [])):=by
 refine ⟨_,h,hm.put _ _,fun z hz=>?_⟩
 have hkey:=lawI.key (Maps.keyOf_int_mk Tryz.underlying3 (qis hs))
 have hzs:zs=F s:=by rw [<-hF s hs,hat,qir ho]
 show _=F z++(if s=z then [y] else [])
 by_cases e:s=z
 ·subst e
  rw [Maps.atKey_put_same hm hkey,if_pos rfl,qir ho',hzs]
 ·rw [Maps.atKey_put_other (fun h=>e (by injection h with h1 h2;exact h2.symm)),if_neg e,List.append_nil,hF z hz]
theorem Gr.made {w:World} {b base:Nat} (h:w.heap[b]? = some (.map #[] 0)) (hb:b<base):Gr w b base 0 (fun _=>[]) :=
 ⟨.map [],⟨#[],0,h,⟨by simp,MapKept.stamped_empty 0,by simp⟩,zl _,rfl,hb,by simp,by simp⟩,Maps.isMap_empty,fun z _=>rfl⟩
theorem qqq (ws hs:List Hd) (k:Nat) (x:Hd) (z:Int) (h:ws[k]? = some x):qea (ws.take (k+1)) hs z=qea (ws.take k) hs z++(if x.s=z then (hs.filter (agB x)).map Hd.s else []):=by
 have e:ws.take (k+1)=ws.take k++[x]:=by
  rw [List.take_add_one,h];rfl
 unfold qea
 rw [e,List.filter_append,List.flatMap_append]
 congr 1
 by_cases hx:x.s=z
 ·simp [hx]
 ·simp [hx]
def half (hs:List Hd) (x:Hd) (j:Nat) (z:Int):List Int:=if x.s=z then ((hs.take j).filter (agB x)).map Hd.s else []
theorem half_yes (hs:List Hd) (x y:Hd) (j:Nat) (z:Int) (h:hs[j]? = some y) (ha:agB x y=true):half hs x (j+1) z=half hs x j z++(if x.s=z then [y.s] else []):=by
 have e:hs.take (j+1)=hs.take j++[y]:=by
  rw [List.take_add_one,h];rfl
 unfold half
 rw [e,List.filter_append,List.filter_cons_of_pos ha]
 by_cases hx:x.s=z <;> simp [hx]
theorem half_no (hs:List Hd) (x y:Hd) (j:Nat) (z:Int) (h:hs[j]? = some y) (ha:agB x y=false):half hs x (j+1) z=half hs x j z:=by
 have e:hs.take (j+1)=hs.take j++[y]:=by
  rw [List.take_add_one,h];rfl
 unfold half
 rw [e,List.filter_append,List.filter_cons_of_neg (by simp [ha])]
 simp
theorem qlh (w:World):(zeroValue 23).run Tryz.prog w=.ok (.slice none 0 0) w:=by kernel_rfl
theorem own_ne_t {w:World} {base g n:Nat} {t:TypeId} {v:Value} {xs:List Value} {cs:Array Value} (h:w.ownsRow base 3 1 v n xs) (hB:Blk w g t cs) (ht:3≠t):some g≠v.ownBlock:=by
 rcases h.2 with ⟨rfl,_⟩|⟨g',cap,cur,rfl,_,hgg,_⟩
 ·simp [Value.ownBlock]
 ·intro e
  simp [Value.ownBlock] at e
  subst e
  unfold Blk at hB
  rw [hB] at hgg
  injection hgg with h1
  injection h1 with h2 h3
  exact ht h3.symm
structure SR (g b bx by_ N:Nat) (x y:Hd) (w:World):Prop where
 rg:Blk w g 359 #[.map (some b),.int .i64 0]
 x:Blk w bx 213 x.arr
 y:Blk w by_ 213 y.arr
 n:N<=w.heap.size
def RgR (w:World) (g base0:Nat) (F:Int->List Int):Prop:=∃ b base m z,Blk w g 359 #[.map (some b),.int .i64 z]/\base0<=b/\b<g/\g<base/\base<=w.heap.size/\m<=1000000/\Gr w b base m F
def RgP (F:Int->List Int) (w:World) (e:Ending) (w':World):Prop:=∃ g,e=.returned (.pointer (some ⟨g,0,none⟩))/\RgR w' g w.heap.size F/\Below w.heap.size w w'
theorem rings_ (L:Lk) (v:Value) (w:World) (hL:LkR w v L) (h1:L.hs.length<=1000) (h2:L.ws.length<=1000) (hbd:∀ o∈L.hs,bd o.s) (hbd':∀ o∈L.ws,bd o.s) :
  Calls Tryz.prog 153 #[v] w (RgP (qea L.ws L.hs) w):=by
 obtain ⟨A,n,c,A',n',c',rfl,e1,rj,e2,rk⟩:=hL
 have hmm:=fun W=>run_makeMap (P:=Tryz.prog) 357 W
 have hn:n<=1000:=by omega
 have hn':n'<=1000:=by omega
 have E1:=zh e1
 have E2:=zh e2
 have HB:=zh hbd
 have HB':=zh hbd'
 clear e1 e2 h1 h2 hbd hbd'
 go_enter Tryz.func153,Tryz.ntmps153
 go_wp2_with fail
 obtain ⟨W,hW_,hbW,B1,hM,B3⟩:∃ W_,W_=((w.alloc (.cells #[.slice A n c,.slice A' n' c'] 29)).alloc (.map #[] 0)).alloc (.cells #[.map (some (w.heap.size+1)),.int .i64 0] 359)/\Below w.heap.size w W_ /\
   Blk W_ w.heap.size 29 #[.slice A n c,.slice A' n' c']/\W_.heap[w.heap.size+1]? = some (.map #[] 0)/\Blk W_ (w.heap.size+1+1) 359 #[.map (some (w.heap.size+1)),.int .i64 0]:=by
  refine ⟨_,rfl,(((zb _ _).alloc (zl _) _).alloc (by simp) _).alloc (by simp;omega) _,((Blk.new _ _ _).alloc _).alloc _,?_,qbi _ _ _ _ (by simp)⟩
  rw [Below.heap_alloc _ _ _ (by simp)]
  have:=heap_alloc_new (w.alloc (.cells #[.slice A n c,.slice A' n' c'] 29)) (.map #[] 0)
  simpa using this
 rw [<-hW_]
 clear hW_ hmm
 have hG:=Gr.made hM (base:=w.heap.size+1+1+1) (by omega)
 have hWs:w.heap.size+1+1+1<=W.heap.size:=B3.lt
 clear hM
 go_loopw [14] (fun i wr=>∃ (k m:Nat),i=.int .i64 k/\k<=n'/\m<=k * 1000/\Below w.heap.size w wr/\w.heap.size+1+1+1<=wr.heap.size/\Blk wr w.heap.size 29 #[.slice A n c,.slice A' n' c']/\Blk wr (w.heap.size+1+1) 359 #[.map (some (w.heap.size+1)),.int .i64 0] /\
   Gr wr (w.heap.size+1) (w.heap.size+1+1+1) m (qea (L.ws.take k) L.hs)) (fun i _=>n' - (intOf i).toNat)
 case atStart=>exact ⟨0,0,rfl,Nat.zero_le _,Nat.zero_le _,hbW,hWs,B1,B3,hG.congr (fun z=>by simp [qea])⟩
 case round =>
  obtain ⟨k,m,rfl,hk,hm,hbw,hsz,C1,C3,hGr⟩:=hrel
  clear hbW B1 B3 hG hWs
  rcases Nat.lt_or_ge k n' with hlt|hge
  ·have hd:decide ((k:Int)<(n':Int))=true:=by simp;omega
   obtain ⟨x,hx⟩:∃ x,L.ws[k]? = some x:=⟨_,List.getElem?_eq_getElem (by rw [E2.out];exact hlt)⟩
   obtain ⟨g',rfl,hg'⟩:=rk.some_ (by rw [E2.out];omega)
   have q:=(rk.ext hbw).at_ hx
   have hxb:bd x.s:=HB'.out x (List.mem_of_getElem? hx)
   have HX:=zh hx
   clear hx
   have q1:=fun o=>(C1.alloc o).cell 0
   go_wp2_with fail
   clear q1 q
   have hAx:Below wr.heap.size wr (wr.alloc (.cells #[.int .i64 x.s,.string x.t,.bool x.x] 213)):=(zb _ _).alloc (zl _) _
   have CX0:Blk (wr.alloc (.cells #[.int .i64 x.s,.string x.t,.bool x.x] 213)) wr.heap.size 213 x.arr:=Blk.new _ _ _
   generalize hWx:wr.alloc (.cells #[.int .i64 x.s,.string x.t,.bool x.x] 213)=wx at *
   clear hWx
   have C3x:=C3.ext hAx
   have C1x:=C1.ext hAx
   have hGx:=hGr.ext hAx
   have hbx:=zt hbw (zm hAx hbw.size)
   have hszx:w.heap.size+1+1+1<=wx.heap.size:=Nat.le_trans hsz hAx.size
   have hbxl:=CX0.lt
   generalize hbx_:wr.heap.size=bx at *
   go_loopw [21] (fun i wq=>∃ (j p:Nat),i=.int .i64 j/\j<=n/\p<=m+j/\Below w.heap.size w wq/\wx.heap.size<=wq.heap.size/\Blk wq w.heap.size 29 #[.slice A n c,.slice (some ⟨g',0,none⟩) n' c']/\Blk wq (w.heap.size+1+1) 359 #[.map (some (w.heap.size+1)),.int .i64 0]/\Blk wq bx 213 x.arr /\
    Gr wq (w.heap.size+1) (w.heap.size+1+1+1) p (fun z=>qea (L.ws.take k) L.hs z++half L.hs x j z)) (fun i _=>n - (intOf i).toNat)
   case atStart=>exact ⟨0,m,rfl,Nat.zero_le _,by omega,hbx,zl _,C1x,C3x,CX0,hGx.congr (fun z=>by simp [half])⟩
   case round =>
    obtain ⟨j,p,rfl,hj,hp,hbq,hszq,Q1,Q3,QX,hQ⟩:=hrel
    rcases Nat.lt_or_ge j n with hltj|hgej
    ·have hdj:decide ((j:Int)<(n:Int))=true:=by simp;omega
     obtain ⟨y,hy⟩:∃ y,L.hs[j]? = some y:=⟨_,List.getElem?_eq_getElem (by rw [E1.out];exact hltj)⟩
     obtain ⟨gA,rfl,hgA⟩:=rj.some_ (by rw [E1.out];omega)
     have q:=(rj.ext hbq).at_ hy
     have hyb:bd y.s:=HB.out y (List.mem_of_getElem? hy)
     have HY:=zh hy
     clear hy
     have qx:=fun o=>(QX.alloc o).three (zb _ _)
     go_wp2_with fail
     refine (qpb x y _).mono ?_
     rintro e w2 ⟨rfl,hb2⟩
     have hAy:Below wr.heap.size wr (wr.alloc (.cells #[.int .i64 y.s,.string y.t,.bool y.x] 213)):=(zb _ _).alloc (zl _) _
     have hxy:=zt hAy (zm hb2 hAy.size)
     have CY:Blk w2 wr.heap.size 213 y.arr:=(Blk.new _ _ _).ext hb2
     clear q qx hAy hb2
     have Q1:=Q1.ext hxy
     have Q3:=Q3.ext hxy
     have QX:=QX.ext hxy
     have hQ:=hQ.ext hxy
     have hbq2:=zt hbq (zm hxy hbq.size)
     have hszq2:=Nat.le_trans hszq hxy.size
     have hcy:=CY.lt
     clear hxy
     obtain ⟨a,ha⟩:∃ a,agB x y=a:=⟨_,rfl⟩
     rw [ha]
     have HA:=zh ha
     clear ha
     cases a with
     | true =>
      go_wp2_with fail
      have hS0:SR (w.heap.size+1+1) (w.heap.size+1) bx wr.heap.size w2.heap.size x y w2.drew:=⟨Q3,QX,CY,zl _⟩
      have hSx:∀ w1 w2',Ext w1 w2'->SR (w.heap.size+1+1) (w.heap.size+1) bx wr.heap.size w2.heap.size x y w1->SR (w.heap.size+1+1) (w.heap.size+1) bx wr.heap.size w2.heap.size x y w2':=fun w1 w2' he h=>⟨h.rg.ext he,h.x.ext he,h.y.ext he,Nat.le_trans h.n he.size⟩
      have D:=fun w' (h:SR (w.heap.size+1+1) (w.heap.size+1) bx wr.heap.size w2.heap.size x y w')=>(show w'.cell? ⟨w.heap.size+1+1,0,none⟩=some (.map (some (w.heap.size+1)))/\w'.cell? ⟨bx,0,none⟩=some (.int .i64 x.s)/\w'.cell? ⟨wr.heap.size,0,none⟩=some (.int .i64 y.s) from ⟨h.rg.cell 0,h.x.cell 0,h.y.cell 0⟩)
      obtain ⟨i0,hi,hz0,hz1,hz2⟩:=ip Tryz.prog 3 (.int .i64 0) 1 8
      refine qgu (S:=SR (w.heap.size+1+1) (w.heap.size+1) bx wr.heap.size w2.heap.size x y) ⟨15,43,fun g=>.slice (some ⟨g,0,none⟩) 1 1,.cells #[.int .i64 y.s] 3⟩
       [(0,true),(1,true),(2,true),(3,true),(4,true),(5,true),(6,true),(7,true),(8,true),(9,true),(10,true),(11,true),(13,true),(14,true)] [(12,false)] [(16,false),(17,false)] (by kernel_rfl) (by kernel_rfl) hS0 hSx (fun _ h=>h.n) ?_
      repeat ((first|refine iT ?_|refine iF ?_);try go_frame)
      refine qbn ⟨?_,?_⟩
      ·intro u hu
       simp only [List.mem_cons,List.not_mem_nil,or_false] at hu
       subst hu
       exact ⟨_,rfl,rfl,qae rfl,fun w=>by go_simp⟩
      clear D
      refine wpI_do rfl (qae rfl) (fun wI hI hSI K hK=>?_)
      obtain ⟨D,hD1,hD2,hD3⟩:=hQ.ext (w':=wI) (zt (zb _ _).drew hI)
      obtain ⟨v,zs,hrun,hat,hoi,hzl,hback⟩:=hD1.at lawI Tryz.underlying357 (qlh _) (by unfold maxLen;omega) (Maps.keyOf_int_mk Tryz.underlying3 (qis hxb))
      refine qjd _ _ _ rfl _ _ rfl rfl _ hrun ?_
      refine hK.out _ _ (zb _ _) ?_
      clear hK K hrun
      go_simp
      refine qbn ?_
      intro g1 wf he hS hlo1 hhi1 hat1
      try simp only [List.setIfInBounds_toArray,List.set_cons_zero,List.set_cons_succ]
      have hg1:Blk wf g1 3 #[.int .i64 y.s]:=hat1
      clear hat1
      have hszI:w2.heap.size<=wI.heap.size:=hI.size
      have hszf:wI.heap.size<=wf.heap.size:=he.size
      have hof:=qay hoi.1 he
      obtain ⟨v',w3,hr,h2,h3,h4,h5⟩:=run_append_own_at (P:=Tryz.prog) (w:=wf) (w.heap.size+1+1+1) 23 23 3 i0 _ 1 8 Tryz.underlying23 hi hz0 hz1 hz2 rfl (by decide) v zs.length (zs.map (.int .i64)) hof ⟨g1,0,none⟩ 1 1 [.int .i64 y.s] rfl
       (by
        intro j u hj
        match j,hj with
        | 0,hj =>
         simp at hj
         subst hj
         exact hg1.cell 0) (by intro u hu;simp at hu;subst hu;rfl) (by unfold maxLen;omega) (by omega) (by omega)
      have e3:∀ g t (cs:Array Value),Blk wf g t cs->3≠t->Blk w3 g t cs:=fun g t cs hB ht=>hB.grown h3 (own_ne_t hof hB ht)
      refine qaj rfl (qae rfl) (fun K hK=>?_)
      refine Lib.wp_append_run _ _ _ _ _ rfl _ _ rfl rfl v' w3 hr ?_
      refine hK.out _ _ ⟨e3 _ _ _ hS.rg (by decide),e3 _ _ _ hS.x (by decide),e3 _ _ _ hS.y (by decide),by have:=h3.size;omega⟩ ?_
      clear hK K hr
      have hown':w3.ownsInts (w.heap.size+1+1+1) 3 .i64 v' (zs++[y.s]):=⟨by simpa using h2,fun z hz=>by
       rcases List.mem_append.1 hz with hz|hz
       ·exact hoi.2 z hz
       ·simp at hz;subst hz;exact qis hyb⟩
      have hIf:wI.grownBy wf v.ownBlock:=⟨he.os,he.tape,he.output,he.size,fun k hk _=>he.block k hk⟩
      obtain ⟨w4,hrun4,rj',rk'⟩:=hback w3 v' (zs++[y.s]) (World.grownBy.trans hIf h3) hown' (by simp;omega) (by
       rcases h5 with h5|h5
       ·exact .inl h5
       ·exact .inr ⟨_,h5,he.size⟩)
      have hGn:=gr_put hD2 hD3 hxb hat hoi hown' rj'
      have e4:∀ g t (cs:Array Value),g≠w.heap.size+1->Blk w3 g t cs->Blk w4 g t cs:=fun g t cs hne hB=>hB.grown rk' (by simpa using hne)
      have hbxw:w.heap.size+1+1+1<=bx:=by omega
      refine qaj rfl (qae rfl) (fun K hK=>?_)
      refine qlf _ _ _ _ rfl _ _ _ rfl rfl rfl hrun4 ?_
      have Q1':Blk w4 w.heap.size 29 #[.slice (some ⟨gA,0,none⟩) n c,.slice (some ⟨g',0,none⟩) n' c']:=e4 _ _ _ (by omega) (e3 _ _ _ ((Q1.ext (zt (zb _ _).drew hI)).ext he) (by decide))
      have Q3':=e4 _ _ _ (by omega) (e3 _ _ _ hS.rg (by decide))
      have QX':=e4 _ _ _ (by omega) (e3 _ _ _ hS.x (by decide))
      have hs4:wx.heap.size<=w4.heap.size:=by have:=h3.size;have:=rk'.size;omega
      have hb4:Below w.heap.size w w4:=((zt (zt hbq2.drew (zm hI hbq2.size)) (zm he (by have:=hbq2.size;omega))).grown h3 (by have:=hbq2.size;omega) (fun k hk=>by have:=(hof.lt k hk).1;omega)).grown rk' (by have:=hbq2.size;have:=h3.size;omega) (fun k hk=>by injection hk with hk;omega)
      refine hK.out _ _ ⟨Q3',QX',e4 _ _ _ (by omega) (e3 _ _ _ hS.y (by decide)),by have:=h3.size;have:=rk'.size;omega⟩ (qad ?_)
      clear hK K hrun4 hback e3 e4 hS hIf
      go_simp
      go_wp2
      go_roundw
      case rel =>
       exact ⟨j+1,p+1,by go_num,by omega,by omega,hb4,hs4,Q1',Q3',QX',hGn.congr (fun z=>by rw [half_yes L.hs x y j z HY.out HA.out,List.append_assoc])⟩
      case measure=>simp [intOf];omega
     | false =>
      go_wp2
      go_roundw
      case rel =>
       exact ⟨j+1,p,by go_num,by omega,by omega,hbq2,hszq2,Q1,Q3,QX,hQ.congr (fun z=>by rw [half_no L.hs x y j z HY.out HA.out])⟩
      case measure=>simp [intOf];omega
    ·have hdj:decide ((j:Int)<(n:Int))=false:=by simp;omega
     have hjn:j=n:=by omega
     have htk:L.hs.take j=L.hs:=List.take_of_length_le (by rw [E1.out,hjn];exact zl _)
     have hQ2:Gr _ _ _ p (qea (L.ws.take (k+1)) L.hs):=hQ.congr (fun z=>by rw [qqq L.ws L.hs k x z HX.out];unfold half;rw [htk])
     clear htk hjn
     go_wp2
     exact ⟨⟨k+1,p,by go_num,by omega,by omega,hbq,Nat.le_trans hszx hszq,Q1,Q3,hQ2⟩,by simp [intOf];omega⟩
  ·have hd:decide ((k:Int)<(n':Int))=false:=by simp;omega
   have hkn:k=n':=by omega
   have htk:L.ws.take k=L.ws:=List.take_of_length_le (by rw [E2.out,hkn];exact zl _)
   rw [htk] at hGr
   clear htk hkn
   go_wp2
   go_ret
   exact ⟨_,rfl,⟨_,_,m,0,C3,by omega,by omega,by omega,hsz,by omega,hGr⟩,hbw⟩
inductive Rch (F:Int->List Int) (s:Int):Int->Prop
 | one {y:Int} (h:y∈F s):Rch F s y
 | more {x y:Int} (h:Rch F s x) (hy:y∈F x):Rch F s y
theorem Rch.trans {F:Int->List Int} {a b c:Int} (h:Rch F a b) (k:Rch F b c):Rch F a c:=by
 induction k with
 | one h'=>exact .more h h'
 | more _ hy ih=>exact .more ih hy
def qgj (U seen:List Int):Nat:=(U.filter fun u=>!seen.contains u).length
theorem fresh_add (U seen:List Int) (k:Int) (hk:k∈U) (hs:k∉seen):qgj U (seen++[k])+1<=qgj U seen:=by
 unfold qgj
 have sub:∀ (l:List Int),(l.filter fun u=>!(seen++[k]).contains u).length<=(l.filter fun u=>!seen.contains u).length:=by
  intro l
  induction l with
  | nil=>exact zl _
  | cons u r ih =>
   rw [List.filter_cons,List.filter_cons]
   by_cases h1:u∈seen
   ·simp [h1] at ih ⊢;exact ih
   ·by_cases h2:u=k
    ·simp [h2] at ih ⊢
     by_cases h3:k∈seen
     ·simp [h3] at ih ⊢;exact ih
     ·simp [h3] at ih ⊢;exact Nat.le_succ_of_le ih
    ·simp [h1,h2] at ih ⊢;exact ih
 induction U with
 | nil=>cases hk
 | cons u r ih =>
  rw [List.filter_cons,List.filter_cons]
  by_cases h2:u=k
  ·have:=sub r
   subst h2
   simp [hs] at this ⊢
   exact this
  ·have hr:k∈r:=by
    rcases List.mem_cons.1 hk with h|h
    ·exact absurd h.symm h2
    ·exact h
   have:=ih hr
   by_cases h1:u∈seen
   ·simp [h1] at this ⊢;exact this
   ·simp [h1,h2] at this ⊢;omega
structure Bfs (F:Int->List Int) (s:Int) (U l seen:List Int) (M:Nat):Prop where
 sound:∀ z∈seen,Rch F s z
 inq:∀ x∈l,x=s\/x∈seen
 closed:∀ x,(x=s\/x∈seen)->x∈l\/∀ y∈F x,y∈seen
 size:l.length+qgj U seen<=M
 room:seen.length+qgj U seen<=U.length
theorem Bfs.start (F:Int->List Int) (s:Int) (U:List Int):Bfs F s U [s] [] (U.length+1):=by
 have hU:qgj U []<=U.length:=List.length_filter_le _ _
 refine ⟨fun z h=>(by cases h),fun x h=>.inl (by simpa using h),fun x h=>?_,by simp;omega,by simpa using hU⟩
 rcases h with h|h
 ·exact .inl (by simp [h])
 ·cases h
theorem Bfs.done {F:Int->List Int} {s:Int} {U seen:List Int} {M:Nat} (h:Bfs F s U [] seen M) (z:Int):z∈seen↔Rch F s z:=by
 refine ⟨h.sound z,fun hr=>?_⟩
 have cl:∀ x,(x=s\/x∈seen)->∀ y∈F x,y∈seen:=fun x hx=>by
  rcases h.closed x hx with h1|h1
  ·cases h1
  ·exact h1
 induction hr with
 | one h'=>exact cl s (.inl rfl) _ h'
 | more _ hy ih=>exact cl _ (.inr ih) _ hy
theorem Bfs.add {F:Int->List Int} {s x k:Int} {U l seen:List Int} {M:Nat} (h:Bfs F s U l seen M) (hx:x∈l) (hk:k∈F x) (hU:k∈U) (hn:k∉seen):Bfs F s U (l++[k]) (seen++[k]) M:=by
 have hf:=fresh_add U seen k hU hn
 refine ⟨fun z hz=>?_,fun z hz=>?_,fun z hz=>?_,?_,?_⟩
 ·rcases List.mem_append.1 hz with hz|hz
  ·exact h.sound z hz
  ·simp at hz
   subst hz
   rcases h.inq x hx with rfl|hs
   ·exact .one hk
   ·exact .more (h.sound x hs) hk
 ·rcases List.mem_append.1 hz with hz|hz
  ·rcases h.inq z hz with h1|h1
   ·exact .inl h1
   ·exact .inr (List.mem_append_left _ h1)
  ·exact .inr (List.mem_append_right _ hz)
 ·have old:(z=s\/z∈seen)->z∈l++[k]\/∀ y∈F z,y∈seen++[k]:=fun hz=>by
   rcases h.closed z hz with h1|h1
   ·exact .inl (List.mem_append_left _ h1)
   ·exact .inr (fun y hy=>List.mem_append_left _ (h1 y hy))
  rcases hz with hz|hz
  ·exact old (.inl hz)
  ·rcases List.mem_append.1 hz with hz|hz
   ·exact old (.inr hz)
   ·exact .inl (List.mem_append_right _ hz)
 ·have:=h.size;simp;omega
 ·have:=h.room;simp;omega
theorem Bfs.pop {F:Int->List Int} {s x:Int} {U r seen:List Int} {M:Nat} (h:Bfs F s U (x::r) seen M) (hd:∀ y∈F x,y∈seen):Bfs F s U r seen (M - 1)/\1<=M:=by
 have:=h.size
 simp at this
 refine ⟨⟨h.sound,fun z hz=>h.inq z (List.mem_cons_of_mem _ hz),fun z hz=>?_,by omega,h.room⟩,by omega⟩
 rcases h.closed z hz with h1|h1
 ·rcases List.mem_cons.1 h1 with rfl|h2
  ·exact .inr hd
  ·exact .inl h2
 ·exact .inr h1
noncomputable def lst (p:Nat->Prop):Nat:=Classical.epsilon fun n=>p n/\∀ m,p m->n<=m
theorem lst_ex (p:Nat->Prop):∀ n,p n->∃ n,p n/\∀ m,p m->n<=m:=by
 intro n
 induction n using Nat.strongRecOn with
 | ind n ih =>
  intro hn
  by_cases h:∃ m,m<n/\p m
  ·obtain ⟨m,hm,hp⟩:=h
   exact ih m hm hp
  ·exact ⟨n,hn,fun m hm=>by
    rcases Nat.lt_or_ge m n with h1|h1
    ·exact absurd ⟨m,h1,hm⟩ h
    ·exact h1⟩
theorem qla {p:Nat->Prop} (h:∃ n,p n):p (lst p)/\∀ m,p m->lst p<=m:=by
 obtain ⟨n,hn⟩:=h
 exact Classical.epsilon_spec (lst_ex p n hn)
def St (w:World) (b:Nat) (seen:List Int):Prop:=∃ D:DataW Unit,w.ownsMap Tryz.prog 3 (plainElem Tryz.prog 4) b seen.length D/\Maps.IsMap D /\
 ∀ z,bd z->Maps.has D (.int .i64 z)=seen.contains z/\D.atKey (.int .i64 z) (.lit (.bool false))=.lit (.bool (seen.contains z))
theorem St.kept {w w':World} {row:Option Nat} {b:Nat} {seen:List Int} (h:St w b seen) (hg:w.grownBy w' row) (hne:some b≠row):St w' b seen:=by
 obtain ⟨D,h1,h2,h3⟩:=h
 exact ⟨D,h1.kept hg hne,h2,h3⟩
theorem St.ext {w w':World} {b:Nat} {seen:List Int} (h:St w b seen) (hb:Below w.heap.size w w'):St w' b seen:=h.kept (row:=none) ⟨hb.os,hb.tape,hb.output,hb.size,fun k hk _=>hb.block k hk⟩ (by simp)
theorem St.map {w:World} {b:Nat} {seen:List Int} (h:St w b seen):∃ es cl,w.heap[b]? = some (.map es cl):=by
 obtain ⟨D,⟨es,cl,h1,_⟩,_⟩:=h
 exact ⟨es,cl,h1⟩
theorem zeroBool (w:World):(zeroValue 4).run Tryz.prog w=.ok (.bool false) w:=by kernel_rfl
theorem qhw {v:Value} {z:DataW Unit × List MemPlace} (h:plainElem Tryz.prog 4 v=some z):∃ b,v=.bool b/\z=(.lit (.bool b),[]):=by
 unfold plainElem at h
 rw [Tryz.underlying4] at h
 cases v <;> simp at h
 subst h
 exact ⟨_,rfl,rfl⟩
theorem St.look {w:World} {b:Nat} {seen:List Int} (h:St w b seen) {z:Int} (hz:bd z):(Instr.lookup 304 (.map (some b)) (.int .i64 z) false).run Tryz.prog w=.ok (.bool (seen.contains z)) w:=by
 obtain ⟨D,h1,h2,h3⟩:=h
 obtain ⟨v,ps,hrun,hv⟩:=h1.lookup lawI Tryz.underlying304 (zeroBool w) (plainElem_bool Tryz.underlying4 false) (Maps.keyOf_int_mk Tryz.underlying3 (qis hz))
 obtain ⟨c,rfl,hc⟩:=qhw hv
 rw [(h3 z hz).2] at hc
 injection hc with hc _
 injection hc with hc
 injection hc with hc
 rw [hrun,hc]
theorem St.put {w:World} {b:Nat} {seen:List Int} (h:St w b seen) {z:Int} (hz:bd z) (hl:seen.length<=1000000) (hn:z∉seen) :
  ∃ w',(Instr.mapUpdate 304 (.map (some b)) (.int .i64 z) (.bool true)).run Tryz.prog w=.ok () w'/\St w' b (seen++[z])/\w.grownBy w' (some b):=by
 obtain ⟨D,h1,h2,h3⟩:=h
 have hk:=Maps.keyOf_int_mk Tryz.underlying3 (qis hz)
 have hkey:=lawI.key hk
 obtain ⟨w',hrun,rj,rk⟩:=h1.update lawI Tryz.underlying304 (by unfold maxLen;omega) hk (plainElem_bool Tryz.underlying4 true)
 refine ⟨w',hrun,⟨_,by simpa using rj,h2.put _ _,fun y hy=>?_⟩,rk⟩
 by_cases e:y=z
 ·subst e
  rw [Maps.has_put_same h2 hkey,Maps.atKey_put_same h2 hkey]
  simp
 ·have hne:Lit.int .i64 y≠Lit.int .i64 z:=fun h=>e (by injection h)
  rw [Maps.has_put_other hne,Maps.atKey_put_other hne,(h3 y hy).1,(h3 y hy).2]
  simp [e]
theorem St.made (w:World):St (w.alloc (.map #[] 0)) w.heap.size [] :=
 ⟨.map [],World.ownsMap_made w _ _ _,Maps.isMap_empty,fun z _=>⟨rfl,rfl⟩⟩
structure Qu (w:World) (base g off cap:Nat) (xs:List Int):Prop where
 base:base<=g
 lt:g<w.heap.size
 le:xs.length<=cap
 there:∀ j,j<cap->(w.cell? ⟨g,off+j,none⟩).isSome=true/\w.frozen? ⟨g,off+j,none⟩=false
 holds:∀ (i:Nat) z,xs[i]? = some z->w.cell? ⟨g,off+i,none⟩=some (.int .i64 z)
theorem Qu.kept {w w':World} {row:Option Nat} {base g off cap:Nat} {xs:List Int} (h:Qu w base g off cap xs) (hg:w.grownBy w' row) (hr:0<cap->some g≠row):Qu w' base g off cap xs:=by
 refine ⟨h.base,Nat.lt_of_lt_of_le h.lt hg.size,h.le,fun j hj=>?_,fun i z hz=>?_⟩
 ·have e:=hg.block g h.lt (hr (by omega))
  rw [World.cell?_of_block (a:=⟨g,off+j,none⟩) e,World.frozen?_of_block (a:=⟨g,off+j,none⟩) e]
  exact h.there j hj
 ·have hi:i<xs.length:=(List.getElem?_eq_some_iff.1 hz).1
  have e:=hg.block g h.lt (hr (by have:=h.le;omega))
  rw [World.cell?_of_block (a:=⟨g,off+i,none⟩) e]
  exact h.holds i z hz
theorem Qu.ext {w w':World} {base g off cap:Nat} {xs:List Int} (h:Qu w base g off cap xs) (hb:Below w.heap.size w w'):Qu w' base g off cap xs:=h.kept (row:=none) ⟨hb.os,hb.tape,hb.output,hb.size,fun k hk _=>hb.block k hk⟩ (fun _=>by simp)
theorem Qu.ne_map {w:World} {base g off cap b:Nat} {xs:List Int} (h:Qu w base g off cap xs) (hb:∃ es cl,w.heap[b]? = some (.map es cl)):0<cap->g≠b:=by
 rintro hc rfl
 obtain ⟨es,cl,hb⟩:=hb
 have:=(h.there 0 hc).1
 simp [World.cell?,hb] at this
theorem Qu.pop {w:World} {base g off cap:Nat} {x:Int} {xs:List Int} (h:Qu w base g off cap (x::xs)):Qu w base g (off+1) (cap - 1) xs:=by
 have:=h.le
 simp at this
 refine ⟨h.base,h.lt,by omega,fun j hj=>?_,fun i z hz=>?_⟩
 ·rw [show off+1+j=off+(j+1) by omega];exact h.there (j+1) (by omega)
 ·rw [show off+1+i=off+(i+1) by omega];exact h.holds (i+1) z hz
theorem Qu.one {w:World} {g:Nat} {x:Int} (h:Blk w g 3 #[.int .i64 x]) (base:Nat) (hb:base<=g):Qu w base g 0 1 [x]:=by
 refine ⟨hb,h.lt,zl _,fun j hj=>?_,fun i z hz=>?_⟩
 ·have:j=0:=by omega
  subst this
  exact ⟨by rw [Nat.add_zero,h.cell];rfl,h.frozen _⟩
 ·match i,hz with
  | 0,hz =>
   injection hz with hz
   subst hz
   exact h.cell 0
theorem Qu.push {w:World} {base g off cap g1:Nat} {xs:List Int} {k:Int} (h:Qu w base g off cap xs) (h1:Blk w g1 3 #[.int .i64 k]) (ty:TypeId) (hl:xs.length<=1000000) (hbase:base<=w.heap.size) :
  ∃ g' off' cap' w',(Builtin.append_ #[23,23] ty #[.slice (some ⟨g,off,none⟩) xs.length cap,.slice (some ⟨g1,0,none⟩) 1 1]).run Tryz.prog w=.ok (.slice (some ⟨g',off',none⟩) (xs.length+1) cap') w' /\
   Qu w' base g' off' cap' (xs++[k])/\(w.grownBy w' none\/(0<cap/\w.grownBy w' (some g))):=by
 obtain ⟨i0,hi,hz0,hz1,hz2⟩:=ip Tryz.prog 3 (.int .i64 0) 1 8
 have hone:∀ j u,[Value.int .i64 k][j]? = some u->w.cell? ((⟨g1,0,none⟩:Addr).add j)=some u:=by
  intro j u hj
  match j,hj with
  | 0,hj =>
   injection hj with hj
   subst hj
   exact h1.cell 0
 have h1c:∀ u∈[Value.int .i64 k],u.oneCell'=true:=by intro u hu;simp at hu;subst hu;rfl
 by_cases hroom:xs.length+1<=cap
 ·have hsrc:Src Tryz.prog i0.size 23 (.slice (some ⟨g1,0,none⟩) 1 1) 1 [.int .i64 k] w:=Src.ofSlice w Tryz.underlying23 _ _ _ _ (by rw [hz1];rfl) hone h1c
  have hth:=h.there xs.length (by omega)
  have hrun:=run_append_room_src (P:=Tryz.prog) w 23 23 ty 3 i0 Tryz.underlying23 hi g off xs.length cap (.slice (some ⟨g1,0,none⟩) 1 1) 1 [.int .i64 k] hsrc hroom
   (fun j hj=>by
    have:j=0:=by simpa using hj
    subst this
    rw [hz1,Nat.mul_one,Nat.add_zero]
    exact hth.1)
   (fun j hj=>by
    have:j=0:=by simpa using hj
    subst this
    rw [hz1,Nat.mul_one,Nat.add_zero]
    exact hth.2)
  rw [hz1,Nat.mul_one] at hrun
  have hgr:w.grownBy (w.setCells g (off+xs.length) [.int .i64 k]) (some g):=⟨rfl,rfl,rfl,by simp [World.setCells,World.setCell],fun i _ hne=>Below.heap_setCell _ _ _ _ (fun e=>hne (by rw [e]))⟩
  refine ⟨g,off,cap,_,hrun,⟨h.base,Nat.lt_of_lt_of_le h.lt hgr.size,by simpa using hroom,fun j hj=>?_,fun i z hz=>?_⟩,.inr ⟨by omega,hgr⟩⟩
  ·show ((w.setCell ⟨g,off+xs.length,none⟩ (.int .i64 k)).cell? ⟨g,off+j,none⟩).isSome=true/\(w.setCell ⟨g,off+xs.length,none⟩ (.int .i64 k)).frozen? ⟨g,off+j,none⟩=false
   refine ⟨?_,?_⟩
   ·by_cases e:j=xs.length
    ·subst e
     obtain ⟨u,hu⟩:=Option.isSome_iff_exists.1 hth.1
     rw [World.cell?_setCell_same _ _ _ hu];simp
    ·rw [World.cell?_setCell_other _ _ _ _ (by simp;try omega)]
     exact (h.there j hj).1
   ·rw [World.frozen?_setCell]
    exact (h.there j hj).2
  ·show (w.setCell ⟨g,off+xs.length,none⟩ (.int .i64 k)).cell? ⟨g,off+i,none⟩=_
   rcases Nat.lt_trichotomy i xs.length with hlt|heq|hgt
   ·rw [World.cell?_setCell_other _ _ _ _ (by simp;try omega)]
    rw [List.getElem?_append_left hlt] at hz
    exact h.holds i z hz
   ·subst heq
    obtain ⟨u,hu⟩:=Option.isSome_iff_exists.1 hth.1
    rw [World.cell?_setCell_same _ _ _ hu]
    simp at hz
    rw [hz]
   ·rw [List.getElem?_eq_none (by simp;omega)] at hz
    cases hz
 ·have hcl:xs.length=cap:=by have:=h.le;omega
  have hrun:=run_append_grow (P:=Tryz.prog) w 23 ty 3 i0 _ Tryz.underlying23 hi hz0 ⟨g,off,none⟩ xs.length cap (xs.map (.int .i64)) (by rw [hz1];simp)
   (fun j v hv=>by
    rw [List.getElem?_map] at hv
    obtain ⟨z,hz,rfl⟩:=Option.map_eq_some_iff.1 hv
    rw [Addr.add_lit]
    exact h.holds j z hz)
   ⟨g1,0,none⟩ 1 1 [.int .i64 k] (by rw [hz1];rfl) hone (by omega) (by omega) (by rw [hz2];exact growslice_fits (by omega) (by omega))
  have hge:=grownCap_ge w (xs.length+1) cap 3
  generalize grownCap w (xs.length+1) cap 3=G at *
  have hB:Blk (w.drew.alloc (.cells ((xs.map (Value.int .i64)).toArray++[Value.int .i64 k].toArray++Builtin.zeroCells (Value.int .i64 0).cells (G - (xs.length+1))) 3)) w.heap.size 3 _:=Blk.new w.drew _ _
  have hsz:((xs.map (Value.int .i64)).toArray++[Value.int .i64 k].toArray++Builtin.zeroCells (Value.int .i64 0).cells (G - (xs.length+1))).size=G:=by
   simp [size_zeroCells,Value.cells];omega
  refine ⟨w.heap.size,0,G,_,hrun,⟨hbase,hB.lt,by simpa using hge,fun j hj=>⟨?_,hB.frozen _⟩,fun i z hz=>?_⟩,.inl ⟨rfl,rfl,rfl,by simp,fun i hi _=>Below.heap_alloc w.drew _ i hi⟩⟩
  ·rw [hB.cell,Nat.zero_add,Array.getElem?_eq_getElem (by rw [hsz];exact hj)];rfl
  ·rw [hB.cell,Nat.zero_add]
   have hi:i<xs.length+1:=by simpa using (List.getElem?_eq_some_iff.1 hz).1
   rw [Array.getElem?_append_left (by simp;exact hi)]
   simp
   rcases Nat.lt_or_ge i xs.length with h1|h1
   ·rw [List.getElem?_append_left (by simpa using h1)]
    rw [List.getElem?_append_left h1] at hz
    rw [List.getElem?_map,hz];rfl
   ·have:i=xs.length:=by omega
    subst this
    simp at hz ⊢
    rw [hz]
theorem add_ (g:Nat) (b:Option Nat) (z:Int) (w:World) (h:Blk w g 359 #[.map b,.int .i64 z]) :
  Calls Tryz.prog 171 #[.pointer (some ⟨g,1,none⟩),.int .i64 1] w fun e w'=>∃ s,e=.returned (.int .i64 s)/\Blk w' g 359 #[.map b,.int .i64 s]/\w.grownBy w' (some g):=by
 obtain ⟨s,hs⟩:∃ s,∀ w:World,(Op.intArith .add .i64 z 1).run Tryz.prog w=.ok (.int .i64 s) w:=⟨_,fun w=>by simp [go_sem];rfl⟩
 have hadd:=run_call_add (P:=Tryz.prog) Tryz.func224 (by kernel_rfl) (by kernel_rfl) (by kernel_rfl) .i64 (by kernel_rfl) (y:=1) (s:=s) (h.cell 1) (h.frozen 1) (hs w)
 have hB:Blk (w.setCell ⟨g,1,none⟩ (.int .i64 s)) g 359 #[.map b,.int .i64 s]:=by simpa using h.set_ 1 (.int .i64 s)
 have hgr:w.grownBy (w.setCell ⟨g,1,none⟩ (.int .i64 s)) (some g):=⟨rfl,rfl,rfl,by simp [World.setCell],fun i _ hne=>Below.heap_setCell _ _ _ _ (fun e=>hne (by rw [e]))⟩
 clear h hs
 go_enter Tryz.func171,Tryz.ntmps171
 go_wp2
 go_ret
 exact ⟨s,rfl,hB,hgr⟩
def OverP (F:Int->List Int) (s:Int) (g base0:Nat) (w:World) (e:Ending) (w':World):Prop :=
 ∃ b seen,e=.returned (.map (some b))/\w.heap.size<=b/\St w' b seen/\(∀ z,z∈seen↔Rch F s z)/\RgR w' g base0 F/\w.grownBy w' (some g) /\
  ∀ b z,Blk w g 359 #[.map (some b),.int .i64 z]->∃ z',Blk w' g 359 #[.map (some b),.int .i64 z']
structure OvR (w:World) (g b base m:Nat) (F:Int->List Int) (s:Int) (U:List Int) (M gq off cap:Nat) (l seen:List Int) (wr:World):Prop where
 qu:Qu wr w.heap.size gq off cap l
 st:St wr w.heap.size seen
 bf:Bfs F s U l seen M
 lb:∀ x∈l,bd x
 rg:∃ z,Blk wr g 359 #[.map (some b),.int .i64 z]
 gr:Gr wr b base m F
 gn:w.grownBy wr (some g)
 ll:l.length<=U.length+1
def qid (w:World) (g b base m:Nat) (F:Int->List Int) (s:Int) (U:List Int) (lv:Value) (wr:World) (M:Nat):Prop :=
 ∃ gq off cap l seen,lv=.slice (some ⟨gq,off,none⟩) l.length cap/\OvR w g b base m F s U M gq off cap l seen wr
theorem len_le {F:Int->List Int} {s:Int} {U l seen:List Int} {M:Nat} (h:Bfs F s U l seen M) (hM:M<=U.length+1):l.length<=U.length+1:=by
 have:=h.size;omega
theorem OvR.step {w:World} {g b base m:Nat} {F:Int->List Int} {s:Int} {U:List Int} {M gq off cap:Nat} {l seen:List Int} {wr w':World} (h:OvR w g b base m F s U M gq off cap l seen wr) (hb:Below wr.heap.size wr w'):OvR w g b base m F s U M gq off cap l seen w' :=
 ⟨h.qu.ext hb,h.st.ext hb,h.bf,h.lb,let ⟨z,hz⟩:=h.rg;⟨z,hz.ext hb⟩,h.gr.ext hb,World.grownBy.trans h.gn ⟨hb.os,hb.tape,hb.output,hb.size,fun k hk _=>hb.block k hk⟩,h.ll⟩
theorem qqp {w:World} {b base n:Nat} {D:DataW Unit} {key:Value} {kl:Lit} {v:Value} (hown:w.ownsGroups Tryz.prog 3 base 3 .i64 b n D) (hkey:keyOf Tryz.prog 3 key=some kl)
  (hrun:(Instr.lookup 357 (.map (some b)) key false).run Tryz.prog w=.ok v w) (No:Nat->Prop) (hs:w.Shuns b No):∀ g,v.ownBlock=some g->¬No g:=by
 obtain ⟨es,clock,hb,F,_⟩:=hown
 rcases Maps.fit_look false lawI Tryz.underlying357 (qlh w) hb F hkey with ⟨hrun',_,_⟩|⟨e0,y,hm0,_,hrun',_,_,_⟩
 ·rw [hrun] at hrun'
  obtain rfl:v=.slice none 0 0:=by simpa using hrun'
  intro g hg'
  cases hg'
 ·rw [hrun] at hrun'
  obtain rfl:v=e0.val:=by simpa using hrun'
  exact fun g hg'=>hs es clock hb e0 hm0 g hg'
theorem Gr.shuns {w w':World} {b base n g:Nat} {F:Int->List Int} (h:Gr w b base n F) (hg:w.grownBy w' (some g)) (hb:b≠g) (hbl:b<w.heap.size):w'.Shuns b (fun j=>w.heap.size<=j):=by
 obtain ⟨D,h1,_⟩:=h
 have h0:w.Shuns b (fun _=>False):=fun _ _ _ _ _ _ _ hf=>hf
 exact (h0.reno h1 (fun g hg=>.inr hg)).kept hg hbl (fun e=>hb (by injection e))
theorem over_ (g base0:Nat) (F:Int->List Int) (s:Int) (U:List Int) (w:World) (hR:RgR w g base0 F) (hs:bd s) (hU:U.length<=1000) (hF:∀ x,∀ y∈F x,y∈U/\bd y) :
  Calls Tryz.prog 154 #[.pointer (some ⟨g,0,none⟩),.int .i64 s] w (OverP F s g base0 w):=by
 obtain ⟨b,base,m,z0,hB,hb0,hbg,hgb,hbs,hm,hGr⟩:=hR
 have hmm:=fun W=>run_makeMap (P:=Tryz.prog) 304 W
 have hgl:=hB.lt
 go_enter Tryz.func154,Tryz.ntmps154
 go_wp2_with fail
 have hA:Below w.heap.size w ((w.alloc (.map #[] 0)).alloc (.cells #[.int .i64 s] 3)):=((zb _ _).alloc (zl _) _).alloc (by simp) _
 have h0:OvR w g b base m F s U (U.length+1) (w.heap.size+1) 0 1 [s] [] ((w.alloc (.map #[] 0)).alloc (.cells #[.int .i64 s] 3)) :=
  ⟨Qu.one (qbi _ _ _ _ (by simp)) _ (by omega),(St.made w).ext ((zb _ _).alloc (zl _) _),Bfs.start F s U,fun x hx=>by simp at hx;subst hx;exact hs,⟨z0,hB.ext hA⟩,hGr.ext hA,
   ⟨hA.os,hA.tape,hA.output,hA.size,fun k hk _=>hA.block k hk⟩,by simp⟩
 generalize (w.alloc (.map #[] 0)).alloc (.cells #[.int .i64 s] 3)=W at *
 have hGr0:=zh hGr
 have HB:=zh hB
 clear hmm hA hB hGr
 go_loopw [6] (fun l wr=>∃ M,M<=U.length+1/\qid w g b base m F s U l wr M) (fun l wr=>lst (fun M=>M<=U.length+1/\qid w g b base m F s U l wr M))
 case atStart=>exact ⟨_,zl _,_,_,_,_,_,rfl,h0⟩
 case round =>
  obtain ⟨⟨hMU,hM⟩,hmin⟩:=qla hrel
  clear hrel h0 hmin
  obtain ⟨M,hMe⟩:∃ M,(lst fun M=>M<=U.length+1/\qid w g b base m F s U u6 wr M)=M:=⟨_,rfl⟩
  rw [hMe] at hMU hM
  obtain ⟨gq,off,cap,l,seen,rfl,hV⟩:=hM
  have HME:=zh hMe
  clear hMe
  have hgw:g<base:=hgb
  cases l with
  | nil =>
   go_wp2
   go_ret
   obtain ⟨z,hz⟩:=hV.rg
   exact ⟨w.heap.size,seen,rfl,zl _,hV.st,hV.bf.done,⟨b,base,m,z,hz,hb0,hbg,hgb,Nat.le_trans hbs hV.gn.size,hm,hV.gr⟩,hV.gn,fun b' z' h'=>⟨z,by
    have e:some (Value.map (some b))=some (Value.map (some b')):=(HB.out.cell 0).symm.trans (h'.cell 0)
    injection e with e
    injection e with e
    injection e with e
    rw [<-e];exact hz⟩⟩
  | cons x r =>
   have hxb:bd x:=hV.lb x (by simp)
   have hd:decide (0<(((x::r).length:Nat):Int))=true:=by simp;try omega
   obtain ⟨z,hz⟩:=hV.rg
   obtain ⟨n,hn⟩:∃ n,(x::r).length=n:=⟨_,rfl⟩
   have hn1:1<=n:=by rw [<-hn];simp
   have hn2:n<=1001:=by have:=hV.ll;omega
   rw [hn] at hd ⊢
   have HN:=zh hn
   clear hn
   go_wp2_with fail
   refine (add_ g (some b) z _ hz).mono ?_
   rintro e w1 ⟨s1,rfl,hR1,hg1⟩
   have hqg:0<cap->some gq≠some g:=fun _ e=>by injection e with e;have:=hV.qu.base;omega
   have hV1:OvR w g b base m F s U M gq off cap (x::r) seen w1:=⟨hV.qu.kept hg1 hqg,hV.st.kept hg1 (fun e=>by injection e with e;omega),hV.bf,hV.lb,⟨s1,hR1⟩,hV.gr.kept hg1 (by omega) hgb,World.grownBy.trans hV.gn hg1,hV.ll⟩
   clear hz hg1 hqg hV
   have hq0:w1.cell? ⟨gq,off,none⟩=some (.int .i64 x):=hV1.qu.holds 0 x rfl
   have hql:=hV1.qu.lt
   go_wp2_with fail
   have D:=fun w' (h:Below w1.heap.size w1.drew w')=>(show w'.cell? ⟨g,0,none⟩=some (.map (some b))/\w'.cell? ⟨gq,off,none⟩=some (.int .i64 x) from ⟨(hR1.ext (zt (zb _ _).drew h)).cell 0,(h.cell (p:=⟨gq,off,none⟩) hql).trans hq0⟩)
   refine r1 [(0,true),(1,true),(2,true),(3,true),(4,true),(5,true),(6,true),(9,true),(7,false),(8,true)] ?_
   repeat ((first|refine pT ?_|refine pF ?_);try go_frame)
   clear D
   refine qaj rfl (qae rfl) (fun K hK=>?_)
   obtain ⟨D,hD1,hD2,hD3⟩:=hV1.gr.ext (w':=w1.drew) (zb _ _).drew
   obtain ⟨v,zs,hrun,hat,hoi,hzl,-⟩:=hD1.at lawI Tryz.underlying357 (qlh _) (by unfold maxLen;omega) (Maps.keyOf_int_mk Tryz.underlying3 (qis hxb))
   have HZF:=zh (show zs=F x by rw [<-hD3 x hxb,hat,qir hoi])
   obtain ⟨Av,cv,rfl⟩:=qan hoi.1
   have hrow:∀ j y,zs[j]? = some y->∃ gv,Av=some ⟨gv,0,none⟩/\gv<w.heap.size/\gv≠g/\w.cell? ⟨gv,j,none⟩=some (.int .i64 y):=fun j y hy=>by
    have hj:=(List.getElem?_eq_some_iff.1 hy).1
    have hg2:w.grownBy w1.drew (some g):=⟨hV1.gn.os,hV1.gn.tape,hV1.gn.output,hV1.gn.size,hV1.gn.block⟩
    have hsh:=qqp hD1 (Maps.keyOf_int_mk Tryz.underlying3 (qis hxb)) hrun _ (hGr0.out.shuns hg2 (by omega) (by omega))
    obtain ⟨gv,cv',e,hgv,hgv2⟩:=hoi.1.form (by omega)
    injection e with e1 e2 e3
    subst e1
    have hlt:gv<w.heap.size:=by have:=hsh gv rfl;omega
    have hne:gv≠g:=by omega
    refine ⟨gv,rfl,hlt,hne,?_⟩
    rw [<-World.cell?_of_block (a:=⟨gv,j,none⟩) (hg2.block gv hlt (fun e=>hne (by injection e))),hoi.1.cellAt j (by omega),List.getElem?_map,hy]
    rfl
   have HROW:=zh hrow
   clear hrow
   refine qjd _ _ _ rfl _ _ rfl rfl _ hrun ?_
   refine hK.out _ _ (zb _ _) ?_
   clear hK K hrun hat hD1 hD2 hD3 D
   go_simp
   repeat ((first|refine pT ?_|refine pF ?_);try go_frame)
   refine qad ?_
   go_wp2_with fail
   have hV2:OvR w g b base m F s U M gq off cap (x::r) seen w1.drew:=hV1.step (zb _ _).drew
   clear hV1 hR1 hq0 hql
   generalize w1.drew=w2 at *
   obtain ⟨nz,hnz⟩:∃ nz,zs.length=nz:=⟨_,rfl⟩
   rw [hnz] at hzl ⊢
   clear hoi
   have HZ:=zh hnz
   clear hnz
   go_loopw [6,30] (fun lv iv wq=>∃ (i gq off cap:Nat) (l seen:List Int),iv=.int .i64 i/\i<=nz/\lv=.slice (some ⟨gq,off,none⟩) l.length cap/\(∃ r',l=x::r')/\OvR w g b base m F s U M gq off cap l seen wq/\Hid (∀ j y,j<i->zs[j]? = some y->y∈seen)) (fun _ iv _=>nz - (intOf iv).toNat)
   case atStart=>exact ⟨0,gq,off,cap,x::r,seen,rfl,Nat.zero_le _,by rw [HN.out],⟨r,rfl⟩,hV2,zh (fun j y h=>absurd h (by omega))⟩
   case round =>
    obtain ⟨i,gq,off,cap,l,seen,rfl,hi,rfl,⟨r',hl⟩,hV,HD⟩:=hrel
    clear hV2 hd
    obtain ⟨nl,hnl⟩:∃ nl,l.length=nl:=⟨_,rfl⟩
    have hnl1:1<=nl:=by rw [<-hnl,hl];simp
    have hnl2:nl<=1001:=by have:=hV.ll;omega
    rcases Nat.lt_or_ge i nz with hlt|hge
    ·have hdi:decide ((i:Int)<(nz:Int))=true:=by simp;omega
     obtain ⟨k,hk⟩:∃ k,zs[i]? = some k:=⟨_,List.getElem?_eq_getElem (by rw [HZ.out];exact hlt)⟩
     have hkF:k∈F x:=by rw [<-HZF.out];exact List.mem_of_getElem? hk
     obtain ⟨hkU,hkb⟩:=hF x k hkF
     obtain ⟨gv,rfl,hgv,hgvg,hck0⟩:=HROW.out i k hk
     have hck:wr.cell? ⟨gv,i,none⟩=some (.int .i64 k):=by
      rw [World.cell?_of_block (a:=⟨gv,i,none⟩) (hV.gn.block gv hgv (fun e=>hgvg (by injection e)))]
      exact hck0
     clear hck0
     have HK:=zh hk
     clear hk
     have hlook:=hV.st.look hkb
     obtain ⟨p,hp⟩:∃ p,seen.contains k=p:=⟨_,rfl⟩
     rw [hp] at hlook
     have HP:=zh hp
     clear hp
     rw [hnl]
     cases p with
     | true =>
      go_wp2
      go_roundw
      case rel =>
       refine ⟨i+1,gq,off,cap,l,seen,by go_num,by omega,by rw [hnl],⟨r',hl⟩,hV,zh (fun j y hj hy=>?_)⟩
       by_cases hji:j=i
       ·subst hji
        rw [HK.out] at hy
        injection hy with hy
        rw [<-hy]
        simpa using HP.out
       ·exact HD.out j y (by omega) hy
      case measure=>simp [intOf];omega
     | false =>
      have hkn:k∉seen:=by have:=HP.out;simpa using this
      have hsl:seen.length<=1000000:=by have:=hV.bf.room;omega
      obtain ⟨w3,hput,hst3,hg3⟩:=hV.st.put hkb hsl hkn
      have hqm:0<cap->some gq≠some w.heap.size:=fun hc e=>hV.qu.ne_map hV.st.map hc (by injection e)
      have hq3:=hV.qu.kept hg3 hqm
      have hqa:=hq3.ext (w':=w3.alloc (.cells #[.int .i64 k] 3)) ((zb _ _).alloc (zl _) _)
      obtain ⟨g',off',cap',w4,hrun4,hq4,hg4⟩:=hqa.push (Blk.new w3 _ #[.int .i64 k]) 23 (by omega) (by have h1:=hV.gn.size;have h2:=hg3.size;simp;omega)
      rw [hnl] at hrun4
      go_wp2_with (at_builtin;refine Lib.wpList_append_run _ rfl _ _ _ _ rfl _ _ rfl rfl _ _ hrun4 ?_)
      have hwl:w.heap.size<=wr.heap.size:=hV.gn.size
      have hgA:w3.grownBy (w3.alloc (.cells #[.int .i64 k] 3)) none:=World.grownBy_alloc w3 _ none
      have hg3A:w.grownBy (w3.alloc (.cells #[.int .i64 k] 3)) (some g):=(hV.gn.andThen hg3 (fun j hj=>by injection hj with hj;exact .inl (by omega))).andThen hgA (fun j hj=>by cases hj)
      have hgN:w.grownBy w4 (some g):=by
       rcases hg4 with h4|⟨_,h4⟩
       ·exact hg3A.andThen h4 (fun j hj=>by cases hj)
       ·exact hg3A.andThen h4 (fun j hj=>by injection hj with hj;exact .inl (by have:=hV.qu.base;omega))
      have hstA:=hst3.ext (w':=w3.alloc (.cells #[.int .i64 k] 3)) ((zb _ _).alloc (zl _) _)
      have hst4:St w4 w.heap.size (seen++[k]):=by
       rcases hg4 with h4|⟨hc,h4⟩
       ·exact hstA.kept h4 (by simp)
       ·exact hstA.kept h4 (fun e=>hqm hc e.symm)
      have hrg4:∃ z,Blk w4 g 359 #[.map (some b),.int .i64 z]:=by
       obtain ⟨z,hz⟩:=hV.rg
       have h3:=(hz.grown hg3 (by simp;omega)).alloc (.cells #[.int .i64 k] 3)
       rcases hg4 with h4|⟨_,h4⟩
       ·exact ⟨z,h3.grown h4 (by simp)⟩
       ·exact ⟨z,h3.grown h4 (by have:=hV.qu.base;simp;omega)⟩
      have hbf4:=hV.bf.add (x:=x) (k:=k) (by rw [hl];simp) hkF hkU hkn
      have hll:(l++[k]).length<=U.length+1:=len_le hbf4 hMU
      have hOv:OvR w g b base m F s U M g' off' cap' (l++[k]) (seen++[k]) w4:=⟨hq4,hst4,hbf4,fun y hy=>by
       rcases List.mem_append.1 hy with hy|hy
       ·exact hV.lb y hy
       ·simp at hy;subst hy;exact hkb,hrg4,hGr0.out.kept hgN (by omega) hgb,hgN,hll⟩
      go_roundw
      case rel =>
       refine ⟨i+1,g',off',cap',l++[k],seen++[k],by go_num,by omega,by rw [List.length_append,hnl];rfl,⟨r'++[k],by rw [hl];rfl⟩,hOv,zh (fun j y hj hy=>?_)⟩
       by_cases hji:j=i
       ·subst hji
        rw [HK.out] at hy
        injection hy with hy
        rw [<-hy]
        simp
       ·exact List.mem_append_left _ (HD.out j y (by omega) hy)
      case measure=>simp [intOf];omega
    ·have hdi:decide ((i:Int)<(nz:Int))=false:=by simp;omega
     rw [hnl]
     have hdone:∀ y∈F x,y∈seen:=fun y hy=>by
      rw [<-HZF.out] at hy
      obtain ⟨j,hj,e⟩:=List.getElem_of_mem hy
      exact HD.out j y (by have:=HZ.out;omega) (by rw [List.getElem?_eq_getElem hj,e])
     subst hl
     obtain ⟨hbp,hM1⟩:=hV.bf.pop hdone
     have hql:=hV.qu.le
     have hnr:r'.length=nl - 1:=by rw [<-hnl];simp
     have hlb:∀ y∈r',bd y:=fun y hy=>hV.lb y (List.mem_cons_of_mem _ hy)
     have hll:r'.length<=U.length+1:=by have:=hV.ll;simp at this;omega
     have HNL:=zh hnl
     have HNR:=zh hnr
     have HQL:=zh hql
     clear hnl hnr hql
     by_cases hc1:cap=1
     ·subst hc1
      have hr0:r'=[]:=by
       have:=HQL.out
       simp at this
       exact this
      have hqu:Qu wr w.heap.size gq off 0 r':=by
       subst hr0
       exact ⟨hV.qu.base,hV.qu.lt,zl _,fun j hj=>absurd hj (by omega),fun i z hz=>by cases hz⟩
      have hOv:OvR w g b base m F s U (M - 1) gq off 0 r' seen wr:=⟨hqu,hV.st,hbp,hlb,hV.rg,hV.gr,hV.gn,hll⟩
      have HR0:=zh hr0
      clear hr0
      go_wp2
      have hnew:qid w g b base m F s U (.slice (some ⟨gq,off,none⟩) (nl - 1) 0) wr (M - 1):=⟨gq,off,0,r',seen,by rw [HNR.out],hOv⟩
      refine ⟨⟨M - 1,by omega,hnew⟩,?_⟩
      have hle:=(qla (p:=fun M=>M<=U.length+1/\qid w g b base m F s U (.slice (some ⟨gq,off,none⟩) (nl - 1) 0) wr M) ⟨M - 1,by omega,hnew⟩).2 (M - 1) ⟨by omega,hnew⟩
      have hme:=HME.out
      rw [HN.out] at hme
      rw [hme]
      exact Nat.lt_of_le_of_lt hle (by omega)
     ·have hOv:OvR w g b base m F s U (M - 1) gq (off+1) (cap - 1) r' seen wr:=⟨hV.qu.pop,hV.st,hbp,hlb,hV.rg,hV.gr,hV.gn,hll⟩
      go_wp2
      have hnew:qid w g b base m F s U (.slice (some ⟨gq,off+1,none⟩) (nl - 1) (cap - 1)) wr (M - 1):=⟨gq,off+1,cap - 1,r',seen,by rw [HNR.out],hOv⟩
      refine ⟨⟨M - 1,by omega,hnew⟩,?_⟩
      have hle:=(qla (p:=fun M=>M<=U.length+1/\qid w g b base m F s U (.slice (some ⟨gq,off+1,none⟩) (nl - 1) (cap - 1)) wr M) ⟨M - 1,by omega,hnew⟩).2 (M - 1) ⟨by omega,hnew⟩
      have hme:=HME.out
      rw [HN.out] at hme
      rw [hme]
      exact Nat.lt_of_le_of_lt hle (by omega)
structure VicS (F:Int->List Int) (s v:Int) (is:Bool):Prop where
 yes:is=true->Rch F s s/\(v=s\/Rch F s v/\Rch F v s)/\s<=v/\∀ k,Rch F s k->Rch F k s->k<=v
 no:is=false->¬Rch F s s/\v=0
theorem qna {ws hs:List Hd} {x y:Int} (h:y∈qea ws hs x):y∈hs.map Hd.s:=by
 unfold qea at h
 rw [List.mem_flatMap] at h
 obtain ⟨o,_,h⟩:=h
 rw [List.mem_map] at h ⊢
 obtain ⟨p,hp,e⟩:=h
 exact ⟨p,(List.mem_filter.1 hp).1,e⟩
theorem rch_bd {F:Int->List Int} {U:List Int} {s k:Int} (hF:∀ x,∀ y∈F x,y∈U/\bd y) (h:Rch F s k):bd k:=by
 cases h with
 | one h=>exact (hF _ _ h).2
 | more _ h=>exact (hF _ _ h).2
def VicP (F:Int->List Int) (s:Int) (w:World) (e:Ending) (w':World):Prop:=∃ v is,e=.returned (.tuple #[.int .i64 v,.bool is])/\VicS F s v is/\Below w.heap.size w w'
theorem qkv {left:Lit->Bool} {k x:Int} (h:(left (.int .i64 k) && !(Lit.int .i64 k).sameKey (.int .i64 x))=false):left (.int .i64 k)=false\/k=x:=by
 cases hl:left (.int .i64 k) with
 | false=>exact .inl rfl
 | true =>
  rw [hl] at h
  simp at h
  have:=WideAt.sameKey_eq h
  injection this with _ h2
  exact .inr h2
structure Bx where
 b:Bool
theorem Victim_ (L:Lk) (s:Int) (v:Value) (w:World) (hL:LkR w v L) (h1:L.hs.length<=1000) (h2:L.ws.length<=1000) (hbd:∀ o∈L.hs,bd o.s) (hbd':∀ o∈L.ws,bd o.s) (hs:bd s) :
  Calls Tryz.prog 81 #[v,.int .i64 s] w (VicP (qea L.ws L.hs) s w):=by
 have hrg:=fun W V hv=>rings_ L V W hv h1 h2 hbd hbd'
 have hF:∀ x,∀ y∈qea L.ws L.hs x,y∈L.hs.map Hd.s/\bd y:=fun x y hy=>⟨qna hy,by
  obtain ⟨o,ho,e⟩:=List.mem_map.1 (qna hy)
  rw [<-e];exact hbd o ho⟩
 have hUl:(L.hs.map Hd.s).length<=1000:=by simpa using h1
 obtain ⟨A,n,c,A',n',c',rfl,e1,rj,e2,rk⟩:=hL
 have hL:∀ W,Below w.heap.size w W->LkR W (.agg #[.slice A n c,.slice A' n' c']) L:=fun W hb=>⟨A,n,c,A',n',c',rfl,e1,rj.ext hb,e2,rk.ext hb⟩
 clear h1 h2 hbd hbd' e1 rj e2 rk
 generalize qea L.ws L.hs=F at *
 generalize L.hs.map Hd.s=U at *
 have HRG:=zh hrg
 have HL:=zh hL
 have HF:=zh hF
 clear hrg hL hF
 go_enter Tryz.func81,Tryz.ntmps81
 go_wp2_with fail
 obtain ⟨W,hW_,hbW,B1⟩:=al1 w 29 #[.slice A n c,.slice A' n' c']
 rw [<-hW_]
 clear hW_
 have q1:=B1.cell 0
 have q1':=B1.cell 1
 go_wp2_with fail
 refine (HRG.out _ _ (HL.out _ hbW)).mono ?_
 rintro e w1 ⟨g,rfl,hR,hb1⟩
 have hbw1:=zt hbW (zm hb1 hbW.size)
 have hg0:w.heap.size<=g:=by
  obtain ⟨b,base,m,z,h1,h2,h3,h4,h5,h6,h7⟩:=hR
  have:=hbW.size
  omega
 clear q1 q1' B1 hb1
 go_wp2_with fail
 refine (over_ g W.heap.size F s U _ hR hs hUl HF.out).mono ?_
 rintro e w2 ⟨b2,seen,rfl,hb2,hst,hseen,hR2,hg2,-⟩
 have hgl:g<w1.heap.size:=by
  obtain ⟨b,base,m,z,h1,_⟩:=hR
  exact h1.lt
 have hbw2:Below w.heap.size w w2:=(hbw1.gw hg2)
 have hlook:=hst.look hs
 obtain ⟨p,hp⟩:∃ p,seen.contains s=p:=⟨_,rfl⟩
 rw [hp] at hlook
 have HP:=zh hp
 have HS:=zh hseen
 clear hp hR hg2 hseen
 cases p with
 | false =>
  go_wp2
  go_ret2
  refine ⟨0,false,rfl,⟨fun h=>(by cases h),fun _=>⟨fun hr=>?_,rfl⟩⟩,hbw2⟩
  have h1:=(HS.out s).2 hr
  have h2:=HP.out
  simp at h2
  exact h2 h1
 | true =>
  have hss:Rch F s s:=(HS.out s).1 (by have:=HP.out;simpa using this)
  obtain ⟨D,hD1,hD2,hD3⟩:=hst
  have HD3:=zh hD3
  clear hD3
  go_wp2_with (at_range;refine wpList_range_own _ rfl _ 304 rfl 3 4 lawI Tryz.underlying304 _ b2 seen.length D rfl hD1 ?_;intro w3 hrg3 hg3 hs3)
  go_frame
  obtain ⟨b,base,m,z2,hB2,hb0,hbg,hgb,hbs,hm,hGr2⟩:=hR2
  have hBe3:Below w2.heap.size w2 w3:=⟨hg3.os,hg3.tape,hg3.output,hg3.size,fun k hk=>hg3.block k hk (by simp)⟩
  have hb2l:b2<w2.heap.size:=hD1.lt
  have hB3:=hB2.ext hBe3
  have HG2:=zh hGr2
  have hgn3:w2.grownBy w3 (some g):=hg3.but _
  clear hGr2 hB2 hD1 hs3 hlook
  go_loopw [8] (fun mo wr=>∃ (mv:Int) (left:Lit->Bool) (cnt:Nat),mo=.int .i64 mv/\wr.ranges Tryz.prog 3 (plainElem Tryz.prog 4) b2 w2.heap.size seen.length D left cnt/\(mv=s\/Rch F s mv/\Rch F mv s)/\s<=mv/\bd mv /\
   (∀ k,bd k->k∈seen->left (.int .i64 k)=false->Rch F k s->k<=mv)/\w2.grownBy wr (some g)/\∃ z,Blk wr g 359 #[.map (some b),.int .i64 z]) (fun _ wr=>wr.rangeLeft b2 w2.heap.size)
  case atStart =>
   refine ⟨s,_,_,rfl,hrg3,.inl rfl,Int.le_refl _,hs,fun k hk hks hl _=>?_,hgn3,z2,hB3⟩
   rw [(HD3.out k hk).1] at hl
   simp at hl
   exact absurd hks hl
  case round =>
   obtain ⟨mv,left,cnt,rfl,hrg,hmv,hsm,hmb,hall,hgn,z,hz⟩:=hrel
   clear hrg3 hgn3 hB3
   go_wp2_with (at_next;refine wpList_next_ranges _ rfl _ rfl 3 lawI _ (Value.int .i64) (fun c:Bx=>Value.bool c.b) (fun key kl hkey=>by obtain ⟨x,rfl,_⟩:=Maps.keyOf_int_inv Tryz.underlying3 hkey;exact ⟨x,rfl⟩) (fun v y hv=>by obtain ⟨c,rfl,_⟩:=qhw hv;exact ⟨⟨c⟩,rfl⟩) b2 w2.heap.size seen.length D left cnt rfl hrg ?_ ?_)
   ·intro hc hl
    go_wp2
    go_ret2
    refine ⟨mv,true,rfl,⟨fun _=>⟨hss,hmv,hsm,fun k hk1 hk2=>?_⟩,fun h=>(by cases h)⟩,(hbw2.gw hgn)⟩
    have hks:k∈seen:=(HS.out k).2 hk1
    exact hall k (rch_bd HF.out hk1) hks (hl _) hk2
   ·intro x c kl ya yb w4 cnt' hkey hlk hv hat hrg4 hlt hgr4 hsz hen
    obtain ⟨x',ex,rfl,hwx⟩:=Maps.keyOf_int_inv Tryz.underlying3 hkey
    cases ex
    have hxb:bd x:=bd64 hwx
    have hxs:x∈seen:=by
     have h1:=Maps.has_true_of_atKey hat
     rw [(HD3.out x hxb).1] at h1
     simpa using h1
    have hgn4:w2.grownBy w4 (some g):=hgn.andThen hgr4 (fun j hj=>by injection hj with hj;exact .inl (by omega))
    have hz4:=hz.grown hgr4 (by simp;omega)
    by_cases hgt:mv<x
    ·have hdg:decide (mv<x)=true:=by simpa using hgt
     have hRR:RgR w4 g W.heap.size F:=⟨b,base,m,_,hz4,hb0,hbg,hgb,Nat.le_trans hbs hgn4.size,hm,HG2.out.kept hgn4 (by omega) hgb⟩
     go_wp2_with fail
     refine (over_ g W.heap.size F x U _ hRR hxb hUl HF.out).mono ?_
     rintro e w5 ⟨b3,seen3,rfl,hb3,hst3,hseen3,hR5,hg5,hz5⟩
     have hlook:=hst3.look hs
     obtain ⟨p,hp⟩:∃ p,seen3.contains s=p:=⟨_,rfl⟩
     rw [hp] at hlook
     have HP3:=zh hp
     have HS3:=zh hseen3
     have hz5:=hz5 _ _ hz4
     clear hp hseen3 hst3 hen hz hz4 hRR hR5
     have hgn5:w2.grownBy w5 (some g):=World.grownBy.trans hgn4 hg5
     have hrg5:=hrg4.kept hg5 (by simp;omega) (by simp;omega)
     have hxr:Rch F s x:=(HS.out x).1 hxs
     cases p with
     | true =>
      have hxs2:Rch F x s:=(HS3.out s).1 (by have:=HP3.out;simpa using this)
      go_wp2
      refine ⟨⟨x,_,cnt',rfl,hrg5,.inr ⟨hxr,hxs2⟩,by omega,hxb,fun k hk hks hl hr=>?_,hgn5,hz5⟩,by rw [hrg5.left_eq,hrg.left_eq];exact hlt⟩
      rcases qkv hl with h1|h1
      ·have:=hall k hk hks h1 hr;omega
      ·omega
     | false =>
      have hxs2:¬Rch F x s:=fun hr=>by
       have h1:=(HS3.out s).2 hr
       have h2:=HP3.out
       simp at h2
       exact h2 h1
      go_wp2
      refine ⟨⟨mv,_,cnt',rfl,hrg5,hmv,hsm,hmb,fun k hk hks hl hr=>?_,hgn5,hz5⟩,by rw [hrg5.left_eq,hrg.left_eq];exact hlt⟩
      rcases qkv hl with h1|h1
      ·exact hall k hk hks h1 hr
      ·rw [h1] at hr;exact absurd hr hxs2
    ·have hdg:decide (mv<x)=false:=by simpa using hgt
     go_wp2
     refine ⟨⟨mv,_,cnt',rfl,hrg4,hmv,hsm,hmb,fun k hk hks hl hr=>?_,hgn4,z,hz4⟩,by rw [hrg4.left_eq,hrg.left_eq];exact hlt⟩
     rcases qkv hl with h1|h1
     ·exact hall k hk hks h1 hr
     ·omega
end Go.Proofs.YtdjbpcnhnkemiaaGreat.lk
namespace Go.Proofs.YtdjbpcnhnkemiaaGreat.tp
open Go.ChangeShapes Go.WideShapes Go.ChangeAt Go.RowKit Go.Proofs.YtdjbpcnhnkemiaaGreat.lib
variable {w w':World}
variable {n c g B b off i j k m n2 n3 c2 c3 c4 c5 c6 gs gn np lo gr gd id b2 off2:Nat}
variable {A A2 A3 A4 A5 A6:Option Addr}
variable {cs:List Value}
variable {l r:List UInt8}
variable {rs:List (List UInt8)}
variable {s o e:Int}
variable {nm:ByteArray}
variable {F G:qab}
variable {x:DBd}
theorem qni {F:Int->List Int}:∀ {n:Nat} {a b:Int},Steps F (n+1) a b->lk.Rch F a b
 | 0,a,b,⟨c,h1,h2⟩=>by cases h2;exact .one h1
 | n+1,a,b,⟨c,h1,h2⟩=>lk.Rch.trans (.one h1) (qni h2)
theorem rch_mem {S:List Int} {L:lk.Lk} (hi:PInv S L) {a b:Int} (h:lk.Rch (edg L) a b):b∈S:=by
 cases h with
 | one h=>exact (qkd hi h).1
 | more _ h=>exact (qkd hi h).1
structure HoldR (S:List Int) (L:lk.Lk) (q:lk.Hd) (er:Int) (S':List Int) (L':lk.Lk):Prop where
 srt:Srt S'
 sub:∀ z∈S',z∈S
 len:S'.length<=S.length
 inv:PInv S' L'
 hl:L'.hs.length<=L.hs.length+1
 ok:er=0->q.s∈S'
 stay:q.s∈S->S'.length=S.length->er≠0->S'=S/\lk.freeB L q=false/\L'=lk.askL L q/\∀ n,¬Steps (edg (lk.askL L q)) (n+1) q.s q.s
structure HoldS (S:List Int) (L:lk.Lk) (q:lk.Hd) (S':List Int) (L':lk.Lk):Prop where
 srt:Srt S'
 sub:∀ z∈S',z∈S
 inv:PInv S' L'
 hl:L'.hs.length<=L.hs.length
 here:q.s∈S'
 was:(S'=S/\L'=L)\/S'.length<S.length
theorem HoldS.ok {S S':List Int} {L L':lk.Lk} {q:lk.Hd} (h:HoldS S L q S' L'):HoldR S L q 0 S' (lk.askL L' q) :=
 ⟨h.srt,h.sub,by
  rcases h.was with e|e
  ·rw [e.1];exact zl _
  ·exact Nat.le_of_lt e,h.inv.ask h.here,Nat.le_trans (qlw _ _) (by have:=h.hl;omega),fun _=>h.here,fun _ _ e=>absurd rfl e⟩
theorem HoldS.wait {S S':List Int} {L L':lk.Lk} {q:lk.Hd} (h:HoldS S L q S' L') (hf:lk.freeB L' q=false) (hn:¬lk.Rch (edg (lk.askL L' q)) q.s q.s):HoldR S L q 16 S' (lk.askL L' q) :=
 ⟨h.srt,h.sub,by
  rcases h.was with e|e
  ·rw [e.1];exact zl _
  ·exact Nat.le_of_lt e,h.inv.ask h.here,Nat.le_trans (qlw _ _) (by have:=h.hl;omega),fun e=>absurd e (by decide),fun _ e _=>by
  rcases h.was with ⟨rfl,rfl⟩|e2
  ·exact ⟨rfl,hf,rfl,fun n hs=>hn (qni hs)⟩
  ·omega⟩
theorem qgs {S:List Int} {k:Int} (h:k∈S):(S.filter fun z=>z != k).length<S.length:=by
 have h1:=List.length_filter_lt_length_iff_exists (p:=fun z=>z != k) (l:=S) |>.2 ⟨k,h,by simp⟩
 exact h1
theorem HoldS.back {S S':List Int} {L L':lk.Lk} {q:lk.Hd} (h:HoldS S L q S' L') (hf:lk.freeB L' q=false) {k:Int} (hk:k∈S') (hks:k≠q.s):HoldS S L q (S'.filter fun z=>z != k) (lk.freeL (lk.askL L' q) k) :=
 ⟨qij h.srt _,fun z hz=>h.sub z (List.mem_filter.1 hz).1,(h.inv.ask h.here).free k,Nat.le_trans (List.length_filter_le _ _) (by rw [qft _ _ hf];exact h.hl),by simp [h.here,Ne.symm hks],.inr (by
  have h1:=qgs hk
  rcases h.was with e|e
  ·rw [e.1] at h1;rw [e.1];exact h1
  ·omega)⟩
theorem HoldS.lost {S S':List Int} {L L':lk.Lk} {q:lk.Hd} (h:HoldS S L q S' L') (hf:lk.freeB L' q=false):HoldR S L q 17 (S'.filter fun z=>z != q.s) (lk.freeL (lk.askL L' q) q.s):=by
 have h1:=qgs h.here
 have h2:(S'.filter fun z=>z != q.s).length<S.length:=by
  rcases h.was with e|e
  ·rw [e.1] at h1;rw [e.1];exact h1
  ·omega
 exact ⟨qij h.srt _,fun z hz=>h.sub z (List.mem_filter.1 hz).1,Nat.le_of_lt h2,(h.inv.ask h.here).free _,Nat.le_trans (List.length_filter_le _ _) (by rw [qft _ _ hf];have:=h.hl;omega),fun e=>absurd e (by decide),fun _ e _=>by omega⟩
theorem bd4 {z:Int} (h:0<=z/\z<4):lk.bd z:=⟨by omega,by omega⟩
def qhy (g:Nat) (w:World):Nat:=match w.cell? ⟨g,1,none⟩ with
 | some (.slice _ n _)=>n
 | _=>0
theorem CallW.works {T:List Tab} {S:List Int} {L:lk.Lk} (h:CallW w g B o e (dbG T S L) A c A2 c2 A3 c3 A4 c4):qhy g w=S.length:=by
 have q:=h.blk.cell 1
 unfold qhy
 rw [show w.cell? ⟨g,1,none⟩=some (.slice A2 (dbG T S L).2.1.length c2) from q]
 simp [dbG]
def HoldB (p0 p1 p2 p3 g:Nat) (s:Int) (nm:ByteArray) (xx:Bool) (W:World):Prop :=
 Blk W p0 88 #[.pointer (some ⟨g,0,none⟩)]/\Blk W p1 3 #[.int .i64 s]/\Blk W p2 9 #[.string nm]/\Blk W p3 4 #[.bool xx]
theorem HoldB.frm {p0 p1 p2 p3:Nat} {xx:Bool} {W W':World} {G:Nat->Prop} (h:HoldB p0 p1 p2 p3 g s nm xx W) (k:Frm G W W') (h0:¬G p0) (h1:¬G p1) (h2:¬G p2) (h3:¬G p3):HoldB p0 p1 p2 p3 g s nm xx W' :=
 ⟨k.blk h.1 h0,k.blk h.2.1 h1,k.blk h.2.2.1 h2,k.blk h.2.2.2 h3⟩
def HoldI (S:List Int) (L:lk.Lk) (q:lk.Hd) (g B b2 c c2:Nat) (o e:Int) (T:List Tab) (A:Option Addr) (p0 p1 p2 p3:Nat) (w wr:World):Prop :=
 ∃ S' L' A5 c5 A6 c6,HoldS S L q S' L'/\CallW wr g B o e (dbG T S' L') A c (some ⟨b2,0,none⟩) c2 A5 c5 A6 c6/\Frm (fun b=>b=g\/b=b2) w wr/\HoldB p0 p1 p2 p3 g q.s q.t q.x wr
def HoldE (S:List Int) (L:lk.Lk) (q:lk.Hd) (g B b2 c c2:Nat) (o e:Int) (T:List Tab) (A:Option Addr) (w:World) (e':Ending) (w':World):Prop :=
 ∃ er S' L',e'=.returned (.int .i64 er)/\HoldR S L q er S' L'/\(∃ A5 c5 A6 c6,CallW w' g B o e (dbG T S' L') A c (some ⟨b2,0,none⟩) c2 A5 c5 A6 c6)/\Frm (fun b=>b=g\/b=b2) w w'
theorem holdG_ {T:List Tab} {S:List Int} {L:lk.Lk} {xx:Bool}
  (h:CallW w g B o e (dbG T S L) A c (some ⟨b2,0,none⟩) c2 A3 c3 A4 c4) (hT:T.length<=1000) (hT2:∀ t∈T,qeh t) (hm:Mono (cmpT nm) T) (hit:isG (cmpT nm) T=true)
  (hS:Srt S) (hS4:∀ z∈S,0<=z/\z<4) (hin:s∈S) (hi:PInv S L) (hl:L.hs.length<=900) :
  Calls Tryz.prog 28 #[.pointer (some ⟨g,0,none⟩),.int .i64 s,.string nm,.bool xx] w (HoldE S L ⟨s,nm,xx⟩ g B b2 c c2 o e T A w):=by
 have hs4:=hS4 s hin
 have hlen4:∀ (S':List Int),Srt S'->(∀ z∈S',z∈S)->S'.length<=4:=fun S' h1 h2=>qep _ [0,1,2,3] (qgp h1) (fun z hz=>by have:=hS4 z (h2 z hz);have:z=0\/z=1\/z=2\/z=3:=(by omega);simpa using this)
 have hok:∀ (S':List Int) (L':lk.Lk),S'.length<=4->L'.hs.length<=1000->L'.ws.length<=1000->okDB (dbG T S' L'):=fun S' L' h1 h2 h3=>ok_dbG hT hT2 (by omega) h2 h3
 have HC:=zh h
 have HSR:=zh hS
 have HM:=zh hm
 have HTL:=zh hT
 obtain ⟨tq,htq⟩:∃ q,posG (cmpT nm) T=q:=⟨_,rfl⟩
 have HIT:=zh (za hit htq)
 have HK:=zh hok
 have HL4:=zh hlen4
 have HIN:=zh (za hin hS4)
 have HL:=zh hl
 have HQ:=zh (show HoldS S L ⟨s,nm,xx⟩ S L from ⟨hS,fun _ h=>h,hi,zl _,hin,.inl ⟨rfl,rfl⟩⟩)
 have hmf:∀ (fn:Fn) (first cap:Array Value) (w:World),(Instr.makeFunc fn first cap).run Tryz.prog w=.ok (.func fn first cap) w:=fun _ _ _ _=>rfl
 clear h hm hit htq hS hi hok hlen4 hS4 hin hl hT hT2
 go_enter Tryz.func28,Tryz.ntmps28
 go_upto_region 1 with fail
 obtain ⟨W,hW_,hb1,B0,B1,B2,B3⟩:=al4 w 88 3 9 4 #[.pointer (some ⟨g,0,none⟩)] #[.int .i64 s] #[.string nm] #[.bool xx]
 rw [<-hW_]
 clear hW_
 obtain ⟨p0,hp0⟩:∃ b,w.heap.size=b:=⟨_,rfl⟩
 obtain ⟨p1,hp1⟩:∃ b,w.heap.size+1=b:=⟨_,rfl⟩
 obtain ⟨p2,hp2⟩:∃ b,w.heap.size+1+1=b:=⟨_,rfl⟩
 obtain ⟨p3,hp3⟩:∃ b,w.heap.size+1+1+1=b:=⟨_,rfl⟩
 rw [hp3] at B3 ⊢
 rw [hp2] at B2 ⊢
 rw [hp1] at B1 ⊢
 rw [hp0] at B0 ⊢
 have hlo:w.heap.size<=p0/\w.heap.size<=p1/\w.heap.size<=p2/\w.heap.size<=p3:=⟨by omega,by omega,by omega,by omega⟩
 have hgl:g<w.heap.size:=HC.out.blk.lt
 have hbl:b2<w.heap.size:=(HC.out.wrk.lt rfl).2
 have HN:=zh (show ¬(p0=g\/p0=b2)/\¬(p1=g\/p1=b2)/\¬(p2=g\/p2=b2)/\¬(p3=g\/p3=b2) from ⟨by omega,by omega,by omega,by omega⟩)
 clear hp0 hp1 hp2 hp3 hlo hgl hbl
 have HB:=zh (show HoldB p0 p1 p2 p3 g s nm xx W from ⟨B0,B1,B2,B3⟩)
 have HC1:=zh (HC.out.ext hb1)
 have HF1:=zh (show Frm (fun b=>b=g\/b=b2) w W from Frm.below hb1)
 have q0:=B0.cell 0
 have q1:=B1.cell 0
 clear B0 B1 B2 B3 hb1 HC
 have HT:=qgo HC1.out s (by have:=HL4.out _ HSR.out (fun _ h=>h);simp [dbG];omega) (qgd HSR.out s) ⟨by omega,by omega⟩ (qhm HIN.out.2)
 rw [show (dbG T S L).2.1=S.map w0 from rfl,(qfl HSR.out s).1,decide_eq_true HIN.out.1] at HT
 obtain ⟨wq,hwq⟩:∃ q,posG (cmpW s) (S.map w0)=q:=⟨_,rfl⟩
 rw [hwq] at HT
 have HT:=zh HT
 clear hwq
 go_wp2_with fail
 refine HT.out.mono ?_
 rintro e' w1 ⟨rfl,hbb⟩
 have HB1:=zh (HB.out.frm (Frm.below (G:=fun b=>b=g\/b=b2) hbb) HN.out.1 HN.out.2.1 HN.out.2.2.1 HN.out.2.2.2)
 have HC2:=zh (HC1.out.ext hbb)
 have HF2:=zh (HF1.out.trans (Frm.below hbb))
 clear q0 q1 hbb HT HB HC1 HF1
 have q0:=HB1.out.1.cell 0
 have q2:=HB1.out.2.2.1.cell 0
 have HT:=qme HC2.out nm HTL.out HM.out
 rw [show (dbG T S L).1=T from rfl,HIT.out.1,HIT.out.2] at HT
 have HT:=zh HT
 go_wp2_with fail
 refine HT.out.mono ?_
 rintro e' w2 ⟨rfl,hbb⟩
 have HB2:=zh (HB1.out.frm (Frm.below (G:=fun b=>b=g\/b=b2) hbb) HN.out.1 HN.out.2.1 HN.out.2.2.1 HN.out.2.2.2)
 have HC3:=zh (HC2.out.ext hbb)
 have HF3:=zh (HF2.out.trans (Frm.below hbb))
 clear q0 q2 hbb HT HB1 HC2 HF2
 have HI:=zh (show HoldI S L ⟨s,nm,xx⟩ g B b2 c c2 o e T A p0 p1 p2 p3 w w2 from ⟨S,L,A3,c3,A4,c4,HQ.out,HC3.out,HF3.out,HB2.out⟩)
 clear HC3 HF3 HB2 HQ
 go_wp2_with fail
 go_loopw [] (fun wr=>HoldI S L ⟨s,nm,xx⟩ g B b2 c c2 o e T A p0 p1 p2 p3 w wr) (fun wr=>qhy g wr)
 case atStart=>exact HI.out
 case round =>
  clear HI
  obtain ⟨S',L',A5,c5,A6,c6,hq,hc,hf,hbb⟩:=hrel
  have HW:=zh hc.works
  have HQ:=zh hq
  have HF:=zh hf
  have hok:=HK.out S' L' (HL4.out _ hq.srt hq.sub) (by have:=hq.hl;have:=HL.out;omega) (by have:=hq.inv.wlen;have:=HL4.out _ hq.srt hq.sub;omega)
  have HA:=askc_ hc hbb.1 hbb.2.1 hbb.2.2.1 hbb.2.2.2 hok
  rw [lk_dbG,show qbv (dbG T S' L') (lk.askL L' ⟨s,nm,xx⟩)=dbG T S' (lk.askL L' ⟨s,nm,xx⟩) from rfl] at HA
  have HBB:=zh hbb
  cases hfr:lk.freeB L' ⟨s,nm,xx⟩ with
  | true =>
   rw [hfr] at HA
   have HA:=zh HA
   clear hq hc hf hbb hok hfr
   go_wp2_with fail
   refine HA.out.mono ?_
   rintro e' w3 ⟨rfl,⟨A7,c7,A8,c8,hc⟩,hf3⟩
   have HE:=zh (show HoldE S L ⟨s,nm,xx⟩ g B b2 c c2 o e T A w (.returned (.int .i64 0)) w3 from ⟨0,S',_,rfl,HQ.out.ok,⟨A7,c7,A8,c8,hc⟩,HF.out.trans (hf3.mono fun b h=>.inl h)⟩)
   clear hc hf3 HA HQ HF
   go_wp2
   go_ret
   exact HE.out
  | false =>
   rw [hfr] at HA
   have HFR:=zh hfr
   have HA:=zh HA
   clear hq hc hf hbb hok hfr
   go_wp2_with fail
   refine HA.out.mono ?_
   rintro e' w3 ⟨rfl,⟨A7,c7,A8,c8,hc⟩,hf3⟩
   have HC3:=zh hc
   have HF3:=zh (show Frm (fun b=>b=g\/b=b2) w w3 from HF.out.trans (hf3.mono fun b h=>.inl h))
   have HB3:=zh (HBB.out.frm (show Frm (fun b=>b=g\/b=b2) _ w3 from hf3.mono fun b h=>.inl h) HN.out.1 HN.out.2.1 HN.out.2.2.1 HN.out.2.2.2)
   have HINV:=zh (HQ.out.inv.ask (h:=⟨s,nm,xx⟩) HQ.out.here)
   have hsub:∀ z∈S',0<=z/\z<4:=fun z hz=>HIN.out.2 z (HQ.out.sub z hz)
   have hl4:=HL4.out _ HQ.out.srt HQ.out.sub
   have hh1:(lk.askL L' ⟨s,nm,xx⟩).hs.length<=1000:=by rw [qft _ _ HFR.out];have:=HQ.out.hl;have:=HL.out;omega
   have hh2:(lk.askL L' ⟨s,nm,xx⟩).ws.length<=1000:=by have:=HINV.out.wlen;omega
   have HOK:=zh (HK.out _ _ hl4 hh1 hh2)
   obtain ⟨n7,hn7⟩:∃ n,(dbG T S' (lk.askL L' ⟨s,nm,xx⟩)).2.2.1.length=n:=⟨_,rfl⟩
   obtain ⟨n8,hn8⟩:∃ n,(dbG T S' (lk.askL L' ⟨s,nm,xx⟩)).2.2.2.length=n:=⟨_,rfl⟩
   have BG:=HC3.out.blk
   have HLR:=HC3.out.lkr
   rw [lk_dbG,hn7,hn8] at HLR
   rw [hn7,hn8] at BG
   have HG23:=zh (za (BG.cell 2) (BG.cell 3))
   have HV:=zh (lk.Victim_ _ s _ w3.drew (HLR.ext (zb _ _).drew) hh1 hh2 (fun o ho=>bd4 (hsub _ (HINV.out.hs o ho))) (fun o ho=>bd4 (hsub _ (HINV.out.ws o ho))) (bd4 hs4))
   have HSB:=zh hsub
   clear hc hf3 HA HF HBB hn7 hn8 BG HLR hsub hl4 hh1 hh2
   go_wp2_with fail
   have D:=fun w' (h:Below w3.heap.size w3.drew w')=>za ((HB3.out.1.ext ((zb _ _).drew.trans h)).cell 0) (za ((HB3.out.2.1.ext ((zb _ _).drew.trans h)).cell 0) (za ((((zb _ _).drew.trans h).cell (p:=⟨g,2,none⟩) HC3.out.blk.lt).trans HG23.out.1) ((((zb _ _).drew.trans h).cell (p:=⟨g,3,none⟩) HC3.out.blk.lt).trans HG23.out.2)))
   refine r1 [(0,true),(1,true),(2,true),(3,true),(4,true),(5,true),(6,false),(7,true),(8,true),(9,true),(10,true),(11,true)] ?_
   repeat ((first|refine pT ?_|refine pF ?_);try go_frame)
   clear D
   refine pD fun K hK=>?_;go_simp
   refine HV.out.mono ?_
   rintro e' w4 ⟨k,is,rfl,hv,hb4⟩
   refine hK.out _ _ hb4 ?_
   clear hK K
   replace hb4:=(zb w3.heap.size w3).drew.trans hb4
   repeat ((first|refine pT ?_|refine pF ?_);try go_frame)
   refine qad ?_
   have HC4:=zh (HC3.out.ext hb4)
   have HF4:=zh (HF3.out.trans (Frm.below hb4))
   have HB4:=zh (HB3.out.frm (Frm.below (G:=fun b=>b=g\/b=b2) hb4) HN.out.1 HN.out.2.1 HN.out.2.2.1 HN.out.2.2.2)
   clear hb4 HC3 HF3 HB3 HV HG23
   cases is with
   | false =>
    have HE:=zh (show HoldE S L ⟨s,nm,xx⟩ g B b2 c c2 o e T A w (.returned (.int .i64 16)) w4 from ⟨16,S',_,rfl,HQ.out.wait HFR.out (hv.no rfl).1,⟨A7,c7,A8,c8,HC4.out⟩,HF4.out⟩)
    clear hv
    go_wp2
    go_ret
    exact HE.out
   | true =>
    have hkS:k∈S':=by
     rcases (hv.yes rfl).2.1 with e|e
     ·rw [e];exact HQ.out.here
     ·exact rch_mem HINV.out e.1
    have hk4:=HSB.out k hkS
    have HKS:=zh hkS
    have HBK:=back0_ (s:=k) (s':=k) (marks:=[]) HC4.out HOK.out (qhm HSB.out) ⟨by omega,by omega⟩ (qgd HQ.out.srt k) ((qfl HQ.out.srt k).1.trans (decide_eq_true hkS)) ((qfl HQ.out.srt k).2 hkS).1
    rw [qms HQ.out.srt hkS] at HBK
    have HBK:=zh HBK
    clear hv hkS
    have q0:=HB4.out.1.cell 0
    have q1:=HB4.out.2.1.cell 0
    go_wp2_with fail
    refine HBK.out.mono ?_
    rintro e' w5 ⟨rfl,⟨A9,c9,A10,c10,hc5⟩,hf5⟩
    have HC5:=zh hc5
    have HF5:=zh (HF4.out.trans hf5)
    have HB5:=zh (HB4.out.frm hf5 HN.out.1 HN.out.2.1 HN.out.2.2.1 HN.out.2.2.2)
    clear hc5 hf5 HBK HC4 HF4 HB4 q0 q1
    have q1:=HB5.out.2.1.cell 0
    by_cases hks:k=s
    ·subst hks
     have HE:=zh (show HoldE S L ⟨k,nm,xx⟩ g B b2 c c2 o e T A w (.returned (.int .i64 17)) w5 from ⟨17,_,_,rfl,HQ.out.lost HFR.out,⟨A9,c9,A10,c10,HC5.out⟩,HF5.out⟩)
     go_wp2
     go_ret
     exact HE.out
    ·have hne:(k == s)=false:=by simpa using hks
     have hlt:qhy g w5<qhy g wr:=by rw [HC5.out.works,HW.out];exact qgs HKS.out
     have HX:=zh (show HoldI S L ⟨s,nm,xx⟩ g B b2 c c2 o e T A p0 p1 p2 p3 w w5 from ⟨_,_,A9,c9,A10,c10,HQ.out.back HFR.out HKS.out hks,HC5.out,HF5.out,HB5.out⟩)
     clear hks
     go_wp2
     go_roundw
     case rel=>exact HX.out
     case measure=>exact hlt
theorem holdN_ {T:List Tab} {S:List Int} {L:lk.Lk} {xx:Bool}
  (h:CallW w g B o e (dbG T S L) A c A2 c2 A3 c3 A4 c4) (hS:Srt S) (hl:S.length<=4) (hS4:∀ z∈S,0<=z/\z<4) (hs4:0<=s/\s<4) (hin:s∉S) :
  Calls Tryz.prog 28 #[.pointer (some ⟨g,0,none⟩),.int .i64 s,.string nm,.bool xx] w fun e' w'=>e'=.returned (.int .i64 2)/\Below w.heap.size w w':=by
 have HC:=zh h
 have HSR:=zh (za hS hS4)
 have HIN:=zh hin
 have hmf:∀ (fn:Fn) (first cap:Array Value) (w:World),(Instr.makeFunc fn first cap).run Tryz.prog w=.ok (.func fn first cap) w:=fun _ _ _ _=>rfl
 clear h hS hS4 hin
 go_enter Tryz.func28,Tryz.ntmps28
 go_upto_region 1 with fail
 obtain ⟨W,hW_,hb1,B0,B1,B2,B3⟩:=al4 w 88 3 9 4 #[.pointer (some ⟨g,0,none⟩)] #[.int .i64 s] #[.string nm] #[.bool xx]
 rw [<-hW_]
 clear hW_
 have q0:=B0.cell 0
 have q1:=B1.cell 0
 have HT:=qgo (HC.out.ext hb1) s (by simp [dbG];omega) (qgd HSR.out.1 s) ⟨by omega,by omega⟩ (qhm HSR.out.2)
 rw [show (dbG T S L).2.1=S.map w0 from rfl,(qfl HSR.out.1 s).1,decide_eq_false HIN.out] at HT
 have HT:=zh HT
 have HB:=zh hb1
 clear B0 B1 B2 B3 hb1 HC
 go_wp2_with fail
 refine HT.out.mono ?_
 rintro e' w1 ⟨rfl,hbb⟩
 have HB1:=zh (HB.out.tr hbb)
 clear hbb HT HB q0 q1
 go_wp2
 go_ret
 exact ⟨rfl,HB1.out⟩
def HoldY (S:List Int) (L:lk.Lk) (q:lk.Hd) (g B:Nat) (o e:Int) (T:List Tab) (w:World) (e':Ending) (w':World):Prop :=
 ∃ er S' L',e'=.returned (.int .i64 er)/\HoldR S L q er S' L'/\CallX w' g B o e (dbG T S' L')/\Frm (fun b=>B<=b) w w'
theorem holdA_ {T:List Tab} {S:List Int} {L:lk.Lk} {xx:Bool}
  (h:CallX w g B o e (dbG T S L)) (hT:T.length<=1000) (hT2:∀ t∈T,qeh t) (hm:Mono (cmpT nm) T) (hit:isG (cmpT nm) T=true)
  (hS:Srt S) (hS4:∀ z∈S,0<=z/\z<4) (hs4:0<=s/\s<4) (hi:PInv S L) (hl:L.hs.length<=900) :
  Calls Tryz.prog 28 #[.pointer (some ⟨g,0,none⟩),.int .i64 s,.string nm,.bool xx] w (HoldY S L ⟨s,nm,xx⟩ g B o e T w):=by
 obtain ⟨A,c,A2,c2,A3,c3,A4,c4,h⟩:=h
 have hlen4:S.length<=4:=qep _ [0,1,2,3] (qgp hS) (fun z hz=>by have:=hS4 z hz;have:z=0\/z=1\/z=2\/z=3:=(by omega);simpa using this)
 by_cases hin:s∈S
 ·obtain ⟨b2,rfl⟩:∃ b,A2=some ⟨b,0,none⟩:=by
   obtain ⟨dss,k1,_,_⟩:=h.wrk
   have:=List.length_pos_of_mem hin
   obtain ⟨g',e,_⟩:=qcb k1 (by simp [dbG];omega)
   exact ⟨_,e⟩
  refine (holdG_ h hT hT2 hm hit hS hS4 hin hi hl).mono fun e' w' ⟨er,S',L',h1,h2,⟨A5,c5,A6,c6,h3⟩,h4⟩=>⟨er,S',L',h1,h2,⟨_,_,_,_,_,_,_,_,h3⟩,h4.mono fun b hb=>?_⟩
  rcases hb with e|e
  ·rw [e];exact h.lo
  ·rw [e];exact (h.wrk.lt rfl).1
 ·exact (holdN_ h hS hlen4 hS4 hs4 hin).mono fun e' w' ⟨h1,h2⟩=>⟨2,S,L,h1,⟨hS,fun _ h=>h,zl _,hi,by omega,fun e=>absurd e (by decide),fun h=>absurd h hin⟩,CallX.ext ⟨_,_,_,_,_,_,_,_,h⟩ h2,Frm.below h2⟩
def HoldX (S:List Int) (L:lk.Lk) (q:lk.Hd) (T:List Tab) (w:World) (e:Ending) (w':World):Prop:=∃ er S' L',HoldR S L q er S' L'/\DBE (dbG T S' L') er w e w'
theorem xhold_ {T:List Tab} {S:List Int} {L:lk.Lk} {xx:Bool}
  (h:eDB.rel w F cs (dbG T S L)) (hT:T.length<=1000) (hT2:∀ t∈T,qeh t) (hm:Mono (cmpT nm) T) (hit:isG (cmpT nm) T=true)
  (hS:Srt S) (hS4:∀ z∈S,0<=z/\z<4) (hs4:0<=s/\s<4) (hi:PInv S L) (hl:L.hs.length<=900) :
  Calls Tryz.prog 7 #[.agg cs.toArray,.int .i64 s,.string nm,.bool xx] w (HoldX S L ⟨s,nm,xx⟩ T w):=by
 have hlen4:∀ (S':List Int),Srt S'->(∀ z∈S',z∈S)->S'.length<=4:=fun S' h1 h2=>qep _ [0,1,2,3] (qgp h1) (fun z hz=>by have:=hS4 z (h2 z hz);have:z=0\/z=1\/z=2\/z=3:=(by omega);simpa using this)
 have hokG:∀ (S':List Int) (L':lk.Lk),Srt S'->(∀ z∈S',z∈S)->PInv S' L'->L'.hs.length<=1000->okDB (dbG T S' L'):=fun S' L' h1 h2 h3 h4=>ok_dbG hT hT2 (by have:=hlen4 _ h1 h2;omega) h4 (by have:=hlen4 _ h1 h2;have:=h3.wlen;omega)
 have HS:=zh h
 have HOK:=zh (hokG _ _ hS (fun _ h=>h) hi (by omega))
 have HOK':=zh hokG
 have HA:=zh (fun (w':World) (g B:Nat) (h':CallX w' g B 0 0 (dbG T S L))=>holdA_ (s:=s) (nm:=nm) (xx:=xx) h' hT hT2 hm hit hS hS4 hs4 hi hl)
 obtain ⟨A1,n1,c1,A2,n2,c2,A3,n3,c3,A4,n4,c4,rfl,h1,h2,h3,h4⟩:=qav h
 clear h hm hit hlen4 hokG h1 h2 h3 h4 hT hT2 hS hS4 hi
 go_enter Tryz.func7,Tryz.ntmps7
 go_upto_region 1 with fail
 obtain ⟨W,hW_,hb1,BD,BR⟩:=al2 w 31 31 #[.slice A1 n1 c1,.slice A2 n2 c2,.slice A3 n3 c3,.slice A4 n4 c4] #[.slice none 0 0,.slice none 0 0,.slice none 0 0,.slice none 0 0]
 rw [<-hW_]
 clear hW_
 obtain ⟨gd,hgd⟩:∃ g,w.heap.size=g:=⟨_,rfl⟩
 obtain ⟨gr,hgr⟩:∃ g,w.heap.size+1=g:=⟨_,rfl⟩
 have HGS:=zh (show w.heap.size<=gr by omega)
 rw [hgr] at BR ⊢
 rw [hgd] at BD ⊢
 have HF:=zh (qhq (eDB.ext HS.out hb1) HOK.out)
 have HGW:=zh BR.lt
 have HBR:=zh BR
 have HB1:=zh hb1
 have qd:=four BD (zb _ _)
 clear hgd hgr BD BR hb1
 go_wp2_with fail
 refine HF.out.mono ?_
 rintro e w1 ⟨g,rfl,hC,hb2⟩
 have HH:=zh (HA.out _ _ _ hC)
 have HBR1:=zh (HBR.out.ext hb2)
 have HB2:=zh ((HB1.out.tr hb2))
 have HW1:=zh hb2.size
 clear qd hC hb2 HF HBR HB1 HA
 go_wp2_with fail
 refine HH.out.mono ?_
 rintro e w2 ⟨er,S',L',rfl,hR,⟨A5,c5,A6,c6,A7,c7,A8,c8,hC⟩,hf⟩
 have HR:=zh hR
 have HC:=zh hC
 have HO2:=zh (HOK'.out _ _ hR.srt hR.sub hR.inv (by have:=hR.hl;omega))
 have BR6:=hf.blk HBR1.out (by have:=HGW.out;omega)
 have hbw6:Below w.heap.size w w2:=(Frm.below (G:=fun b=>W.heap.size<=b) HB2.out).trans hf |>.to_below (zl _) (fun k hk h=>by have:=HGS.out;have:=HGW.out;omega)
 have hrl6:gr<w2.heap.size:=BR6.lt
 have hws:w.heap.size<=w2.heap.size:=hbw6.size
 have hwr:w.heap.size<=gr:=HGS.out
 have q:=four_ HC.out.blk
 clear hR hC hf HH HBR1 HB2 HW1 HOK HOK' HS
 go_wp2_with fail
 refine (qjy HC.out.db HO2.out).mono ?_
 rintro e9 w9 hO
 obtain ⟨cz,rfl,hr9,hb9⟩:=hO.owned
 clear hO
 have hczl:cz.length=4:=eDB.len hr9
 have hone:=eDB.one hr9
 have hsz9:(Tryz.prog.info? 31).map (·.size)=some cz.length:=by rw [hczl];kernel_rfl
 have BR9:=BR6.ext hb9
 have hth:=Blk.there (o:=0) (n:=4) BR9 (by simp)
 have hbz8:=(hbw6.tr hb9)
 obtain ⟨B9,hg9⟩:=Blk.lay cz 0 BR9 (by rw [hczl];simp)
 rw [qai _ _ (by rw [hczl];rfl)] at B9
 have hbw9:=(hbz8.gw hg9)
 have HR9:=zh (eDB.mono (eDB.keep hr9 (Keep.grown hg9 (fun g hg h=>by injection hg with hg;omega))) (G:=fun b=>w.heap.size<=b) (fun b h=>Nat.le_trans hws h))
 clear hr9 hg9 hbz8 q
 go_wp2_with ((with_reducible refine sS 8 ?_);(refine wpList_store_mid rfl 31 _ _ rfl gr 0 cz.toArray rfl rfl ?zs1 ?zt1 (all_oneCell_toArray hone) ?_))
 case zs1=>exact (show cz.toArray.size=4 by simp [hczl]) ▸ hth
 case zt1=>rw [List.size_toArray];exact hsz9
 clear hth BR9
 generalize w9.setCells gr 0 cz=wz at *
 go_wp2
 refine bodyPost_ret (v:=.tuple #[.agg cz.toArray,.int .i64 er]) (qbe rfl _ _ gr _ _ (0,0) _ rfl B9 Tryz.underlying31 rfl (by rw [List.size_toArray];exact hsz9) rfl) rfl ⟨er,S',L',HR.out,cz,rfl,HR9.out,hbw9⟩
end Go.Proofs.YtdjbpcnhnkemiaaGreat.tp
