/- Laws of its own that the claim's proof needs; no condition beyond those that each states. -/
import Derived.Test.YtdjbpcnhnkemiaaGreatZ8
import Derived.Test.YtdjbpcnhnkemiaaGreatZ7
import Derived.Test.YtdjbpcnhnkemiaaGreatZ4
import Derived.Test.YtdjbpcnhnkemiaaGreatZ2
import Derived.Test.YtdjbpcnhnkemiaaGreatZ5
import Derived.Test.YtdjbpcnhnkemiaaGreatZ6
import Derived.Test.YtdjbpcnhnkemiaaGreatZ1
import Derived.MapKept
import Derived.OwnWalk
import Derived.Maps.OwnOps
import Derived.Laws.StructEq
import Derived.ChangeKeysEq
set_option linter.unusedVariables false
set_option maxRecDepth 1000000
set_option maxHeartbeats 16000000
namespace Go.Proofs.YtdjbpcnhnkemiaaGreat.tp
open Go.ChangeShapes Go.WideShapes Go.ChangeAt Go.RowKit Go.Proofs.YtdjbpcnhnkemiaaGreat.lib
variable {w w':World}
variable {n c g B b off i j k m n2 n3 c2 c3 c4 c5 c6 gs gn np lo gr gd id b2 off2:Nat}
variable {A A2 A3 A4 A5 A6:Option Addr}
variable {cs:List Value}
variable {l r:List UInt8}
variable {rs:List (List UInt8)}
variable {s o e:Int}
variable {nm:ByteArray}
variable {F G:qab}
variable {x:DBd}
structure PS (S:List Int) (L:lk.Lk) (m b:Nat):Prop where
 srt:Srt S
 s4:∀ z∈S,0<=z/\z<4
 inv:PInv S L
 len:S.length<=m
 hl:L.hs.length<=b
theorem PS.len4 {S:List Int} {L:lk.Lk} (h:PS S L m b):S.length<=4:=qep _ [0,1,2,3] (qgp h.srt) (fun z hz=>by have:=h.s4 z hz;have:z=0\/z=1\/z=2\/z=3:=(by omega);simpa using this)
theorem PS.hold {S S':List Int} {L L':lk.Lk} {q:lk.Hd} {er:Int} (h:PS S L m b) (hr:HoldR S L q er S' L'):PS S' L' m (b+1) :=
 ⟨hr.srt,fun z hz=>h.s4 z (hr.sub z hz),hr.inv,Nat.le_trans hr.len h.len,Nat.le_trans hr.hl (by have:=h.hl;omega)⟩
theorem PS.ok {S:List Int} {L:lk.Lk} (h:PS S L m b) (hb:b<=1000):okDB (dbG (TT 3) S L) :=
 ok_dbG (by rw [qhs];omega) (fun t ht=>(okTT 3 (by omega)).2.1 t ht) (by have:=h.len4;omega) (by have:=h.hl;omega) (by have:=h.inv.wlen;have:=h.len4;omega)
theorem PS.ends {S:List Int} {L:lk.Lk} (h:PS S L m b) (k:Int):PS (S.filter fun z=>z != k) (lk.freeL L k) m b :=
 ⟨qij h.srt _,fun z hz=>h.s4 z (List.mem_filter.1 hz).1,h.inv.free k,Nat.le_trans (List.length_filter_le _ _) h.len,Nat.le_trans (List.length_filter_le _ _) h.hl⟩
def Turn (n:Nat) (S:List Int) (L:lk.Lk) (j:Int):Prop:=S.length<n\/TI S L j
theorem Turn.skip {S:List Int} {L:lk.Lk} {j:Int} (h:Turn n S L j) (hj:j∉S):Turn n S L (j+1):=by
 rcases h with h|h
 ·exact .inl h
 ·exact .inr (h.skip hj)
theorem turn_ok {S S':List Int} {L L':lk.Lk} {q:lk.Hd} {j:Int} (hl:S.length<=n) (hr:HoldR S L q 0 S' L'):Turn n (S'.filter fun z=>z != q.s) (lk.freeL L' q.s) j:=by
 have h1:=qgs (hr.ok rfl)
 have:=hr.len
 exact .inl (by omega)
theorem turn_no {S S':List Int} {L L':lk.Lk} {q:lk.Hd} {er:Int} (hl:S.length<=n) (hin:q.s∈S) (h:Turn n S L q.s) (hr:HoldR S L q er S' L') (he:er≠0):Turn n S' L' (q.s+1):=by
 rcases Nat.lt_or_ge S'.length S.length with hlt|hge
 ·exact .inl (by omega)
 ·obtain ⟨rfl,hf,rfl,hn⟩:=hr.stay hin (by have:=hr.len;omega) he
  rcases h with h|h
  ·exact .inl h
  ·exact .inr (h.step hin rfl hf hn)
theorem turn_end {S:List Int} {L:lk.Lk} (h:Turn n S L 4) (hp:PS S L m b) (hn:0<n):S.length<n:=by
 rcases h with h|h
 ·exact h
 ·rw [h.none hp.s4];exact hn
def S0 (k:Nat):List Int:=(List.range k).map fun i:Nat=>(i:Int)
theorem ps0 (k:Nat) (hk:k<=4):PS (S0 k) ⟨[],[]⟩ 4 0:=by
 have h5:k=0\/k=1\/k=2\/k=3\/k=4:=by omega
 refine ⟨?_,fun z hz=>?_,PInv.start _,by simp [S0];omega,zl _⟩
 ·unfold Srt
  rcases h5 with rfl|rfl|rfl|rfl|rfl <;> decide
 ·simp only [S0,List.mem_map,List.mem_range] at hz
  obtain ⟨i,hi,rfl⟩:=hz
  omega
theorem beginS (k:Nat) (hk:k<4):isG (cmpW (k:Int)) ((S0 k).map w0)=false/\((S0 k).map w0).take (posG (cmpW (k:Int)) ((S0 k).map w0))++((k:Int),[],[])::((S0 k).map w0).drop (posG (cmpW (k:Int)) ((S0 k).map w0))=(S0 (k+1)).map w0:=by
 have h5:k=0\/k=1\/k=2\/k=3:=by omega
 have hp:posG (cmpW (k:Int)) ((S0 k).map w0)=k:=by rcases h5 with rfl|rfl|rfl|rfl <;> decide +kernel
 rw [hp]
 rcases h5 with rfl|rfl|rfl|rfl <;> exact ⟨by decide +kernel,rfl⟩
theorem qpt (nx:Int) (b:BlkD) (t:TxD) (h:okTx t):qkh (nx,[],[b],[[t]]):=⟨⟨by simp,fun y hy=>by cases hy⟩,by simp,fun l hl=>by simp at hl;subst hl;exact ⟨by simp,fun y hy=>by simp at hy;subst hy;exact h⟩⟩
theorem lshut1_ {nx:Int} {x:Chg} (h:eLed.rel w F cs (nx,[((id:Int),[x])],[],[])) (hok:OkC x) (hokt:okTx ((id:Int),[x])) (hid:id<9223372036854775808):
  Calls Tryz.prog 48 #[.agg cs.toArray] w fun e w'=>∃ ds:List Value,e=.returned (.tuple #[.agg ds.toArray,.int .i64 0])/\eLed.rel w' (fun b=>w.heap.size<=b) ds (nx,[],[blk1 id x],[[((id:Int),[x])]])/\Below w.heap.size w w':=by
 have HL:=zh h
 have HOK:=zh (za hok hokt)
 obtain ⟨B,n,d,B2,n2,d2,B3,n3,d3,rfl,l1,l2,l3⟩:=qei h
 have hn:n=1:=l1.len.symm
 subst hn
 clear h l1 l2 l3 hok hokt
 go_enter Tryz.func48,Tryz.ntmps48
 go_upto_region 1 with fail
 obtain ⟨W,hW_,hb1,BL,BR⟩:=al2 w 147 147 #[.int .i64 nx,.slice B 1 d,.slice B2 n2 d2,.slice B3 n3 d3] #[.int .i64 0,.slice none 0 0,.slice none 0 0,.slice none 0 0]
 rw [<-hW_]
 clear hW_
 obtain ⟨gl,hgl⟩:∃ g,w.heap.size=g:=⟨_,rfl⟩
 obtain ⟨gr,hgr⟩:∃ g,w.heap.size+1=g:=⟨_,rfl⟩
 have hgrw:w.heap.size<=gr:=by omega
 rw [hgr] at BR ⊢
 rw [hgl] at BL ⊢
 clear hgl hgr
 have hgrl:gr<W.heap.size:=BR.lt
 have hwW:w.heap.size<=W.heap.size:=hb1.size
 have HF:=zh (lown0_ (eLed.ext HL.out hb1) (qnc _ _ HOK.out.2) rfl)
 have q0:=BL.cell 0
 have q1:=BL.cell 1
 have q2:=BL.cell 2
 have q3:=BL.cell 3
 go_wp2_with fail
 refine HF.out.mono ?_
 rintro e w2 ⟨A5,A6,c6,A7,rfl,⟨h5,h6,h7⟩,hb2⟩
 clear q0 q1 q2 q3 HF
 simp only [List.length_nil,List.length_singleton] at h5 h6 h7 ⊢
 have hbw2:=(hb1.tr hb2)
 have BR2:=BR.ext hb2
 have H5:=zh (h5.bound qia)
 have H6:=zh (h6.bound flat_blk.bnd)
 have H6L:=zh (fun b e=>h6.lt e (b:=b))
 clear h5 h6 h7 BL BR
 go_upto_region 4 with (with_reducible show wpList _ _ _ (Oper.mk (some 13) _ _ _ _ _::_) _ _;refine qbt rfl 255 _ rfl (qjh _ _ _ _ rfl rfl rfl rfl) rfl ?_)
 obtain ⟨W3,hW_,hb3,BQ⟩:=al1 w2 255 #[.int .i64 nx,.slice A5 1 1,.slice A6 0 c6,.slice A7 0 0,.int .u32 0,.int .i32 0,.int .u32 0]
 rw [<-hW_]
 clear hW_
 obtain ⟨q,hq⟩:∃ g,w2.heap.size=g:=⟨_,rfl⟩
 have hqw:w.heap.size<=q:=by have:=hbw2.size;omega
 have hWq:W.heap.size<=q:=by have:=hb2.size;omega
 have hNB:∀ b,N1 W.heap.size A6 b/\b<w2.heap.size->CB W.heap.size q b/\A6≠some ⟨b,0,none⟩:=fun b h=>⟨⟨h.1.1,by have:=h.2;omega⟩,h.1.2⟩
 have HA6:=zh (show ∀ b,A6=some ⟨b,0,none⟩->b≠q from fun b e=>by have:=(H6L.out b e).2;omega)
 rw [hq] at BQ ⊢
 clear hq
 have BR3:=BR2.ext hb3
 have hbw3:=(hbw2.tr hb3)
 have H5:=zh ((H5.out.ext hb3).mono hNB)
 have H6:=zh ((H6.out.ext hb3).mono (fun b h=>(hNB b h).1))
 clear BR2 hNB H6L hb1 hb2 hb3 hbw2
 have B1:Blk (W3.setCell ⟨q,4+1,none⟩ (.int .i32 1)) q 255 #[.int .i64 nx,.slice A5 1 1,.slice A6 0 c6,.slice A7 0 0,.int .u32 0,.int .i32 1,.int .u32 0]:=BQ.set_ 5 _
 have g1:=qac W3 q 5 (.int .i32 1)
 have k1:Keep (fun b=>b≠q) W3 (W3.setCell ⟨q,4+1,none⟩ (.int .i32 1)):=Keep.grown g1 (fun g hg h=>by injection hg with hg;exact h hg.symm)
 have HO:=zh (onceG (q:=q) (o:=4) (f:=112) (a1:=#[.pointer (some ⟨q,0,none⟩)]) (a2:=#[])
  (R:=fun w'=>∃ A8 c8 A9 c9,Blk w' q 255 #[.int .i64 nx,.slice none 0 0,.slice A8 1 c8,.slice A9 1 c9,.int .u32 0,.int .i32 1,.int .u32 0]/\Sl eBlk w' (CB W.heap.size q) A8 1 c8 [blk1 id x]/\Sl (eSl eTx) w' (CB W.heap.size q) A9 1 c9 [[((id:Int),[x])]]/\Below W.heap.size W3 w')
  (BQ.cell 4) (BQ.cell 5) (BQ.frozen 5) (enters_of Tryz.func112 (by kernel_rfl) rfl)
  (fun w' ⟨_,_,_,_,b,_⟩=>⟨b.cell 4,b.cell 5,b.frozen 4,b.frozen 5⟩)
  ((lclose_ B1 (H5.out.keep (k1.mono (fun b h=>h.1.2))) (H6.out.keep k1 HA6.out (fun b h=>h.2)) HA6.out HOK.out.1 hid hWq).mono (fun e w' ⟨he,A8,c8,A9,c9,hb,h8,h9,hbl⟩=>⟨he,A8,c8,A9,c9,hb,h8,h9,((zb W.heap.size W3).grown g1 (by have:=BQ.lt;omega) (fun k hk=>by injection hk with hk;omega)).trans hbl⟩)))
 have hWW3:W.heap.size<=W3.heap.size:=by have:=BQ.lt;omega
 clear B1 g1 k1 H5 H6
 go_wp2_with fail
 refine HO.out.mono ?_
 rintro e w4 ⟨w5,rfl,⟨A8,c8,A9,c9,hb,h8,h9,hbl⟩,rfl⟩
 have BQ6:Blk ((w5.drew.setCell ⟨q,4,none⟩ (.int .u32 1)).setCell ⟨q,4+1,none⟩ (.int .i32 0)) q 255 #[.int .i64 nx,.slice none 0 0,.slice A8 1 c8,.slice A9 1 c9,.int .u32 1,.int .i32 0,.int .u32 0]:=((Blk.drew hb).set_ 4 (.int .u32 1)).set_ 5 (.int .i32 0)
 have hg6:=qah (qez w5 (some q)) (qah (qac w5.drew q 4 (.int .u32 1)) (qac _ q (4+1) (.int .i32 0)))
 have hk6:Keep (CB W.heap.size q) w5 _:=Keep.grown hg6 (fun g hg h=>by injection hg with hg;exact h.2 hg.symm)
 have H8:=zh (h8.keep hk6)
 have H9:=zh (h9.keep hk6)
 have hb36:=hbl.grown hg6 (by have:=hbl.size;omega) (fun k hk=>by injection hk with hk;omega)
 have hW5:W.heap.size<=w5.heap.size:=by have:=hbl.size;omega
 clear hg6 hk6 h8 h9 hb hbl HO HA6 BQ
 have hW6:=Nat.le_trans hWW3 hb36.size
 generalize (w5.drew.setCell ⟨q,4,none⟩ (.int .u32 1)).setCell ⟨q,4+1,none⟩ (.int .i32 0)=w6 at *
 have BR6:=BR3.below hb36 hgrl
 have hbw6:=hbw3.trans (zm hb36 hwW)
 have HLD:=zh (qkc (x:=(nx,[],[blk1 id x],[[((id:Int),[x])]])) (Sl.nil w6 (CB W.heap.size q)) H8.out H9.out)
 have HF:=zh (lown1_ HLD.out (qpt _ _ _ HOK.out.2) rfl (l:=[((id:Int),[x])]) rfl)
 have q0:=BQ6.cell 0
 have q1:=BQ6.cell 1
 have q2:=BQ6.cell 2
 have q3:=BQ6.cell 3
 clear hb36 H8 H9 HLD BR3 hbw3
 go_wp2_with fail
 refine HF.out.mono ?_
 rintro e w9 hO
 obtain ⟨cz,rfl,hr9,hb9⟩:=hO.owned
 clear hO q0 q1 q2 q3 HF BQ6
 have hczl:cz.length=4:=eLed.len hr9
 have hone:=eLed.one hr9
 have hsz9:(Tryz.prog.info? 147).map (·.size)=some cz.length:=by rw [hczl];kernel_rfl
 have BR9:=BR6.ext hb9
 have hth:=Blk.there (o:=0) (n:=4) BR9 (by simp)
 have hbz8:=(hbw6.tr hb9)
 have hws:w.heap.size<=w6.heap.size:=hbw6.size
 have hr6:gr<w6.heap.size:=BR6.lt
 obtain ⟨B9,hg9⟩:=Blk.lay cz 0 BR9 (by rw [hczl];simp)
 rw [qai _ _ (by rw [hczl];rfl)] at B9
 have hbw9:=(hbz8.gw hg9)
 have HR9:=zh (eLed.mono (eLed.keep hr9 (Keep.grown hg9 (fun g hg h=>by injection hg with hg;omega))) (G:=fun b=>w.heap.size<=b) (fun b h=>Nat.le_trans hws h))
 clear hr9 hg9 hbz8
 go_wp2_with ((with_reducible refine sS 2 ?_);(refine wpList_store_mid rfl 147 _ _ rfl gr 0 cz.toArray rfl rfl ?zs ?zt (all_oneCell_toArray hone) ?_))
 case zs=>exact (show cz.toArray.size=4 by simp [hczl]) ▸ hth
 case zt=>rw [List.size_toArray];exact hsz9
 clear hth BR9
 generalize w9.setCells gr 0 cz=wz at *
 go_wp2
 exact bodyPost_ret (v:=.tuple #[.agg cz.toArray,.int .i64 0]) (qbe rfl _ _ gr _ _ (0,0) _ rfl B9 Tryz.underlying147 rfl (by rw [List.size_toArray];exact hsz9) rfl) rfl ⟨cz,rfl,HR9.out,hbw9⟩
theorem OwnE.keepT {α:Type} {E:Enc α} (hf:Flat E) {T t:TypeId} {x:List α} (h:OwnE E t w B F A n c x) (hk:KeepT T w w') (ht:t≠T):OwnE E t w' B F A n c x:=by
 obtain ⟨css,h1,h2,h3⟩:=h
 exact ⟨css,qgz h1 hk ht,⟨h2.1,fun i cs y a b=>hf.any (h2.2 i cs y a b) _ _⟩,h3⟩
theorem sown_ (h:eDB.rel w F cs x) (hok:okDB x):Calls Tryz.prog 40 #[.agg cs.toArray] w (OwnDB x w):=by
 obtain ⟨A,n,c,A2,n2,c2,A3,n3,c3,A4,n4,c4,rfl,h1,h2,h3,h4⟩:=qav h
 have HS1:=zh h1
 have HS2:=zh h2
 have HS3:=zh h3
 have HS4:=zh h4
 have hn3:n3<=1000:=by have:=h3.len;have:=hok.2.2.2.2.1;omega
 have hn4:n4<=1000:=by have:=h4.len;have:=hok.2.2.2.2.2;omega
 have HOK:=zh hok
 clear h h1 h2 h3 h4 hok
 go_enter Tryz.func40,Tryz.ntmps40
 go_upto_region 1 with fail
 obtain ⟨W,hW_,hb1,B1,B2⟩:=al2 w 31 31 #[.slice A n c,.slice A2 n2 c2,.slice A3 n3 c3,.slice A4 n4 c4] #[.slice none 0 0,.slice none 0 0,.slice none 0 0,.slice none 0 0]
 rw [<-hW_]
 clear hW_
 obtain ⟨g2,hg2⟩:∃ g,w.heap.size+1=g:=⟨_,rfl⟩
 have hg2n:w.heap.size<g2:=by omega
 rw [hg2] at B2 ⊢
 clear hg2
 have hg2W:g2<W.heap.size:=B2.lt
 have D:∀ w',Below W.heap.size W.drew w'->w'.cell? ⟨w.heap.size,2,none⟩=some (.slice A3 n3 c3)/\w'.cell? ⟨w.heap.size,3,none⟩=some (.slice A4 n4 c4):=fun w' h=>⟨(B1.ext (zt (zb _ _).drew h)).cell 2,(B1.ext (zt (zb _ _).drew h)).cell 3⟩
 refine qcz ⟨9,3,fun g=>.pointer (some ⟨g,0,none⟩),.cells #[.slice none 0 0,.slice none 0 0] 29⟩
  [(0,true),(1,true),(2,true),(4,true),(5,true),(6,true)] [(3,false),(7,false),(8,true)] [(10,false)] (by kernel_rfl) (by kernel_rfl) ?_
 repeat ((first|refine iT ?_|refine iF ?_);try go_frame)
 refine qbn ⟨?_,?_⟩
 ·intro y hy
  simp only [List.mem_cons,List.not_mem_nil,or_false] at hy
  subst hy
  exact ⟨_,rfl,rfl,qae rfl,fun w=>by go_simp⟩
 clear D
 refine iD fun wI hI hSI K hK=>?_;go_simp
 have hbI:=hb1.drew.trans (zm hI hb1.size)
 have HF:=zh (copyH (HS3.out.ext hbI) (by omega))
 refine HF.out.mono ?_
 rintro e w3 ⟨A7,c7,rfl,ho7,hb3⟩
 have ho7:=zh ho7
 refine hK.out _ _ hb3 ?_
 have hI3:=zt hI (zm hb3 hI.size)
 have hs3:W.heap.size<=wI.heap.size:=hI.size
 have ho7:=zh ((ho7.out.base hs3).mono (G:=fun b=>W.heap.size<=b/\A7≠some ⟨b,0,none⟩) (fun b h=>⟨Nat.le_trans hs3 h.1,h.2⟩))
 clear hK K HF hI hSI hbI hb3 hs3
 refine iD fun wI hI hSI K hK=>?_;go_simp
 have hI4:=(hI3.tr hI)
 have hbI:=hb1.drew.trans (zm hI4 hb1.size)
 have HF:=zh (copyH (HS4.out.ext hbI) (by omega))
 refine HF.out.mono ?_
 rintro e w4 ⟨A8,c8,rfl,ho8,hb4⟩
 have ho8:=zh ho8
 refine hK.out _ _ hb4 ?_
 have hs4:W.heap.size<=wI.heap.size:=hI4.size
 have ho8:=zh ((ho8.out.base hs4).mono (G:=fun b=>W.heap.size<=b/\A8≠some ⟨b,0,none⟩) (fun b h=>⟨Nat.le_trans hs4 h.1,h.2⟩))
 have ho7:=zh ((ho7.out.ext hI).ext hb4)
 have hI5:=(hI4.tr hb4)
 clear hK K HF hI hSI hbI hb4 hs4 hI4 hI3
 repeat ((first|refine iT ?_|refine iF ?_);try go_frame)
 refine qbn ?_
 intro g1 wf he hb hlo1 hhi1 hat1
 try simp only [List.setIfInBounds_toArray,List.set_cons_zero,List.set_cons_succ]
 have B5:Blk wf g1 29 #[.slice none 0 0,.slice none 0 0]:=hat1
 have ho7:=zh (ho7.out.ext he)
 have ho8:=zh (ho8.out.ext he)
 clear hat1 he
 obtain ⟨cl,hcl⟩:∃ z,z=([.slice A7 x.2.2.1.length c7,.slice A8 x.2.2.2.length c8]:List Value):=⟨_,rfl⟩
 have hcll:cl.length=2:=by rw [hcl];rfl
 have honl:∀ u∈cl,u.oneCell'=true:=by
  rw [hcl]
  intro u hu
  simp at hu
  rcases hu with rfl|rfl <;> rfl
 have hszl:(Tryz.prog.info? 29).map (·.size)=some 2:=by kernel_rfl
 have hth:=Blk.there (o:=0) (n:=2) B5 (by simp)
 refine qaj rfl (qae rfl) (fun K hK=>?_)
 refine qao 29 (.tmp 3) (.tmp 12) rfl rfl g1 0 cl rfl (by rw [hcl];rfl) (by rw [hcll];exact hth) (by rw [hcll];exact hszl) honl ?_
 obtain ⟨B6,hg6⟩:=Blk.lay cl 0 B5 (by rw [hcll];simp)
 rw [qai _ _ (by rw [hcll];rfl)] at B6
 have hwf:W.heap.size<=wf.heap.size:=hb.size
 have hb6:=hb.grown hg6 hwf (fun k hk=>by injection hk with hk;omega)
 refine hK.out _ _ hb6 (qad ?_)
 clear hK K
 have hkT:=KeepT.blk hg6 B5
 have H7:=zh (ho7.out.keepT flat_hld hkT (by decide))
 have H8:=zh (ho8.out.keepT flat_hld hkT (by decide))
 have hbw5:=hb1.drew.trans (zm hb6 hb1.size)
 have hbW5:=(zb W.heap.size W).drew.trans hb6
 have B15:=B1.ext hbW5
 have B25:=B2.ext hbW5
 clear hkT hg6 hth B5 hb hb6 ho7 ho8 B1 B2 hI5
 have hg1s:=B6.lt
 have hs5:=hbW5.size
 clear hhi1 hwf
 generalize wf.setCells g1 0 cl=w5 at *
 rw [hcl] at B6
 clear hcl hcll honl hszl
 have H7:=zh (show Hh w5 W.heap.size (fun b=>W.heap.size<=b/\b<w5.heap.size) A7 _ c7 _ from ⟨(H7.out.bound flat_hld.bnd).mono (fun b h=>⟨h.1.1,h.2⟩),fun b e=>H7.out.lt e⟩)
 have H8:=zh (show Hh w5 W.heap.size (fun b=>W.heap.size<=b/\b<w5.heap.size) A8 _ c8 _ from ⟨(H8.out.bound flat_hld.bnd).mono (fun b h=>⟨h.1.1,h.2⟩),fun b e=>H8.out.lt e⟩)
 go_upto_region 2 with fail
 have D:∀ w',Below w5.heap.size w5.drew w'->w'.cell? ⟨w.heap.size,0,none⟩=some (.slice A n c)/\w'.cell? ⟨w.heap.size,1,none⟩=some (.slice A2 n2 c2)/\w'.cell? ⟨g1,0,none⟩=some (.slice A7 x.2.2.1.length c7)/\w'.cell? ⟨g1,1,none⟩=some (.slice A8 x.2.2.2.length c8):=fun w' h=>⟨(B15.ext (zt (zb _ _).drew h)).cell 0,(B15.ext (zt (zb _ _).drew h)).cell 1,(B6.ext (zt (zb _ _).drew h)).cell 0,(B6.ext (zt (zb _ _).drew h)).cell 1⟩
 refine r3 (S:=fun w'=>Below w5.heap.size w5.drew w') [(0,true),(1,true),(3,true),(4,true),(6,true),(2,false),(5,false)] [(7,true),(8,false)] (zb _ _) ?_
 repeat ((first|refine pT ?_|refine pF ?_);try go_frame)
 have HF:=zh (seachTab (HS1.out.ext hbw5.drew) HOK.out.1 HOK.out.2.1)
 refine pD fun K hK=>?_;go_simp
 refine HF.out.mono ?_
 rintro e w6 ⟨A5,c5,rfl,ho5,hb6⟩
 have ho5:=zh ho5
 refine hK.out _ _ hb6 ?_
 clear hK K HF D
 have hbw6:=hbw5.drew.trans (zm hb6 hbw5.size)
 have HF:=zh (seachWrk (HS2.out.ext hbw6) HOK.out.2.2.1 HOK.out.2.2.2.1)
 refine pD fun K hK=>?_;go_simp
 refine HF.out.mono ?_
 rintro e w7 ⟨A6,c6,rfl,ho6,hb7⟩
 have ho6:=zh ho6
 have hd7:=(hb6.tr hb7)
 refine hK.out _ _ hd7 ?_
 clear hK K HF
 have hbw7:=(hbw6.tr hb7)
 refine qak ?_
 repeat ((first|refine pT ?_|refine pF ?_);try go_frame)
 have H5:=zh ((ho5.out.bound qdm).ext hb7)
 have H6:=zh ho6.out
 have hd57:Below w5.heap.size w5 w7:=(zb _ _).drew.trans hd7
 have H7:=zh (H7.out.ext hd57)
 have H8:=zh (H8.out.ext hd57)
 have hW:w.heap.size<=W.heap.size:=hb1.size
 have h3:w5.heap.size<=w6.heap.size:=hb6.size
 have h4:w6.heap.size<=w7.heap.size:=hb7.size
 have l5:∀ b,A5=some ⟨b,0,none⟩->w5.heap.size<=b/\b<w6.heap.size:=fun b h=>ho5.out.lt h
 have l6:∀ b,A6=some ⟨b,0,none⟩->w6.heap.size<=b:=fun b h=>(ho6.out.lt h).1
 have B26:=B25.ext hd57
 have hsz:(Tryz.prog.info? 31).map (·.size)=some 4:=by kernel_rfl
 obtain ⟨cz,hcz⟩:∃ z,z=([.slice A5 x.1.length c5,.slice A6 x.2.1.length c6,.slice A7 x.2.2.1.length c7,.slice A8 x.2.2.2.length c8]:List Value):=⟨_,rfl⟩
 have hczl:cz.length=4:=by rw [hcz];rfl
 have hone:∀ u∈cz,u.oneCell'=true:=by rw [hcz];exact qig _ _ _ _ rfl rfl rfl rfl
 have hth:=Blk.there (o:=0) (n:=4) B26 (by simp)
 refine qaj rfl (qae rfl) (fun K hK=>?_)
 refine qao 31 (.tmp 2) (.tmp 20) rfl rfl g2 0 cz rfl (by rw [hcz];rfl) (by rw [hczl];exact hth) (by rw [hczl];exact hsz) hone ?_
 refine hK.out _ _ trivial (qad ?_)
 clear hK K
 obtain ⟨B8,hg8⟩:=Blk.lay cz 0 B26 (by rw [hczl];simp)
 rw [qai _ _ (by rw [hczl];rfl)] at B8
 have hbw8:=hbw7.grown hg8 (Nat.le_of_lt (Nat.lt_of_lt_of_le hg2n (Nat.le_of_lt B26.lt))) (fun k hk=>by injection hk with hk;omega)
 have hk8:=Keep.grown (F:=fun b=>W.heap.size<=b) hg8 (fun g hg h=>by injection hg with hg;omega)
 have R:OwnDBw x w.heap.size (w7.setCells g2 0 cz) A5 c5 A6 c6 A7 c7 A8 c8:=by
  refine ⟨?_,?_,?_,?_,fun b h h'=>by have:=l5 b h;have:=l6 b h';omega⟩
  ·exact ((H5.out.keep hk8 (fun b h=>Nat.le_trans hs5 (H5.out.lt h).1) (fun b h=>Nat.le_trans hs5 h.1.1)).base (Nat.le_trans hW hs5)).mono (fun b h=>⟨Nat.le_trans hW (Nat.le_trans hs5 h.1.1),h.1.2,fun e=>by have:=l6 b e;omega⟩)
  ·exact ((H6.out.keep hk8 (fun b h=>Nat.le_trans hs5 (Nat.le_trans h3 (H6.out.lt h).1)) (fun b h=>Nat.le_trans hs5 (Nat.le_trans h3 h.1))).base (Nat.le_trans hW (Nat.le_trans hs5 h3))).mono (fun b h=>⟨by have:=h.1;omega,fun e=>by have:=l5 b e;have:=h.1;omega,h.2⟩)
  ·exact ((H7.out.keep (hk8.mono (fun b h=>h.1))).base hW).mono (fun b h=>⟨by omega,fun e=>by have:=l5 b e;omega,fun e=>by have:=l6 b e;omega⟩)
  ·exact ((H8.out.keep (hk8.mono (fun b h=>h.1))).base hW).mono (fun b h=>⟨by omega,fun e=>by have:=l5 b e;omega,fun e=>by have:=l6 b e;omega⟩)
 have HR:=zh R
 clear R H5 H6 H7 H8 hg8 hk8 l5 l6 hth B26
 generalize w7.setCells g2 0 cz=w8 at *
 go_wp2
 refine bodyPost_ret (v:=.agg cz.toArray) (results_cell_row rfl _ _ g2 _ _ (0,0) _ rfl B8 Tryz.underlying31 rfl (by rw [List.size_toArray,hczl];exact hsz)) rfl ⟨A5,c5,A6,c6,A7,c7,A8,c8,by rw [hcz],HR.out,hbw8⟩
theorem sdb_ {s lg d:Nat} {L:LedD} (h:Sto w s lg d gs gn np rs x L) (hok:okDB x):
  Calls Tryz.prog 15 #[.pointer (some ⟨s,0,none⟩)] w (qfn eDB x w):=by
 obtain ⟨g,cs,BS,BG,hst,hoff⟩:=h.st
 obtain ⟨A,n,c,A2,n2,c2,A3,n3,c3,A4,n4,c4,B,m,k,B2,m2,k2,B3,m3,k3,rfl,hd,hl⟩:=qdd hst
 have HD:=zh hd
 have HOK:=zh hok
 clear h hst hd hl hok
 go_enter Tryz.func15,Tryz.ntmps15
 go_upto_region 1 with fail
 obtain ⟨W,hW_,hb1,BR⟩:=al1 w 31 #[.slice none 0 0,.slice none 0 0,.slice none 0 0,.slice none 0 0]
 rw [<-hW_]
 clear hW_
 obtain ⟨gr,hgr⟩:∃ g,w.heap.size=g:=⟨_,rfl⟩
 have hgrw:w.heap.size<=gr:=by omega
 rw [hgr] at BR ⊢
 clear hgr
 have BS1:=BS.ext hb1
 have BG1:=BG.ext hb1
 have HP:=zh (qhr BS1 BG1 rfl)
 have HF:=zh (sown_ (eDB.ext HD.out hb1) HOK.out)
 have q0:=BG1.cell 0
 have q1:=BG1.cell 1
 have q2:=BG1.cell 2
 have q3:=BG1.cell 3
 clear BS BG
 go_wp2_with fail
 refine HP.out.mono ?_
 rintro e w' ⟨rfl,rfl⟩
 go_wp2_with fail
 refine HF.out.mono ?_
 rintro e w9 hO
 obtain ⟨cz,rfl,hr9,hb9⟩:=hO.owned
 clear hO q0 q1 q2 q3 HP HF
 have hczl:cz.length=4:=eDB.len hr9
 have hone:=eDB.one hr9
 have hsz9:(Tryz.prog.info? 31).map (·.size)=some cz.length:=by rw [hczl];kernel_rfl
 have BR9:=BR.ext hb9
 have hth:=Blk.there (o:=0) (n:=4) BR9 (by simp)
 have hbz8:=(hb1.tr hb9)
 have hws:w.heap.size<=W.heap.size:=hb1.size
 have hrl:gr<W.heap.size:=BR.lt
 obtain ⟨B9,hg9⟩:=Blk.lay cz 0 BR9 (by rw [hczl];simp)
 rw [qai _ _ (by rw [hczl];rfl)] at B9
 have hbw9:=(hbz8.gw hg9)
 have HR9:=zh (eDB.mono (eDB.keep hr9 (Keep.grown hg9 (fun g hg h=>by injection hg with hg;omega))) (G:=fun b=>w.heap.size<=b) (fun b h=>Nat.le_trans hws h))
 clear hr9 hg9 hbz8 BS1 BG1
 go_wp2_with ((with_reducible refine sS 2 ?_);(refine wpList_store_mid rfl 31 _ _ rfl gr 0 cz.toArray rfl rfl ?zs ?zt (all_oneCell_toArray hone) ?_))
 case zs=>exact (show cz.toArray.size=4 by simp [hczl]) ▸ hth
 case zt=>rw [List.size_toArray];exact hsz9
 clear hth BR9
 generalize w9.setCells gr 0 cz=wz at *
 go_wp2
 exact bodyPost_ret (v:=.agg cz.toArray) (results_cell_row rfl _ _ gr _ _ (0,0) _ rfl B9 Tryz.underlying31 rfl (by rw [List.size_toArray];exact hsz9)) rfl ⟨cz,rfl,HR9.out,hbw9⟩
theorem qee:qeo Tryz.prog 149=some ([.slice none 0 0,.slice none 0 0,.slice none 0 0,.slice none 0 0,.int .i64 0,.slice none 0 0,.slice none 0 0,.slice none 0 0],[(0,4),(4,4)]):=by kernel_rfl
theorem qfa (a b c d e f g h:Value):qco [(0,4),(4,4)] [.slice none 0 0,.slice none 0 0,.slice none 0 0,.slice none 0 0,.int .i64 0,.slice none 0 0,.slice none 0 0,.slice none 0 0] [(0,.agg #[a,b,c,d]),(1,.agg #[e,f,g,h])]=some [a,b,c,d,e,f,g,h]:=rfl
theorem Sto.turn {s lg d:Nat} {y:DBd} {L M:LedD} (h:Sto w s lg d gs gn np rs x L) (hg:Blk w g 149 cs.toArray) (hr:eState.rel w (Off s lg d gs gn) cs (y,M)) (ho:Off s lg d gs gn g):
  Sto (w.setCell ⟨s,1,none⟩ (.pointer (some ⟨g,0,none⟩))) s lg d gs gn np rs y M:=by
 obtain ⟨l,h1,h2⟩:=h.dk
 obtain ⟨g0,cs0,h3,h4,h5,h6⟩:=h.st
 have hgr:=qac w s 1 (.pointer (some ⟨g,0,none⟩))
 have hk:Keep (fun b=>b≠s) w (w.setCell ⟨s,1,none⟩ (.pointer (some ⟨g,0,none⟩))):=Keep.grown hgr (fun k hk h=>by injection hk with hk;exact h hk.symm)
 refine ⟨⟨l,h1.keep hk (Ne.symm h.ne.2.2.2.1) (Ne.symm h.ne.2.2.2.2.1) (Ne.symm h.ne.2.2.2.2.2.1),h2⟩,⟨Blk.keep h.lgb.blk hk (Ne.symm h.ne.2.2.2.2.2.2)⟩,⟨g,cs,h3.set_ 1 _,Blk.keep hg hk ho.1,eState.keep hr (hk.mono (fun b hb=>hb.1)),ho⟩,h.ne⟩
theorem sset_ {s lg d:Nat} {y:DBd} {L:LedD} (h:Sto w s lg d gs gn np rs x L) (hy:eDB.rel w F cs y) (hok:okDB y):
  Calls Tryz.prog 17 #[.pointer (some ⟨s,0,none⟩),.agg cs.toArray] w fun e w'=>e=.returned (.tuple #[])/\Sto w' s lg d gs gn np rs y L/\Frm (fun b=>b=s) w w':=by
 have HH:=zh h
 have HY:=zh hy
 obtain ⟨g,cg,BS,BG,hst,hoff⟩:=h.st
 obtain ⟨E,n,c,E2,n2,c2,E3,n3,c3,E4,n4,c4,B,m,k,B2,m2,k2,B3,m3,k3,rfl,hd,hl⟩:=qdd hst
 obtain ⟨A,i1,j1,A2,i2,j2,A3,i3,j3,A4,i4,j4,rfl,_,_,_,_⟩:=qav hy
 have HL:=zh hl
 have HOK:=zh hok
 clear h hst hd hl hok hy
 go_enter Tryz.func17,Tryz.ntmps17
 go_upto_region 1 with fail
 obtain ⟨W,hW_,hb1,BD⟩:=al1 w 31 #[.slice A i1 j1,.slice A2 i2 j2,.slice A3 i3 j3,.slice A4 i4 j4]
 rw [<-hW_]
 clear hW_
 have BS1:=BS.ext hb1
 have BG1:=BG.ext hb1
 have HH1:=zh (HH.out.ext hb1)
 have D:=fun w' (h:Below W.heap.size W.drew w')=>za ((BD.ext ((zb _ _).drew.trans h)).cell 0) (za ((BD.ext ((zb _ _).drew.trans h)).cell 1) (za ((BD.ext ((zb _ _).drew.trans h)).cell 2) (za ((BD.ext ((zb _ _).drew.trans h)).cell 3) (za ((BG1.ext ((zb _ _).drew.trans h)).cell 4) (za ((BG1.ext ((zb _ _).drew.trans h)).cell 5) (za ((BG1.ext ((zb _ _).drew.trans h)).cell 6) ((BG1.ext ((zb _ _).drew.trans h)).cell 7)))))))
 have hd0:=(zb W.heap.size W).drew
 refine r3 (S:=fun w'=>Below W.heap.size W.drew w') [(0,true),(1,true),(2,true),(3,true),(5,true),(6,true),(7,true),(4,false),(8,false),(9,true),(10,true),(11,true),(12,true),(13,false)] [(14,false)] (zb _ _) ?_
 repeat ((first|refine pT ?_|refine pF ?_);try go_frame)
 have HF:=zh (sown_ (eDB.ext HY.out (hb1.drew)) HOK.out)
 refine pD fun K hK=>?_;go_simp
 refine HF.out.mono ?_
 rintro e w2 hO
 obtain ⟨cz,rfl,hr2,hb2⟩:=hO.owned
 obtain ⟨A5,m5,c5,A6,m6,c6,A7,m7,c7,A8,m8,c8,rfl,_,_,_,_⟩:=qav hr2
 have HR2:=zh hr2
 refine hK.out _ _ hb2 ?_
 clear hK K HF hO hr2
 have HP:=zh (qhr (BS1.ext (hd0.trans hb2)) (BG1.ext (hd0.trans hb2)) rfl)
 refine pD fun K hK=>?_;go_simp
 refine HP.out.mono ?_
 rintro e w' ⟨rfl,rfl⟩
 refine hK.out _ _ hb2 ?_
 clear hK K HP
 iterate 3 (((first|refine pT ?_|refine pF ?_);try go_frame))
 refine qas rfl rfl (qae rfl) (fun w' hS=>qce (ps:=[(0,.agg #[.slice A5 m5 c5,.slice A6 m6 c6,.slice A7 m7 c7,.slice A8 m8 c8]),(1,.agg #[.int .i64 L.1,.slice B m k,.slice B2 m2 k2,.slice B3 m3 k3])]) 149 _ rfl qee rfl (qfa _ _ _ _ _ _ _ _)) ?_
 go_frame
 clear D
 refine pD fun K hK=>?_;go_simp
 obtain ⟨w3,hw3⟩:∃ w',w'=w2.alloc (.cells #[.slice A5 m5 c5,.slice A6 m6 c6,.slice A7 m7 c7,.slice A8 m8 c8,.int .i64 L.1,.slice B m k,.slice B2 m2 k2,.slice B3 m3 k3] 149):=⟨_,rfl⟩
 have hb3:Below w2.heap.size w2 w3:=by rw [hw3];exact (zb _ _).alloc (zl _) _
 have BN:Blk w3 w2.heap.size 149 #[.slice A5 m5 c5,.slice A6 m6 c6,.slice A7 m7 c7,.slice A8 m8 c8,.int .i64 L.1,.slice B m k,.slice B2 m2 k2,.slice B3 m3 k3]:=by rw [hw3];exact Blk.new _ _ _
 rw [<-hw3]
 obtain ⟨gn',hgn⟩:∃ g,w2.heap.size=g:=⟨_,rfl⟩
 have hd3:=(hb2.tr hb3)
 have hb13:=hd0.trans hd3
 have hbw3:=(hb1.tr hb13)
 have hlo:∀ k,On s lg d gs gn k->k<w.heap.size:=fun k hk=>HH.out.lt hk
 have hWw:w.heap.size<=W.drew.heap.size:=hb1.drew.size
 have h2w:w.heap.size<=w2.heap.size:=Nat.le_trans hWw hb2.size
 have hSt:=(HH1.out.ext hb13).turn (g:=w2.heap.size) (y:=y) (M:=L) (cs:=[.slice A5 m5 c5,.slice A6 m6 c6,.slice A7 m7 c7,.slice A8 m8 c8,.int .i64 L.1,.slice B m k,.slice B2 m2 k2,.slice B3 m3 k3]) BN (qel (eDB.mono (eDB.ext HR2.out hb3) (fun b hb=>Off.of_lo hlo (Nat.le_trans hWw hb))) (eLed.ext HL.out hbw3)) (Off.of_lo hlo h2w)
 have hPS:=zh (qmy (cs:=#[]) (BS1.ext hb13) (BN.cell 0))
 rw [hgn] at hPS hSt BN ⊢
 refine hK.out _ _ hd3 ?_
 clear hK K hw3 hgn
 refine qak ?_
 refine pD fun K hK=>?_;go_simp
 refine hPS.out.mono ?_
 rintro e w4 ⟨rfl,rfl⟩
 refine hK.out _ _ trivial (qad ?_)
 clear hK K hPS BN
 have HE:=zh (za hSt ((Frm.below (G:=fun b=>b=s) hbw3).trans (Frm.grown (qac w3 s 1 (.pointer (some ⟨gn',0,none⟩))) (fun g hg=>by injection hg with hg;exact hg.symm))))
 clear hSt hb3 hd3 hb13 hbw3 hlo hWw h2w BS1 BG1 BD HH1 hb1 hb2 hd0
 go_wp2
 go_end0
 exact ⟨rfl,HE.out⟩
theorem bnd_state:Bnd eState:=qbc (qbc (qbk qdm) (qbc (qbk qhz) (qbc (qbk flat_hld.bnd) (qbk flat_hld.bnd)))) bnd_led
theorem sclo_ {s ge gp:Nat} {l u z:Value} (he:w.cell? ⟨ge,0,none⟩=some (.int .i64 0)) (hp:w.cell? ⟨gp,0,none⟩=some (.pointer (some ⟨s,0,none⟩))) (BS:Blk w s 157 #[l,u]) (hg:w.cell? ⟨g,0,none⟩=some z) (um:FrameMode):
  CallsD Tryz.prog 96 #[.pointer (some ⟨ge,0,none⟩),.pointer (some ⟨gp,0,none⟩),.pointer (some ⟨g,0,none⟩)] um w fun e u' w'=>u'=um/\(e=.returned (.tuple #[])/\w'=w.setCell ⟨s,1,none⟩ (.pointer (some ⟨g,0,none⟩))):=by
 have HP:=zh (qmy (cs:=#[]) BS hg)
 clear BS hg
 go_enter_d Tryz.func96,Tryz.ntmps96
 go_wp2_with fail
 refine HP.out.mono ?_
 rintro e w' ⟨rfl,rfl⟩
 go_wp2
 go_end0
 exact ⟨rfl,rfl⟩
theorem qie {s lg d:Nat} {y:DBd} {L M:LedD} (h:Sto w s lg d gs gn np rs x L) (hr:eState.rel w (Off s lg d gs gn) cs (y,M)) (hx:By w A m c r)
  (hm1:1<=m) (hm2:m<=65536) (hfit:64+(recs rs).length+(8+m)<=np * 64) (hct:rs.length<=900000) :
  Calls Tryz.prog 38 #[.pointer (some ⟨s,0,none⟩),.slice A m c,.agg cs.toArray] w fun e w'=>e=.returned (.int .i64 0)/\Sto w' s lg d gs gn np (rs++[r]) y M/\Frm (On s lg d gs gn) w w'/\∃ g,Blk w' s 157 #[.pointer (some ⟨lg,0,none⟩),.pointer (some ⟨g,0,none⟩)]/\Blk w' g 149 cs.toArray/\w.heap.size<=g:=by
 have HH:=zh h
 have HR:=zh hr
 have HX:=zh hx
 obtain ⟨g0,cg,BS,BG,_,_⟩:=h.st
 obtain ⟨E,n,c1,E2,n2,c2,E3,n3,c3,E4,n4,c4,B,m5,k,B2,m6,k2,B3,m7,k3,rfl,hd,hl⟩:=qdd hr
 have hlo:∀ k,On s lg d gs gn k->k<w.heap.size:=fun k hk=>h.lt hk
 have HLO:=zh hlo
 clear h hr hd hl hx BG hlo
 go_enter_defers Tryz.func38,Tryz.ntmps38
 go_upto_region 2 with fail
 obtain ⟨W,hW_,hb1,BP,BN,BE⟩:=al3 w 58 149 41 #[.pointer (some ⟨s,0,none⟩)] #[.slice E n c1,.slice E2 n2 c2,.slice E3 n3 c3,.slice E4 n4 c4,.int .i64 M.1,.slice B m5 k,.slice B2 m6 k2,.slice B3 m7 k3] #[.int .i64 0]
 rw [<-hW_]
 clear hW_
 obtain ⟨gp,hgp⟩:∃ g,w.heap.size=g:=⟨_,rfl⟩
 obtain ⟨g,hg⟩:∃ g,w.heap.size+1=g:=⟨_,rfl⟩
 obtain ⟨ge,hge⟩:∃ g,w.heap.size+1+1=g:=⟨_,rfl⟩
 have hpw:w.heap.size<=gp:=by omega
 have hgw:w.heap.size<=g:=by omega
 have hew:w.heap.size<=ge:=by omega
 have hne:gp≠ge/\g≠ge:=⟨by omega,by omega⟩
 rw [hge] at BE ⊢
 rw [hg] at BN ⊢
 rw [hgp] at BP ⊢
 clear hge hg hgp
 have BS1:=BS.ext hb1
 have HH1:=zh (HH.out.ext hb1)
 obtain ⟨l,hdk,hlog⟩:=HH1.out.dk
 have HNE:=zh HH1.out.ne
 have HA:=zh (append_ hdk HH1.out.lgb ⟨HNE.out.1,HNE.out.2.1,HNE.out.2.2.1⟩ hlog (HX.out.ext hb1) hm1 hm2 hfit hct)
 have q0:=BP.cell 0
 have q1:=BS1.cell 0
 clear hdk hlog BS
 go_wp2_with fail
 refine HA.out.mono ?_
 rintro e w2 ⟨l',rfl,hdk2,hlog2,hlg2,hfr2⟩
 have hG:∀ b,(b=d\/b=gs\/b=gn\/b=lg)->On s lg d gs gn b:=fun b h=>by
  rcases h with h|h|h|h
  ·exact .inl h
  ·exact .inr (.inl h)
  ·exact .inr (.inr (.inl h))
  ·exact .inr (.inr (.inr (.inl h)))
 have hlow:∀ b,w.heap.size<=b->¬(b=d\/b=gs\/b=gn\/b=lg):=fun b hb h=>by have:=HLO.out b (hG b h);omega
 have hsw:s<w.heap.size:=HLO.out s (.inr (.inr (.inr (.inr rfl))))
 have hs4:¬(s=d\/s=gs\/s=gn\/s=lg):=by
  have h:=HNE.out
  rintro (e|e|e|e)
  ·exact h.2.2.2.1 e
  ·exact h.2.2.2.2.1 e
  ·exact h.2.2.2.2.2.1 e
  ·exact h.2.2.2.2.2.2 e
 have BP2:=hfr2.blk BP (hlow _ hpw)
 have BN2:=hfr2.blk BN (hlow _ hgw)
 have BE2:=hfr2.blk BE (hlow _ hew)
 have BS2:=hfr2.blk BS1 hs4
 have hk2:Keep (fun b=>Off s lg d gs gn b/\b<w.heap.size) w w2:=(Keep.below hb1).trans (hfr2.keep (fun b h _ hg=>h.1.not_on (hG b hg)))
 have hfr:=(Frm.below (G:=On s lg d gs gn) hb1).trans (hfr2.mono hG)
 have hgo:Off s lg d gs gn g:=Off.of_lo HLO.out hgw
 have hg3:=qac w2 ge 0 (.int .i64 0)
 have hdl:=hdk2.lt
 have hD:d<w.heap.size/\gs<w.heap.size/\gn<w.heap.size/\lg<w.heap.size:=⟨HLO.out d (.inl rfl),HLO.out gs (.inr (.inl rfl)),HLO.out gn (.inr (.inr (.inl rfl))),HLO.out lg (.inr (.inr (.inr (.inl rfl))))⟩
 have hk3:Keep (fun b=>b<w.heap.size) w2 (w2.setCell ⟨ge,0,none⟩ (.int .i64 0)):=Keep.grown hg3 (fun k hk h=>by injection hk with hk;omega)
 have hdk3:=hdk2.keep hk3 hD.1 hD.2.1 hD.2.2.1
 have hlg3:=Blk.keep hlg2.blk hk3 hD.2.2.2
 have BS3:=Blk.keep BS2 hk3 hsw
 have BP3:=BP2.grown hg3 (by intro e;injection e with e;exact hne.1 e)
 have BN3:=BN2.grown hg3 (by intro e;injection e with e;exact hne.2 e)
 have BE3:Blk (w2.setCell ⟨ge,0,none⟩ (.int .i64 0)) ge 41 #[.int .i64 0]:=BE2.set_ 0 _
 have hR3:=eState.keep (eState.keep (bnd_state HR.out) hk2) (hk3.mono (fun b h=>h.2))
 have hfr3:Frm (fun b=>On s lg d gs gn b\/w.heap.size<=b) w (w2.setCell ⟨ge,0,none⟩ (.int .i64 0)):=(hfr.mono (fun b h=>.inl h)).trans (Frm.grown hg3 (fun k hk=>by injection hk with hk;exact .inr (by omega)))
 have q2:=BE2.cell 0
 have f2:=BE2.frozen 0
 have HE:=zh (za hR3 (za hdk3 (za hlog2 (za hlg3 hfr3))))
 clear BP2 BN2 BE2 BS2 hk2 hfr hg3 hdl hD hk3 hR3 hdk3 hlg3 hfr3 hdk2 hlg2 hfr2 hlog2 BP BN BE BS1 hG hlow hs4 q0 q1 HA HH1
 go_wp2
 refine leaves_cons (f:=96) (args:=#[.pointer (some ⟨ge,0,none⟩),.pointer (some ⟨gp,0,none⟩),.pointer (some ⟨g,0,none⟩)]) (by simp) (by simp [go_sem]) ?_
 refine (sclo_ (BE3.cell 0) (BP3.cell 0) BS3 (BN3.cell 0) .returning).mono ?_
 rintro e u' w4 ⟨rfl,rfl,rfl⟩
 have BS4:=BS3.set_ 1 (.pointer (some ⟨g,0,none⟩))
 have hg4:=qac (w2.setCell ⟨ge,0,none⟩ (.int .i64 0)) s 1 (.pointer (some ⟨g,0,none⟩))
 have BE4:=BE3.grown hg4 (by intro e;injection e with e;omega)
 have BN4:=BN3.grown hg4 (by intro e;injection e with e;omega)
 have hk4:Keep (fun b=>b≠s) (w2.setCell ⟨ge,0,none⟩ (.int .i64 0)) _:=Keep.grown hg4 (fun k hk h=>by injection hk with hk;exact h hk.symm)
 have hNE:=HNE.out
 have hSt:Sto _ s lg d gs gn np (rs++[r]) y M:=⟨⟨l',HE.out.2.1.keep hk4 (Ne.symm hNE.2.2.2.1) (Ne.symm hNE.2.2.2.2.1) (Ne.symm hNE.2.2.2.2.2.1),HE.out.2.2.1⟩,⟨Blk.keep HE.out.2.2.2.1 hk4 (Ne.symm hNE.2.2.2.2.2.2)⟩,⟨g,_,BS4,BN4,eState.keep (eState.mono HE.out.1 (fun b h=>h.1)) (hk4.mono (fun b h=>h.1)),hgo⟩,hNE⟩
 have hfr4:=(HE.out.2.2.2.2.trans (Frm.grown (G:=fun b=>On s lg d gs gn b\/w.heap.size<=b) hg4 (fun k hk=>by injection hk with hk;exact .inl (.inr (.inr (.inr (.inr hk.symm))))))).mono' (H:=On s lg d gs gn) (fun k hk h=>h.elim id (fun h=>by omega))
 generalize (w2.setCell ⟨ge,0,none⟩ (.int .i64 0)).setCell ⟨s,1,none⟩ (.pointer (some ⟨g,0,none⟩))=w4 at *
 have qe:=BE4.cell 0
 have HF:=zh (za hSt (za hfr4 (show ∃ g,Blk w4 s 157 #[.pointer (some ⟨lg,0,none⟩),.pointer (some ⟨g,0,none⟩)]/\Blk w4 g 149 _/\w.heap.size<=g from ⟨g,BS4,BN4,hgw⟩)))
 clear hSt hfr4 hk4 hg4 BS4 BN4 HE BE3 BP3 BS3 BN3
 simp [Leaves,settle,results,Tryz.results38,go_sem,qe]
 exact HF.out
def tabB (x:Sch):List UInt8:=[b8 1]++txtB (schB x)
def blkB (n:Nat) (H:List UInt8):List UInt8:=[b8 4]++le 8 n++H
theorem text_s (L t:List UInt8):L++le 2 (⟨t.toArray⟩:ByteArray).size++(⟨t.toArray⟩:ByteArray).data.toList=L++txtB t:=by
 have h5:(⟨t.toArray⟩:ByteArray).size=t.length:=by show t.toArray.size=_;rw [List.size_toArray]
 rw [h5]
 simp [txtB]
theorem tabrec_ {x:Sch} (h:eSch.rel w F cs x) (hok:OkS x):Calls Tryz.prog 39 #[.agg cs.toArray] w (OwnB (tabB x) w):=by
 have HS:=zh h
 have HOK:=zh hok
 have hlen:=zh (qlc x hok)
 obtain ⟨A,n,c,rfl,hc⟩:=qli h
 clear h hc hok
 go_enter Tryz.func39,Tryz.ntmps39
 go_upto_region 1 with fail
 obtain ⟨W,hW_,hb1,B1⟩:=al1 w 66 #[.string x.1,.slice A n c,.int .i64 x.2.2.1,.bool x.2.2.2]
 rw [<-hW_]
 clear hW_
 have D:=fun w' (h:Below W.heap.size W.drew w')=>za ((B1.ext ((zb _ _).drew.trans h)).cell 0) (za ((B1.ext ((zb _ _).drew.trans h)).cell 1) (za ((B1.ext ((zb _ _).drew.trans h)).cell 2) ((B1.ext ((zb _ _).drew.trans h)).cell 3)))
 refine r2 (S:=fun w'=>Below W.heap.size W.drew w') [(1,true),(0,false),(2,false),(3,false),(4,false),(5,true)] (zb _ _) ?_
 repeat ((first|refine pT ?_|refine pF ?_);try go_frame)
 clear D
 have HT:Calls Tryz.prog 99 #[.slice none 0 0,.int .i64 1] W.drew (OwnB [b8 1] W.drew):=qdr [] 1 none 0 0 W.drew (By.nil _) (by omega) (by omega)
 have HT:=zh HT
 refine pD fun K hK=>?_;go_simp
 refine HT.out.mono ?_
 rintro e w2 ⟨A2,c2,rfl,ho2,hb2⟩
 have HO2:=zh (show Ob w2 W.drew.heap.size A2 c2 [b8 1] from ho2)
 rw [show [b8 1].length=1 from rfl]
 refine hK.out _ _ hb2 ?_
 clear hK K HT ho2
 have HB:=zh (schbytes_ (eSch.ext HS.out (hb1.drew.trans (zm hb2 hb1.size))) HOK.out)
 refine pD fun K hK=>?_;go_simp
 refine HB.out.mono ?_
 rintro e w3 ⟨A3,c3,rfl,ho3,hb3⟩
 have hd3:=(hb2.tr hb3)
 obtain ⟨sb,hsb⟩:∃ l,schB x=l:=⟨_,rfl⟩
 have HSB:=zh hsb
 have hsl:=hlen.out
 rw [hsb] at ho3 hsl ⊢
 obtain ⟨m3,hm3⟩:∃ m,sb.length=m:=⟨_,rfl⟩
 have HM3:=zh hm3
 rw [hm3] at hsl
 have HO3:=zh (show Ob w3 w2.heap.size A3 c3 sb from ho3)
 rw [hm3]
 refine hK.out _ _ hd3 ?_
 clear hK K HB ho3 hsb hm3
 have HCV:=qgl (HO3.out.byN HM3.out)
 refine pD fun K hK=>?_;go_simp
 refine hK.out _ _ hd3 ?_
 clear hK K HCV
 have HT:=zh (qgr [b8 1] ⟨sb.toArray⟩ A2 1 c2 w3 ((HO2.out.ext hb3).byN rfl) (by omega) (by show sb.toArray.size<=65535;rw [List.size_toArray];have:=HM3.out;omega))
 refine pD fun K hK=>?_;go_simp
 refine HT.out.mono ?_
 rintro e w4 ⟨A4,c4,rfl,ho4,hb4⟩
 have hd4:=(hd3.tr hb4)
 rw [text_s,<-HSB.out] at ho4 ⊢
 rw [show [b8 1]++txtB (schB x)=tabB x from rfl] at ho4 ⊢
 obtain ⟨LT,hLT⟩:∃ L,tabB x=L:=⟨_,rfl⟩
 have HLT:=zh hLT
 rw [hLT] at ho4 ⊢
 have HO4:=zh (show Ob w4 w3.heap.size A4 c4 LT from ho4)
 obtain ⟨m4,hm4⟩:∃ m,LT.length=m:=⟨_,rfl⟩
 have HM4:=zh hm4
 rw [hm4]
 refine hK.out _ _ hd4 ?_
 clear hK K HT ho4 hLT hm4
 repeat ((first|refine pT ?_|refine pF ?_);try go_frame)
 refine qad ?_
 have hbw4:=hb1.drew.trans (zm hd4 hb1.size)
 have h34:w.heap.size<=w3.heap.size:=(hb1.drew.trans (zm hd3 hb1.size)).size
 clear hb2 hb3 hb4 hd3 hd4 hb1 B1
 go_wp2
 go_ret
 exact ⟨A4,c4,by rw [HLT.out,HM4.out];rfl,by rw [HLT.out];exact HO4.out.base h34,hbw4⟩
theorem blkrec_ {H:List UInt8} (hH:H.length=32) (hn:n<9223372036854775808):Calls Tryz.prog 50 #[.agg (digC (n:Int) H).toArray] w (OwnB (blkB n H) w):=by
 have HL:=zh hH
 have hdl:=qbg n H hH
 have hd0:(digC (n:Int) H)[0]? = some (.int .i64 (n:Int)):=rfl
 obtain ⟨dc,hdc⟩:∃ d,d=digC (n:Int) H:=⟨_,rfl⟩
 have HDC:=zh hdc
 rw [<-hdc] at hdl hd0 ⊢
 clear hdc hH
 go_enter Tryz.func50,Tryz.ntmps50
 go_upto_region 1 with fail
 obtain ⟨W,hW_,hb1,B1⟩:=al1 w 78 (dc.toArray)
 rw [<-hW_]
 clear hW_
 obtain ⟨gd,hgd⟩:∃ g,w.heap.size=g:=⟨_,rfl⟩
 rw [hgd] at B1 ⊢
 have hgw:=hgd
 clear hgd
 have hws:w.heap.size<=W.heap.size:=hb1.size
 have D:=fun w' (h:Below W.heap.size W.drew w')=>show w'.cell? ⟨gd,0,none⟩=some (.int .i64 (n:Int)) from ((B1.ext ((zb _ _).drew.trans h)).cell 0).trans (by simpa using hd0)
 have HB1:=zh B1
 refine r2 (S:=fun w'=>Below W.heap.size W.drew w') [(1,true),(2,true),(4,true),(5,true),(0,false),(3,false),(6,false),(7,true)] (zb _ _) ?_
 repeat ((first|refine pT ?_|refine pF ?_);try go_frame)
 clear D B1
 have HT:Calls Tryz.prog 99 #[.slice none 0 0,.int .i64 4] W.drew (OwnB [b8 4] W.drew):=qdr [] 4 none 0 0 W.drew (By.nil _) (by omega) (by omega)
 have HT:=zh HT
 refine pD fun K hK=>?_;go_simp
 refine HT.out.mono ?_
 rintro e w2 ⟨A2,c2,rfl,ho2,hb2⟩
 have HO2:=zh (show Ob w2 W.drew.heap.size A2 c2 [b8 4] from ho2)
 rw [show [b8 4].length=1 from rfl]
 refine hK.out _ _ hb2 ?_
 clear hK K HT ho2
 have HI:=zh (int_ [b8 4] n A2 1 c2 w2 (HO2.out.byN rfl) (by omega) hn)
 refine pD fun K hK=>?_;go_simp
 refine HI.out.mono ?_
 rintro e w3 ⟨A3,c3,rfl,ho3,hb3⟩
 have hd3:=(hb2.tr hb3)
 obtain ⟨L3,hL3⟩:∃ L,[b8 4]++le 8 n=L:=⟨_,rfl⟩
 have hl3:L3.length=9:=by rw [<-hL3];simp [le]
 have HL3:=zh hL3
 rw [hL3] at ho3 ⊢
 have HO3:=zh (show Ob w3 w2.heap.size A3 c3 L3 from ho3)
 rw [hl3]
 refine hK.out _ _ hd3 ?_
 clear hK K HI ho3 hL3
 have B3:=HB1.out.ext ((zb W.heap.size W).drew.trans hd3)
 have hdr:(dc.drop 1).take 32=qaa H:=by rw [HDC.out];show (qaa H).take 32=qaa H;exact List.take_of_length_le (by rw [lenB,HL.out];omega)
 refine qaj rfl (qae rfl) (fun K hK=>?_)
 refine qke 9 (.tmp 6) (.tmp 8) rfl rfl rfl hl3 HO3.out rfl HL.out (Blk.range B3 (by rw [lenB,HL.out];exact hdr)) (by omega) hb3.size ?_
 intro A4 c4 w4 ho4 hb4
 have hd4:=hd3.trans (zm hb4 hb2.size)
 have ho4:Ob w4 w2.heap.size A4 c4 (blkB n H):=by rw [<-HL3.out] at ho4;exact ho4
 have hl4:9+32=(blkB n H).length:=by simp [blkB,le,HL.out]
 have HO4:=zh ho4
 rw [hl4]
 refine hK.out _ _ hd4 ?_
 clear hK K ho4
 repeat ((first|refine pT ?_|refine pF ?_);try go_frame)
 refine qad ?_
 have hbw4:=hb1.drew.trans (zm hd4 hb1.size)
 have h34:w.heap.size<=w2.heap.size:=(hb1.drew.trans (zm hb2 hb1.size)).size
 clear hb2 hb3 hb4 hd3 hd4 hb1 B3
 obtain ⟨m4,hm4⟩:∃ m,(blkB n H).length=m:=⟨_,rfl⟩
 have HM4:=zh hm4
 rw [hm4]
 go_wp2
 go_ret
 exact ⟨A4,c4,by rw [HM4.out];rfl,HO4.out.base h34,hbw4⟩
def chgB (id:Nat) (x:Chg):List UInt8:=[b8 3]++le 8 id++[b8 1]++[b8 x.2.1.toNat]++txtB x.1.data.toList++txtB (rowB x.2.2)
def txB (id:Nat) (x:Chg):List UInt8:=chgB id x++rowH id 0 x++rowH id 0 x++[b8 0]
theorem chgB_len (id:Nat) (x:Chg) (h:OkC x):(chgB id x).length<=66000:=by
 have h1:=qif x.2.2 h.row_ h.few
 have h2:=h.nm
 have h4:x.1.data.size=x.1.size:=rfl
 simp [chgB,txtB,le,h4]
 omega
theorem txrec_ {d:Nat} {x:Chg} {nx u v:Value} {B:Option Addr} (h:eTx.rel w F cs ((id:Int),[x])) (hok:OkC x) (hid:id<9223372036854775808) (hm:0<m):
  Calls Tryz.prog 46 #[.agg cs.toArray,.agg #[nx,.slice B m d,u,v]] w (OwnB (txB id x) w):=by
 have HX:=zh h
 have HOK:=zh hok
 obtain ⟨A,n,c,rfl,hs⟩:=qfd h
 have hn1:n=1:=hs.len.symm
 subst hn1
 obtain ⟨b,off,rfl,_,_,hbl⟩:=hs.some_ (by omega)
 obtain ⟨cs0,hcs0,hcell0⟩:=hs.at_ (show [x][0]? = some x from rfl)
 obtain ⟨nm,op,row⟩:=x
 obtain ⟨A3,n3,c3,rfl,hr3⟩:=qdh hcs0
 simp only [show eChg.k=3 from rfl,Nat.zero_mul,Nat.add_zero] at hcell0
 have p0:=hcell0 0 _ rfl
 have p1:=hcell0 1 _ rfl
 have p2:=hcell0 2 _ rfl
 simp only [Nat.add_zero] at p0
 have HP:=zh (za p0 (za p1 p2))
 have HC0:=zh hcs0
 have HR:=zh hr3
 have ho0:=hok.op0
 have ho1:=hok.op1
 have hnm:=hok.nm
 simp only at ho0 ho1 hnm hr3
 have hnb:n3<=1000:=by have h1:=hr3.len;have h2:=hok.few;simp only at h2;omega
 obtain ⟨oN,rfl⟩:∃ q:Nat,op=(q:Int):=⟨op.toNat,by omega⟩
 have HRL:=zh (qif row hok.row_ hok.few)
 have HCL:=zh (chgB_len id (nm,(oN:Int),row) hok)
 have hz:=qcn
 have hmm:(0:Int)<(m:Int):=by omega
 clear h hs hok hcs0 hcell0 hr3 p0 p1 p2
 go_enter Tryz.func46,Tryz.ntmps46
 go_upto_region 1 with fail
 obtain ⟨W,hW_,hb1,BT,BL⟩:=al2 w 168 147 #[.int .i64 (id:Int),.slice (some ⟨b,off,none⟩) 1 c] #[nx,.slice B m d,u,v]
 rw [<-hW_]
 clear hW_
 obtain ⟨gt,hgt⟩:∃ g,w.heap.size=g:=⟨_,rfl⟩
 obtain ⟨gl,hgl⟩:∃ g,w.heap.size+1=g:=⟨_,rfl⟩
 rw [hgl] at BL ⊢
 rw [hgt] at BT ⊢
 clear hgt hgl
 have hbW:=Nat.lt_of_lt_of_le hbl hb1.size
 have D:=fun w' (h:Below W.heap.size W.drew w')=>two_ BT (zt (zb _ _).drew h)
 refine r2 (S:=fun w'=>Below W.heap.size W.drew w') [(1,true),(2,true),(4,true),(5,true),(6,true),(0,false),(3,false),(7,false),(8,true)] (zb _ _) ?_
 repeat ((first|refine pT ?_|refine pF ?_);try go_frame)
 clear D
 have HT:Calls Tryz.prog 99 #[.slice none 0 0,.int .i64 3] W.drew (OwnB [b8 3] W.drew):=qdr [] 3 none 0 0 W.drew (By.nil _) (by omega) (by omega)
 have HT:=zh HT
 refine pD fun K hK=>?_;go_simp
 refine HT.out.mono ?_
 rintro e w2 ⟨A2,c2,rfl,ho2,hb2⟩
 have HO2:=zh (show Ob w2 W.drew.heap.size A2 c2 [b8 3] from ho2)
 rw [show [b8 3].length=1 from rfl]
 refine hK.out _ _ hb2 ?_
 clear hK K HT ho2
 have HI:=zh (int_ [b8 3] id A2 1 c2 w2 (HO2.out.byN rfl) (by omega) hid)
 refine pD fun K hK=>?_;go_simp
 refine HI.out.mono ?_
 rintro e w3 ⟨A5,c5,rfl,ho3,hb3⟩
 have hd3:=(hb2.tr hb3)
 obtain ⟨L3,hL3⟩:∃ L,[b8 3]++le 8 id=L:=⟨_,rfl⟩
 have hl3:L3.length=9:=by rw [<-hL3];simp [le]
 have HL3:=zh (za hL3 hl3)
 rw [hL3] at ho3 ⊢
 have HO3:=zh (show Ob w3 w2.heap.size A5 c5 L3 from ho3)
 rw [hl3]
 refine hK.out _ _ hd3 ?_
 clear hK K HI ho3 hL3 hl3
 have HT:Calls Tryz.prog 99 #[.slice A5 9 c5,.int .i64 1] w3 (OwnB (L3++[b8 1]) w3):=qdr L3 1 A5 9 c5 w3 (HO3.out.byN HL3.out.2) (by omega) (by omega)
 have HT:=zh HT
 refine pD fun K hK=>?_;go_simp
 refine HT.out.mono ?_
 rintro e w4 ⟨A6,c6,rfl,ho4,hb4⟩
 have hd4:=(hd3.tr hb4)
 obtain ⟨L4,hL4⟩:∃ L,L3++[b8 1]=L:=⟨_,rfl⟩
 have hl4:L4.length=10:=by rw [<-hL4,List.length_append,HL3.out.2];rfl
 have HL4:=zh (za hL4 hl4)
 rw [hL4] at ho4 ⊢
 have HO4:=zh (show Ob w4 w3.heap.size A6 c6 L4 from ho4)
 rw [hl4]
 refine hK.out _ _ hd4 ?_
 clear hK K HT ho4 hL4 hl4
 repeat ((first|refine pT ?_|refine pF ?_);try go_frame)
 refine qad ?_
 have hbb:=(zb W.heap.size W).drew.trans hd4
 have BT4:=BT.ext hbb
 have BL4:=BL.ext hbb
 have hbw4:=(hb1.tr hbb)
 have hw34:w.heap.size<=w3.heap.size:=(hb1.trans (zm ((zb W.heap.size W).drew.trans hd3) hb1.size)).size
 clear hb2 hb3 hb4 hd3 hd4 hbb hb1 HO2 HO3 BT BL
 have qt:=two_ BT4 (zb _ _)
 go_wp2_with fail
 refine wp_loop_rounds 2 ?_
 rw [rounds_succ]
 have p0:=(hbw4.cell (p:=⟨b,off,none⟩) hbl).trans HP.out.1
 have p1:=(hbw4.cell (p:=⟨b,off+1,none⟩) hbl).trans HP.out.2.1
 have p2:=(hbw4.cell (p:=⟨b,off+2,none⟩) hbl).trans HP.out.2.2
 go_upto_region 5 with fail
 clear p0 p1 p2 qt
 obtain ⟨W5,hW_,hb5,BC⟩:=al1 w4 126 #[.string nm,.int .i64 (oN:Int),.slice A3 n3 c3]
 rw [<-hW_]
 clear hW_
 obtain ⟨gc,hgc⟩:∃ g,w4.heap.size=g:=⟨_,rfl⟩
 rw [hgc] at BC ⊢
 clear hgc
 have BT5:=BT4.ext hb5
 have BL5:=BL4.ext hb5
 have HO5:=zh (HO4.out.ext hb5)
 have hbw5:=(hbw4.tr hb5)
 have HR5:=zh (HR.out.ext hbw5)
 clear hb5 BT4 BL4 HO4 hbw4
 have D:=fun w' (h:Below W5.heap.size W5.drew w')=>BC.three (zt (zb _ _).drew h)
 refine r2 (S:=fun w'=>Below W5.heap.size W5.drew w') [(0,true),(1,true),(2,true),(4,true),(5,true),(7,true),(8,true),(3,false),(6,false),(9,false),(10,false),(11,false),(12,true)] (zb _ _) ?_
 repeat ((first|refine pT ?_|refine pF ?_);try go_frame)
 clear D
 have HT:=zh (qdr L4 oN A6 10 c6 W5.drew ((HO5.out.ext (zb _ _).drew).byN HL4.out.2) (by omega) (by omega))
 refine pD fun K hK=>?_;go_simp
 refine HT.out.mono ?_
 rintro e w6 ⟨A7,c7,rfl,ho6,hb6⟩
 obtain ⟨L6,hL6⟩:∃ L,L4++[b8 oN]=L:=⟨_,rfl⟩
 have hl6:L6.length=11:=by rw [<-hL6,List.length_append,HL4.out.2];rfl
 have HL6:=zh (za hL6 hl6)
 rw [hL6] at ho6 ⊢
 have HO6:=zh (show Ob w6 W5.drew.heap.size A7 c7 L6 from ho6)
 rw [hl6]
 refine hK.out _ _ hb6 ?_
 clear hK K HT ho6 hL6 hl6
 have HT:=zh (qgr L6 nm A7 11 c7 w6 (HO6.out.byN HL6.out.2) (by omega) (by omega))
 refine pD fun K hK=>?_;go_simp
 refine HT.out.mono ?_
 rintro e w7 ⟨A8,c8,rfl,ho7,hb7⟩
 have hd7:=(hb6.tr hb7)
 obtain ⟨L7,hL7⟩:∃ L,L=L6++le 2 nm.size++nm.data.toList:=⟨_,rfl⟩
 rw [<-hL7] at ho7 ⊢
 obtain ⟨m7,hm7⟩:∃ m,L7.length=m:=⟨_,rfl⟩
 have HL7:=zh (za hL7 hm7)
 have HO7:=zh (show Ob w7 w6.heap.size A8 c8 L7 from ho7)
 rw [hm7]
 have hm7b:m7<=200:=by rw [<-hm7,hL7];have h4:nm.data.size=nm.size:=rfl;have:=HL6.out.2;simp [le];omega
 refine hK.out _ _ hd7 ?_
 clear hK K HT ho7 hL7 hm7
 have HB:=zh (qnf (HR5.out.ext ((zb W5.heap.size W5).drew.trans hd7)) HOK.out.row_ (by omega))
 refine pD fun K hK=>?_;go_simp
 refine HB.out.mono ?_
 rintro e w8 ⟨A9,c9,rfl,ho8,hb8⟩
 obtain ⟨rb,hrb⟩:∃ l,rowB row=l:=⟨_,rfl⟩
 have HRB:=zh hrb
 have hrl:=HRL.out
 rw [hrb] at ho8 hrl ⊢
 obtain ⟨m8,hm8⟩:∃ m,rb.length=m:=⟨_,rfl⟩
 have HM8:=zh hm8
 rw [hm8] at hrl
 have HO8:=zh (show Ob w8 w7.heap.size A9 c9 rb from ho8)
 rw [hm8]
 have hd8:=(hd7.tr hb8)
 refine hK.out _ _ hd8 ?_
 clear hK K HB ho8 hrb hm8
 have HCV:=qgl (HO8.out.byN HM8.out)
 refine pD fun K hK=>?_;go_simp
 refine hK.out _ _ hd8 ?_
 clear hK K HCV
 have HT:=zh (qgr L7 ⟨rb.toArray⟩ A8 m7 c8 w8 ((HO7.out.ext hb8).byN HL7.out.2) (by omega) (by show rb.toArray.size<=65535;rw [List.size_toArray];have:=HM8.out;omega))
 refine pD fun K hK=>?_;go_simp
 refine HT.out.mono ?_
 rintro e w9 ⟨A10,c10,rfl,ho9,hb9⟩
 have hd9:=(hd8.tr hb9)
 have e9:L7++le 2 (⟨rb.toArray⟩:ByteArray).size++(⟨rb.toArray⟩:ByteArray).data.toList=chgB id (nm,(oN:Int),row):=by
  have h4:nm.data.size=nm.size:=rfl
  rw [text_s,HL7.out.1,<-HL6.out.1,<-HL4.out.1,<-HL3.out.1,<-HRB.out]
  simp [chgB,txtB,h4]
 rw [e9] at ho9 ⊢
 obtain ⟨L9,hL9⟩:∃ L,chgB id (nm,(oN:Int),row)=L:=⟨_,rfl⟩
 have hcl:=HCL.out
 rw [hL9] at ho9 hcl ⊢
 obtain ⟨m9,hm9⟩:∃ m,L9.length=m:=⟨_,rfl⟩
 have HL9:=zh (za hL9 hm9)
 have HO9:=zh (show Ob w9 w8.heap.size A10 c10 L9 from ho9)
 rw [hm9] at hcl ⊢
 refine hK.out _ _ hd9 ?_
 clear hK K HT ho9 e9 hL9 hm9
 repeat ((first|refine pT ?_|refine pF ?_);try go_frame)
 refine qad ?_
 have hbb:=(zb W5.heap.size W5).drew.trans hd9
 have BT9:=BT5.ext hbb
 have BL9:=BL5.ext hbb
 have BC9:=BC.ext hbb
 have hbw9:=(hbw5.tr hbb)
 have hb58:=(zb W5.heap.size W5).drew.trans hd8
 have hB9:w8.heap.size<=w9.heap.size:=hb9.size
 have hgtB:gt<w8.heap.size:=Nat.lt_of_lt_of_le BT5.lt hb58.size
 have hglB:gl<w8.heap.size:=Nat.lt_of_lt_of_le BL5.lt hb58.size
 have hwB:w.heap.size<=w8.heap.size:=((hbw5.tr hb58)).size
 obtain ⟨Bs,hBs⟩:∃ s,w8.heap.size=s:=⟨_,rfl⟩
 rw [hBs] at hB9 hgtB hglB hwB HO9
 clear hBs hb58
 clear hb6 hb7 hb8 hb9 hd7 hd8 hd9 hbb hbw5 HO5 HO6 HO7 HO8 HR5 BT5 BL5 BC hrl hm7b
 have HF:=zh (lrow_ (seq:=0) (eChg.ext HC0.out hbw9) HOK.out hid (by omega))
 have qt:=two_ BT9 (zb _ _)
 have qc:=BC9.three (zb _ _)
 go_wp2_with fail
 refine HF.out.mono ?_
 rintro e w10 ⟨rfl,hb10⟩
 have BT10:=BT9.ext hb10
 have BL10:=BL9.ext hb10
 have hB10:=Nat.le_trans hB9 hb10.size
 have HO10:=zh (HO9.out.ext hb10)
 have hbw10:=(hbw9.tr hb10)
 obtain ⟨H,hH⟩:∃ H,rowH id 0 (nm,(oN:Int),row)=H:=⟨_,rfl⟩
 have hHl:H.length=32:=by rw [<-hH];exact qbh _
 have HH:=zh hH
 rw [hH]
 clear hH HF qt qc BT9 BL9 BC9 HO9 hb10 hbw9
 have hsz9:=qbq H hHl
 obtain ⟨Wq,hWq⟩:∃ W',W'=w10.alloc (.cells (qaa h0).toArray 76):=⟨_,rfl⟩
 have hbq:Below w10.heap.size w10 Wq:=by rw [hWq];exact (zb _ _).alloc (zl _) _
 have BQ0:Blk Wq w10.heap.size 76 (qaa h0).toArray:=by rw [hWq];exact Blk.new _ _ _
 have hthq:=Blk.there (o:=0) (n:=32) BQ0 (by rw [lenB,qaf];omega)
 obtain ⟨BQ,hgq⟩:=Blk.lay (qaa H) 0 BQ0 (by rw [lenB,lenB,qaf,hHl];omega)
 rw [qai _ _ (by rw [lenB,lenB,qaf,hHl])] at BQ
 have hbq5:=(hbq.gw hgq)
 have BT11:=BT10.ext hbq5
 have hB11:=Nat.le_trans hB10 hbq5.size
 have HO11:=zh (HO10.out.ext hbq5)
 clear HO10
 have BL11:=BL10.ext hbq5
 have hbw11:=(hbw10.tr hbq5)
 go_upto_region 7 with ((with_reducible refine sS 8 ?_);(rw [<-hWq]);(refine wpList_store_mid rfl 76 _ _ rfl w10.heap.size 0 (qaa H).toArray rfl rfl ?h1a ?h2a (all_oneCell_toArray (oneB _)) ?_))
 case h1a=>exact (show (qaa H).toArray.size=32 by simp [lenB,hHl]) ▸ hthq
 case h2a=>exact (show (qaa H).toArray.size=(qaa H).length by simp) ▸ hsz9
 clear hthq hgq hbq hbq5 BQ0 hsz9
 obtain ⟨gq,hgq⟩:∃ g,w10.heap.size=g:=⟨_,rfl⟩
 rw [hgq] at BQ BT11 BL11 hbw11 HO11 hB11 ⊢
 generalize Wq.setCells gq 0 (qaa H)=w11 at *
 clear hgq hWq
 clear BT10 BL10 hbw10
 go_wp2_with (at_builtin;(with_reducible refine sT 47 ?_);(refine wpList_plain rfl fun K hK=>?_);(refine qke 47 (.tmp 45) (.tmp 46) rfl rfl rfl HL9.out.2 HO11.out rfl hHl (Blk.range BQ (by simp)) (by omega) hB11 ?_))
 intro A11 c11 w12 ho12 hb12
 obtain ⟨L12,hL12⟩:∃ L,L9++H=L:=⟨_,rfl⟩
 obtain ⟨m12,hm12⟩:∃ m,m9+32=m:=⟨_,rfl⟩
 have HL12:=zh (za hL12 (show L12.length=m12 by rw [<-hL12,List.length_append,HL9.out.2,hHl,hm12]))
 rw [hL12] at ho12
 have hm12b:m12<=67000:=by omega
 rw [hm12]
 have HO12:=zh ho12
 have BT12:=BT11.below hb12 hgtB
 have BL12:=BL11.below hb12 hglB
 have hbw12:=hbw11.trans (zm hb12 hwB)
 have hB12:=Nat.le_trans hB11 hb12.size
 clear ho12 hL12 hm12 HO11 BQ BT11 BL11 hbw11
 refine hK _ _ ?_
 clear hK K
 go_wp2_with fail
 rw [rounds_succ]
 have HF:=zh (lroot1_ (eTx.ext HX.out hbw12) HOK.out hid)
 have qt:=two_ BT12 (zb _ _)
 go_wp2_with fail
 refine HF.out.mono ?_
 rintro e w13 ⟨rfl,hb13⟩
 have BL13:=BL12.ext hb13
 have HO13:=zh (HO12.out.ext hb13)
 have hbw13:=(hbw12.tr hb13)
 have hB13:=Nat.le_trans hB12 hb13.size
 rw [HH.out]
 clear HF qt BT12 BL12 HO12 hb13 hbw12 hB12
 have hsz9:=qbq H hHl
 obtain ⟨Wq,hWq⟩:∃ W',W'=w13.alloc (.cells (qaa h0).toArray 76):=⟨_,rfl⟩
 have hbq:Below w13.heap.size w13 Wq:=by rw [hWq];exact (zb _ _).alloc (zl _) _
 have BQ0:Blk Wq w13.heap.size 76 (qaa h0).toArray:=by rw [hWq];exact Blk.new _ _ _
 have hthq:=Blk.there (o:=0) (n:=32) BQ0 (by rw [lenB,qaf];omega)
 obtain ⟨BQ,hgq⟩:=Blk.lay (qaa H) 0 BQ0 (by rw [lenB,lenB,qaf,hHl];omega)
 rw [qai _ _ (by rw [lenB,lenB,qaf,hHl])] at BQ
 have hbq5:=(hbq.gw hgq)
 have BL14:=BL13.ext hbq5
 have HO14:=zh (HO13.out.ext hbq5)
 have hB14:=Nat.le_trans hB13 hbq5.size
 clear HO13
 have hbw14:=(hbw13.tr hbq5)
 go_upto_region 10 with ((with_reducible refine sS 9 ?_);(rw [<-hWq]);(refine wpList_store_mid rfl 76 _ _ rfl w13.heap.size 0 (qaa H).toArray rfl rfl ?h1b ?h2b (all_oneCell_toArray (oneB _)) ?_))
 case h1b=>exact (show (qaa H).toArray.size=32 by simp [lenB,hHl]) ▸ hthq
 case h2b=>exact (show (qaa H).toArray.size=(qaa H).length by simp) ▸ hsz9
 clear hthq hgq hbq hbq5 BQ0 hsz9
 obtain ⟨gr,hgq⟩:∃ g,w13.heap.size=g:=⟨_,rfl⟩
 rw [hgq] at BQ BL14 hbw14 HO14 hB14 ⊢
 generalize Wq.setCells gr 0 (qaa H)=w14 at *
 clear hgq hWq
 clear BL13 hbw13 hB13
 go_wp2_with (at_builtin;(with_reducible refine sT 53 ?_);(refine wpList_plain rfl fun K hK=>?_);(refine qke 53 (.tmp 51) (.tmp 52) rfl rfl rfl HL12.out.2 HO14.out rfl hHl (Blk.range BQ (by simp)) (by omega) hB14 ?_))
 intro A15 c15 w15 ho15 hb15
 obtain ⟨L15,hL15⟩:∃ L,L12++H=L:=⟨_,rfl⟩
 obtain ⟨m15,hm15⟩:∃ m,m12+32=m:=⟨_,rfl⟩
 have HL15:=zh (za hL15 (show L15.length=m15 by rw [<-hL15,List.length_append,HL12.out.2,hHl,hm15]))
 rw [hL15] at ho15
 have hm15b:m15<=68000:=by omega
 rw [hm15]
 have HO15:=zh ho15
 have BL15:=BL14.below hb15 hglB
 have hbw15:=hbw14.trans (zm hb15 hwB)
 clear ho15 hL15 hm15 HO14 BQ BL14 hbw14
 refine hK _ _ ?_
 clear hK K
 have HT:Calls Tryz.prog 99 #[.slice A15 m15 c15,.int .i64 0] w15 (OwnB (L15++[b8 0]) w15):=qdr L15 0 A15 m15 c15 w15 (HO15.out.byN HL15.out.2) (by omega) (by omega)
 have HT:=zh HT
 have ql:=BL15.cell 1
 go_wp2_with fail
 refine HT.out.mono ?_
 rintro e w16 ⟨A16,c16,rfl,ho16,hb16⟩
 have e16:L15++[b8 0]=txB id (nm,(oN:Int),row):=by
  rw [<-HL15.out.1,<-HL12.out.1,<-HL9.out.1,<-HH.out]
  rfl
 rw [e16] at ho16 ⊢
 obtain ⟨LT,hLT⟩:∃ L,txB id (nm,(oN:Int),row)=L:=⟨_,rfl⟩
 rw [hLT] at ho16 ⊢
 have HLT:=zh hLT
 clear hLT
 obtain ⟨m16,hm16⟩:∃ m,LT.length=m:=⟨_,rfl⟩
 have HM16:=zh hm16
 have HO16:=zh (show Ob w16 w15.heap.size A16 c16 LT from ho16)
 rw [hm16]
 have hw15:=hbw15.size
 have hbw16:=(hbw15.tr hb16)
 clear ho16 hm16 hb16 hbw15 e16 HT
 go_wp2
 go_ret
 exact ⟨A16,c16,by rw [HLT.out,HM16.out];rfl,by rw [HLT.out];exact HO16.out.base hw15,hbw16⟩
def db0:DBd:=([],[],[],[])
def led0:LedD:=(0,[],[],[])
theorem state0 (w:World) (F:qab):eState.rel w F [.slice none 0 0,.slice none 0 0,.slice none 0 0,.slice none 0 0,.int .i64 0,.slice none 0 0,.slice none 0 0,.slice none 0 0] (db0,led0) :=
 qel (qeg (x:=db0) (Sl.nil _ _) (Sl.nil _ _) (Sl.nil _ _) (Sl.nil _ _)) (qkc (x:=led0) (Sl.nil _ _) (Sl.nil _ _) (Sl.nil _ _))
theorem sopen_ {d:Nat} (h:Dk w d gs gn np l (.slice none 0 0)) (hl:Logd l np []):
  Calls Tryz.prog 13 #[.pointer (some ⟨d,0,none⟩)] w fun e w'=>∃ s lg,e=.returned (.tuple #[.pointer (some ⟨s,0,none⟩),.int .i64 0])/\Sto w' s lg d gs gn np [] db0 led0/\w.heap.size<=s/\w.heap.size<=lg/\Below w.heap.size w w':=by
 have HO:=zh (open_ h hl)
 have HD:=zh (za h hl)
 clear h hl
 go_enter Tryz.func13,Tryz.ntmps13
 go_wp2_with fail
 refine HO.out.mono ?_
 rintro e w1 ⟨lg,A,c,rfl,hR,hL,hlw,hb1⟩
 have HLG:=zh hL
 clear hR HO hL
 simp only [List.length_nil]
 go_wp2_with fail
 obtain ⟨W,hW_,hb2,BN⟩:=al1 w1 149 #[.slice none 0 0,.slice none 0 0,.slice none 0 0,.slice none 0 0,.int .i64 0,.slice none 0 0,.slice none 0 0,.slice none 0 0]
 rw [<-hW_]
 clear hW_
 obtain ⟨g,hg⟩:∃ g,w1.heap.size=g:=⟨_,rfl⟩
 have hg1:w1.heap.size<=g:=by omega
 rw [hg] at BN ⊢
 clear hg
 refine wp_loop_rounds 1 ?_
 rw [rounds_succ]
 go_upto_region 13 with fail
 obtain ⟨W3,hW_,hb3,BS⟩:=al1 W 157 #[.pointer (some ⟨lg,0,none⟩),.pointer none]
 rw [<-hW_]
 clear hW_
 obtain ⟨s,hs⟩:∃ g,W.heap.size=g:=⟨_,rfl⟩
 have hs1:W.heap.size<=s:=by omega
 rw [hs] at BS ⊢
 clear hs
 have BN3:=BN.ext hb3
 have hgW:g<W.heap.size:=BN.lt
 have hP:=zh (qmy (cs:=#[]) BS (BN3.cell 0))
 go_wp2_with fail
 refine hP.out.mono ?_
 rintro e w4 ⟨rfl,rfl⟩
 have hb13:=(hb2.tr hb3)
 have hbw3:=(hb1.tr hb13)
 have hd3:=HD.out.1.ext hbw3
 have hL3:=HLG.out.blk.ext hb13
 have hg4:=qac W3 s 1 (.pointer (some ⟨g,0,none⟩))
 have hk4:Keep (fun b=>b≠s) W3 (W3.setCell ⟨s,1,none⟩ (.pointer (some ⟨g,0,none⟩))):=Keep.grown hg4 (fun k hk h=>by injection hk with hk;exact h hk.symm)
 have hdl:=HD.out.1.lt
 have hz1:=hb1.size
 have hz2:=hb2.size
 have hlgl:lg<w1.heap.size:=HLG.out.blk.lt
 have hw4:=(hbw3.gw hg4)
 have hSt:Sto (W3.setCell ⟨s,1,none⟩ (.pointer (some ⟨g,0,none⟩))) s lg d gs gn np [] db0 led0:=⟨⟨l,hd3.keep hk4 (by omega) (by omega) (by omega),HD.out.2⟩,⟨Blk.keep hL3 hk4 (by show lg≠s;omega)⟩,⟨g,_,BS.set_ 1 _,Blk.keep BN3 hk4 (by show g≠s;omega),state0 _ _,by refine ⟨?_,?_,?_,?_,?_⟩ <;> omega⟩,by refine ⟨?_,?_,?_,?_,?_,?_,?_⟩ <;> omega⟩
 have HF:=zh (za hSt (za (show w.heap.size<=s by omega) (za hlw hw4)))
 clear hSt hw4 hk4 hg4 hd3 hL3 hb13 hbw3 hdl BS BN BN3 hP hb1 hb2 hb3
 generalize W3.setCell ⟨s,1,none⟩ (.pointer (some ⟨g,0,none⟩))=w4 at *
 go_wp2
 go_ret2
 exact ⟨s,lg,rfl,HF.out⟩
theorem qhu:Bnd eDB:=qbc (qbk qdm) (qbc (qbk qhz) (qbc (qbk flat_hld.bnd) (qbk flat_hld.bnd)))
theorem screate_ {s lg d:Nat} {L:LedD} {FS:qab} {nm:List UInt8} {cols:List pg.Cl} {key:Nat} {only:Bool} (h:Sto w s lg d gs gn np rs x L) (hok:okDB x) (hS:Sl eCol w FS A cols.length c (cols.map qdf)) (hG:GoodS nm cols key)
  (hm:Mono (cmpT ⟨nm.toArray⟩) x.1) (hfree:isG (cmpT ⟨nm.toArray⟩) x.1=false) (hlen:x.1.length<8) (hwk:x.2.1.length=0) (hokS:OkS (qbj nm cols key only)) (hfit:64+(recs rs).length+(8+(tabB (qbj nm cols key only)).length)<=np * 64) (hct:rs.length<=900000) :
  Calls Tryz.prog 14 #[.pointer (some ⟨s,0,none⟩),.agg #[.string ⟨nm.toArray⟩,.slice A cols.length c,.int .i64 key,.bool only]] w fun e w'=>e=.returned (.int .i64 0)/\Sto w' s lg d gs gn np (rs++[tabB (qbj nm cols key only)]) (x.1.take (posG (cmpT ⟨nm.toArray⟩) x.1)++(qbj nm cols key only,[])::x.1.drop (posG (cmpT ⟨nm.toArray⟩) x.1),x.2) L/\Frm (On s lg d gs gn) w w':=by
 have HH:=zh h
 have HSC:=zh hS
 have HOS:=zh hokS
 have HFT:=zh hfit
 obtain ⟨Y,hY⟩:∃ Y,(x.1.take (posG (cmpT ⟨nm.toArray⟩) x.1)++(qbj nm cols key only,[])::x.1.drop (posG (cmpT ⟨nm.toArray⟩) x.1),x.2)=Y:=⟨_,rfl⟩
 have HK:=zh (fun (w':World) (F F':qab) (cs:List Value) (h1:eDB.rel w' F cs x) (h2:Sl eCol w' F' A cols.length c (cols.map qdf))=>create_ (only:=only) h1 hok h2 hG hm hfree hlen hwk)
 obtain ⟨g,cg,BS,BG,hst,hoff⟩:=h.st
 obtain ⟨E,n,c1,E2,n2,c2,E3,n3,c3,E4,n4,c4,B,m5,k,B2,m6,k2,B3,m7,k3,rfl,hd,hl⟩:=qdd hst
 have HD:=zh hd
 have HL:=zh hl
 rw [hY] at HK ⊢
 obtain ⟨nl,hnl⟩:∃ n,cols.length=n:=⟨_,rfl⟩
 rw [hnl] at HK HSC ⊢
 obtain ⟨st,hst'⟩:∃ b:ByteArray,⟨nm.toArray⟩=b:=⟨_,rfl⟩
 have HST:=zh hst'
 rw [hst'] at HK ⊢
 clear h hst hd hl hS hokS hfit hY hok hG hm hfree hnl hst'
 go_enter Tryz.func14,Tryz.ntmps14
 go_upto_region 1 with fail
 obtain ⟨W,hW_,hb1,BC⟩:=al1 w 66 #[.string st,.slice A nl c,.int .i64 key,.bool only]
 rw [<-hW_]
 clear hW_
 obtain ⟨gc,hgc⟩:∃ g,w.heap.size=g:=⟨_,rfl⟩
 rw [hgc] at BC ⊢
 clear hgc
 have BS1:=BS.ext hb1
 have BG1:=BG.ext hb1
 have HP:=zh (qhr BS1 BG1 rfl)
 clear BS BG
 go_wp2_with fail
 refine HP.out.mono ?_
 rintro e w' ⟨rfl,rfl⟩
 go_upto_region 2 with fail
 have hbW:=hb1
 have q4:=BG1.cell 4
 have D:∀ w',Below W.heap.size W.drew w'->(w'.cell? ⟨g,0,none⟩=some (.slice E n c1)/\w'.cell? ⟨g,1,none⟩=some (.slice E2 n2 c2)/\w'.cell? ⟨g,2,none⟩=some (.slice E3 n3 c3)/\w'.cell? ⟨g,3,none⟩=some (.slice E4 n4 c4))/\w'.cell? ⟨gc,0,none⟩=some (.string st)/\w'.cell? ⟨gc,1,none⟩=some (.slice A nl c)/\w'.cell? ⟨gc,2,none⟩=some (.int .i64 key)/\w'.cell? ⟨gc,3,none⟩=some (.bool only):=fun w' h=>by
  have b1:=BG1.ext ((zb _ _).drew.trans h)
  have b2:=BC.ext ((zb _ _).drew.trans h)
  exact ⟨⟨b1.cell 0,b1.cell 1,b1.cell 2,b1.cell 3⟩,b2.cell 0,b2.cell 1,b2.cell 2,b2.cell 3⟩
 clear q4
 refine qdv (S:=fun w'=>Below W.heap.size W.drew w') (.seq [(0,true),(1,true),(2,true),(3,true),(4,true)] (.two 5 (.seq [(6,true),(7,true),(8,true),(9,false),(10,false),(11,true)] .fin) 9 (.seq [(5,false),(6,true),(7,true),(8,true),(10,false),(11,true)] .fin))) (by kernel_rfl) (by kernel_rfl) (zb _ _) ?_
 refine qbp ?_
 repeat ((first|refine pT ?_|refine pF ?_);try go_frame)
 clear D
 refine qaw ?_
 refine qff ?_ ?_
 ·refine pD fun K hK=>?_;go_simp
  have hwI:=hb1.drew.size
  have HF:=zh (HK.out W.drew _ _ _ (eDB.ext HD.out hb1.drew) (HSC.out.ext hb1.drew))
  refine HF.out.mono ?_
  rintro e w3 ⟨cz,rfl,hr3,hb3⟩
  have HR3:=zh (qhu hr3)
  refine hK.out _ _ hb3 ?_
  clear hK K HF hr3
  refine qaw ?_
  refine qbp ?_
  repeat ((first|refine pT ?_|refine pF ?_);try go_frame)
  refine pD fun K hK=>?_;go_simp
  obtain ⟨w5,hwn⟩:∃ W',W'=w3.alloc (.cells #[.slice none 0 0,.slice none 0 0,.slice none 0 0,.slice none 0 0] 31):=⟨_,rfl⟩
  have hb35:Below w3.heap.size w3 w5:=by rw [hwn];exact (zb _ _).alloc (zl _) _
  have BD5:Blk w5 w3.heap.size 31 #[.slice none 0 0,.slice none 0 0,.slice none 0 0,.slice none 0 0]:=by rw [hwn];exact Blk.new _ _ _
  rw [<-hwn]
  obtain ⟨gd,hgd⟩:∃ g,w3.heap.size=g:=⟨_,rfl⟩
  have hgd3:W.heap.size<=gd:=by have:=hb3.size;have h:W.drew.heap.size=W.heap.size:=rfl;omega
  have HR5:=zh (eDB.mono (eDB.ext HR3.out hb35) (G:=fun b=>w.heap.size<=b/\b≠gd) (fun b h=>⟨Nat.le_trans hwI h.1,by have:=h.2;omega⟩))
  rw [hgd] at BD5 ⊢
  have hb5:Below W.heap.size W.drew w5:=(hb3.tr hb35)
  refine hK.out _ _ hb5 ?_
  clear hK K hwn hb35 hb3 HR3 hgd
  have hczl:cz.length=4:=eDB.len HR5.out
  have hone:=eDB.one HR5.out
  have hszl:(Tryz.prog.info? 31).map (·.size)=some cz.length:=by rw [hczl];kernel_rfl
  have hth:=Blk.there (o:=0) (n:=4) BD5 (by simp)
  refine qaj rfl (qae rfl) (fun K hK=>?_)
  refine qao 31 (.tmp 6) (.tmp 19) rfl rfl gd 0 cz rfl rfl (by rw [hczl];exact hth) hszl hone ?_
  obtain ⟨BD6,hg6⟩:=Blk.lay cz 0 BD5 (by rw [hczl];simp)
  rw [qai _ _ (by rw [hczl];rfl)] at BD6
  have hb6:=hb5.grown hg6 hb5.size (fun k hk=>by injection hk with hk;omega)
  have HR6:=zh (eDB.mono (eDB.keep HR5.out (Keep.grown hg6 (fun g hg h=>by injection hg with hg;exact h.2 hg.symm))) (G:=fun b=>w.heap.size<=b) (fun b h=>h.1))
  refine hK.out _ _ hb6 ?_
  clear hK K hth hg6 BD5 hb5 HR5 hone hszl hczl
  generalize w5.setCells gd 0 cz=w6 at *
  repeat ((first|refine pT ?_|refine pF ?_);try go_frame)
  have BD6:Blk w6 gd 31 cz.toArray:=BD6
  obtain ⟨X1,i1,j1,X2,i2,j2,X3,i3,j3,X4,i4,j4,rfl,_,_,_,_⟩:=qav HR6.out
  refine qaw (qcu ?_)
  have hb16:=(zb W.heap.size W).drew.trans hb6
  have BS6:=BS1.ext hb16
  have BG6:=BG1.ext hb16
  have BC6:=BC.ext hb16
  have HH6:=zh (HH.out.ext ((hb1.tr hb16)))
  have hbw6:=(hb1.tr hb16)
  have HL6:=zh (eLed.ext HL.out hbw6)
  have HO6:=zh (show ∀ k,On s lg d gs gn k->k<w.heap.size from fun k hk=>HH.out.lt hk)
  clear hb6 hb16 BS1 BG1 BC hb1
  go_upto_region 5 with fail
  have D:=fun w' (h:Below w6.heap.size w6.drew w')=>show (w'.cell? ⟨gd,0,none⟩=some (.slice X1 i1 j1)/\w'.cell? ⟨gd,1,none⟩=some (.slice X2 i2 j2)/\w'.cell? ⟨gd,2,none⟩=some (.slice X3 i3 j3)/\w'.cell? ⟨gd,3,none⟩=some (.slice X4 i4 j4))/\(w'.cell? ⟨gc,0,none⟩=some (.string st)/\w'.cell? ⟨gc,1,none⟩=some (.slice A nl c)/\w'.cell? ⟨gc,2,none⟩=some (.int .i64 key)/\w'.cell? ⟨gc,3,none⟩=some (.bool only))/\w'.cell? ⟨g,4,none⟩=some (.int .i64 L.1)/\w'.cell? ⟨g,5,none⟩=some (.slice B m5 k)/\w'.cell? ⟨g,6,none⟩=some (.slice B2 m6 k2)/\w'.cell? ⟨g,7,none⟩=some (.slice B3 m7 k3) from by
   have b1:=BD6.ext ((zb _ _).drew.trans h)
   have b2:=BC6.ext ((zb _ _).drew.trans h)
   have b3:=BG6.ext ((zb _ _).drew.trans h)
   exact ⟨⟨b1.cell 0,b1.cell 1,b1.cell 2,b1.cell 3⟩,⟨b2.cell 0,b2.cell 1,b2.cell 2,b2.cell 3⟩,b3.cell 4,b3.cell 5,b3.cell 6,b3.cell 7⟩
  refine r3 (S:=fun w'=>Below w6.heap.size w6.drew w') [(0,true),(1,true),(3,true),(4,true),(5,true),(6,true),(7,true),(8,true),(2,false)] [(9,false),(10,true)] (zb _ _) ?_
  iterate 7 (((first|refine pT ?_|refine pF ?_);try go_frame))
  refine qas rfl rfl (qae rfl) (fun w' hS=>qce (ps:=[(0,.agg #[.slice X1 i1 j1,.slice X2 i2 j2,.slice X3 i3 j3,.slice X4 i4 j4]),(1,.agg #[.int .i64 L.1,.slice B m5 k,.slice B2 m6 k2,.slice B3 m7 k3])]) 149 _ rfl qee rfl (qfa _ _ _ _ _ _ _ _)) ?_
  go_frame
  clear D
  have hd0:=(zb w6.heap.size w6).drew
  have hbw0:=(hbw6.tr hd0)
  have HT:=zh (tabrec_ (x:=qbj nm cols key only) (qmp (x:=qbj nm cols key only) (HSC.out.ext hbw0)) HOS.out)
  simp only [qbj,HST.out] at HT
  refine pD fun K hK=>?_;go_simp
  refine HT.out.mono ?_
  rintro e w7 ⟨A7,c7,rfl,ho7,hb7⟩
  obtain ⟨R,hR⟩:∃ R,tabB (st,cols.map qdf,(key:Int),only)=R:=⟨_,rfl⟩
  have HRR:=zh (show tabB (qbj nm cols key only)=R by rw [qbj,HST.out];exact hR)
  rw [hR] at ho7 ⊢
  obtain ⟨m8,hm8⟩:∃ m,R.length=m:=⟨_,rfl⟩
  have HM8:=zh hm8
  have HO7:=zh (show Ob w7 w6.drew.heap.size A7 c7 R from ho7)
  rw [hm8]
  refine hK.out _ _ hb7 ?_
  clear hK K HT ho7 hR hm8
  refine qak ?_
  have hb67:=hd0.trans hb7
  have hfit:64+(recs rs).length+(8+m8)<=np * 64:=by have h:=HFT.out;rw [HRR.out,HM8.out] at h;exact h
  have hm1:1<=m8:=by rw [<-HM8.out,<-HRR.out];simp only [tabB,List.length_append,List.length_cons,List.length_nil];omega
  have hm2:m8<=65536:=by rw [<-HM8.out,<-HRR.out];have:=qlc _ HOS.out;simp only [tabB,txtB,List.length_append,qax,List.length_cons,List.length_nil];omega
  have HA:=zh (qie (HH6.out.ext hb67) (qel (eDB.mono (eDB.ext HR6.out hb67) (fun b hb=>Off.of_lo HO6.out hb)) (eLed.ext HL6.out hb67)) (HO7.out.byN HM8.out) hm1 hm2 hfit hct)
  refine pD fun K hK=>?_;go_simp
  refine HA.out.mono ?_
  rintro e w8 ⟨rfl,hSt,hfr,_⟩
  rw [<-HRR.out] at hSt
  have HE:=zh (za hSt ((Frm.below (G:=On s lg d gs gn) ((hbw6.tr hb67))).trans hfr))
  refine hK.out _ _ trivial ?_
  clear hK K HA hSt hfr hb67 hb7 hbw6 hbw0 hd0 BD6 BS6 BG6 BC6 HH6
  repeat ((first|refine pT ?_|refine pF ?_);try go_frame)
  refine qad ?_
  go_wp2
  go_ret
  exact ⟨rfl,HE.out⟩
 ·refine pD fun K hK=>?_;go_simp
  obtain ⟨w4,hwn⟩:∃ W',W'=W.drew.alloc (.cells #[.slice none 0 0,.slice none 0 0,.slice none 0 0,.slice none 0 0] 31):=⟨_,rfl⟩
  have hb4:Below W.heap.size W.drew w4:=by rw [hwn];exact show Below W.heap.size W.drew (W.drew.alloc _) from (zb W.heap.size W.drew).alloc (zl _) _
  have BD4:Blk w4 W.heap.size 31 #[.slice none 0 0,.slice none 0 0,.slice none 0 0,.slice none 0 0]:=by rw [hwn];exact Blk.new _ _ _
  have hwn2:w4=(W.alloc (.cells #[.slice none 0 0,.slice none 0 0,.slice none 0 0,.slice none 0 0] 31)).drew:=hwn
  rw [<-hwn2]
  obtain ⟨gd,hgd⟩:∃ g,W.heap.size=g:=⟨_,rfl⟩
  have hgd3:W.heap.size<=gd:=by omega
  rw [hgd] at BD4 ⊢
  refine hK.out _ _ hb4 ?_
  clear hK K hwn hwn2 hgd
  refine qaw ?_
  refine qbp ?_
  have hb14:=hb1.drew.trans (zm hb4 hb1.size)
  refine pD fun K hK=>?_;go_simp
  have hwI:=hb14.size
  have HF:=zh (HK.out w4 _ _ _ (eDB.ext HD.out hb14) (HSC.out.ext hb14))
  refine HF.out.mono ?_
  rintro e w5 ⟨cz,rfl,hr3,hb45⟩
  have BD5:=BD4.ext hb45
  have hgl:=BD4.lt
  have HR5:=zh (eDB.mono hr3 (G:=fun b=>w.heap.size<=b/\b≠gd) (fun b (h:w4.heap.size<=b)=>⟨Nat.le_trans hwI h,by omega⟩))
  have hb5:=(hb4.tr hb45)
  refine hK.out _ _ hb5 ?_
  clear hK K HF hr3 hb45 hb4 BD4 hgl hb14
  repeat ((first|refine pT ?_|refine pF ?_);try go_frame)
  have hczl:cz.length=4:=eDB.len HR5.out
  have hone:=eDB.one HR5.out
  have hszl:(Tryz.prog.info? 31).map (·.size)=some cz.length:=by rw [hczl];kernel_rfl
  have hth:=Blk.there (o:=0) (n:=4) BD5 (by simp)
  refine qaj rfl (qae rfl) (fun K hK=>?_)
  refine qao 31 (.tmp 6) (.tmp 19) rfl rfl gd 0 cz rfl rfl (by rw [hczl];exact hth) hszl hone ?_
  obtain ⟨BD6,hg6⟩:=Blk.lay cz 0 BD5 (by rw [hczl];simp)
  rw [qai _ _ (by rw [hczl];rfl)] at BD6
  have hb6:=hb5.grown hg6 hb5.size (fun k hk=>by injection hk with hk;omega)
  have HR6:=zh (eDB.mono (eDB.keep HR5.out (Keep.grown hg6 (fun g hg h=>by injection hg with hg;exact h.2 hg.symm))) (G:=fun b=>w.heap.size<=b) (fun b h=>h.1))
  refine hK.out _ _ hb6 ?_
  clear hK K hth hg6 BD5 hb5 HR5 hone hszl hczl
  generalize w5.setCells gd 0 cz=w6 at *
  repeat ((first|refine pT ?_|refine pF ?_);try go_frame)
  have BD6:Blk w6 gd 31 cz.toArray:=BD6
  obtain ⟨X1,i1,j1,X2,i2,j2,X3,i3,j3,X4,i4,j4,rfl,_,_,_,_⟩:=qav HR6.out
  refine qaw (qcu ?_)
  have hb16:=(zb W.heap.size W).drew.trans hb6
  have BS6:=BS1.ext hb16
  have BG6:=BG1.ext hb16
  have BC6:=BC.ext hb16
  have HH6:=zh (HH.out.ext ((hb1.tr hb16)))
  have hbw6:=(hb1.tr hb16)
  have HL6:=zh (eLed.ext HL.out hbw6)
  have HO6:=zh (show ∀ k,On s lg d gs gn k->k<w.heap.size from fun k hk=>HH.out.lt hk)
  clear hb6 hb16 BS1 BG1 BC hb1
  go_upto_region 5 with fail
  have D:=fun w' (h:Below w6.heap.size w6.drew w')=>show (w'.cell? ⟨gd,0,none⟩=some (.slice X1 i1 j1)/\w'.cell? ⟨gd,1,none⟩=some (.slice X2 i2 j2)/\w'.cell? ⟨gd,2,none⟩=some (.slice X3 i3 j3)/\w'.cell? ⟨gd,3,none⟩=some (.slice X4 i4 j4))/\(w'.cell? ⟨gc,0,none⟩=some (.string st)/\w'.cell? ⟨gc,1,none⟩=some (.slice A nl c)/\w'.cell? ⟨gc,2,none⟩=some (.int .i64 key)/\w'.cell? ⟨gc,3,none⟩=some (.bool only))/\w'.cell? ⟨g,4,none⟩=some (.int .i64 L.1)/\w'.cell? ⟨g,5,none⟩=some (.slice B m5 k)/\w'.cell? ⟨g,6,none⟩=some (.slice B2 m6 k2)/\w'.cell? ⟨g,7,none⟩=some (.slice B3 m7 k3) from by
   have b1:=BD6.ext ((zb _ _).drew.trans h)
   have b2:=BC6.ext ((zb _ _).drew.trans h)
   have b3:=BG6.ext ((zb _ _).drew.trans h)
   exact ⟨⟨b1.cell 0,b1.cell 1,b1.cell 2,b1.cell 3⟩,⟨b2.cell 0,b2.cell 1,b2.cell 2,b2.cell 3⟩,b3.cell 4,b3.cell 5,b3.cell 6,b3.cell 7⟩
  refine r3 (S:=fun w'=>Below w6.heap.size w6.drew w') [(0,true),(1,true),(3,true),(4,true),(5,true),(6,true),(7,true),(8,true),(2,false)] [(9,false),(10,true)] (zb _ _) ?_
  iterate 7 (((first|refine pT ?_|refine pF ?_);try go_frame))
  refine qas rfl rfl (qae rfl) (fun w' hS=>qce (ps:=[(0,.agg #[.slice X1 i1 j1,.slice X2 i2 j2,.slice X3 i3 j3,.slice X4 i4 j4]),(1,.agg #[.int .i64 L.1,.slice B m5 k,.slice B2 m6 k2,.slice B3 m7 k3])]) 149 _ rfl qee rfl (qfa _ _ _ _ _ _ _ _)) ?_
  go_frame
  clear D
  have hd0:=(zb w6.heap.size w6).drew
  have hbw0:=(hbw6.tr hd0)
  have HT:=zh (tabrec_ (x:=qbj nm cols key only) (qmp (x:=qbj nm cols key only) (HSC.out.ext hbw0)) HOS.out)
  simp only [qbj,HST.out] at HT
  refine pD fun K hK=>?_;go_simp
  refine HT.out.mono ?_
  rintro e w7 ⟨A7,c7,rfl,ho7,hb7⟩
  obtain ⟨R,hR⟩:∃ R,tabB (st,cols.map qdf,(key:Int),only)=R:=⟨_,rfl⟩
  have HRR:=zh (show tabB (qbj nm cols key only)=R by rw [qbj,HST.out];exact hR)
  rw [hR] at ho7 ⊢
  obtain ⟨m8,hm8⟩:∃ m,R.length=m:=⟨_,rfl⟩
  have HM8:=zh hm8
  have HO7:=zh (show Ob w7 w6.drew.heap.size A7 c7 R from ho7)
  rw [hm8]
  refine hK.out _ _ hb7 ?_
  clear hK K HT ho7 hR hm8
  refine qak ?_
  have hb67:=hd0.trans hb7
  have hfit:64+(recs rs).length+(8+m8)<=np * 64:=by have h:=HFT.out;rw [HRR.out,HM8.out] at h;exact h
  have hm1:1<=m8:=by rw [<-HM8.out,<-HRR.out];simp only [tabB,List.length_append,List.length_cons,List.length_nil];omega
  have hm2:m8<=65536:=by rw [<-HM8.out,<-HRR.out];have:=qlc _ HOS.out;simp only [tabB,txtB,List.length_append,qax,List.length_cons,List.length_nil];omega
  have HA:=zh (qie (HH6.out.ext hb67) (qel (eDB.mono (eDB.ext HR6.out hb67) (fun b hb=>Off.of_lo HO6.out hb)) (eLed.ext HL6.out hb67)) (HO7.out.byN HM8.out) hm1 hm2 hfit hct)
  refine pD fun K hK=>?_;go_simp
  refine HA.out.mono ?_
  rintro e w8 ⟨rfl,hSt,hfr,_⟩
  rw [<-HRR.out] at hSt
  have HE:=zh (za hSt ((Frm.below (G:=On s lg d gs gn) ((hbw6.tr hb67))).trans hfr))
  refine hK.out _ _ trivial ?_
  clear hK K HA hSt hfr hb67 hb7 hbw6 hbw0 hd0 BD6 BS6 BG6 BC6 HH6
  repeat ((first|refine pT ?_|refine pF ?_);try go_frame)
  refine qad ?_
  go_wp2
  go_ret
  exact ⟨rfl,HE.out⟩
def H1 (id:Nat) (x:Chg):List UInt8:=shaL (blkT 1 h0 (entH id x) 1)
theorem sdig1_ {s lg d:Nat} {nx:Int} {t:Chg} (h:Sto w s lg d gs gn np rs x (nx,[((id:Int),[t])],[],[])) (hok:OkC t) (hokt:okTx ((id:Int),[t])) (hid:id<9223372036854775808)
  (hfit:64+(recs rs).length+(8+41)<=np * 64) (hct:rs.length<=900000) :
  Calls Tryz.prog 19 #[.pointer (some ⟨s,0,none⟩)] w fun e w'=>e=.returned (.tuple #[.agg (digC 1 (H1 id t)).toArray,.int .i64 0])/\Sto w' s lg d gs gn np (rs++[blkB 1 (H1 id t)]) x (nx,[],[blk1 id t],[[((id:Int),[t])]])/\Frm (On s lg d gs gn) w w':=by
 have HH:=zh h
 obtain ⟨g,cg,BS,BG,hst,hoff⟩:=h.st
 obtain ⟨E,n,c1,E2,n2,c2,E3,n3,c3,E4,n4,c4,B,m5,k,B2,m6,k2,B3,m7,k3,rfl,hd,hl⟩:=qdd hst
 have HL:=zh hl
 have HD:=zh hd
 have hz:=qiq
 have hOn:∀ k,On s lg d gs gn k->k<w.heap.size:=fun k hk=>h.lt hk
 have HO:=zh hOn
 clear h hst hd hl hOn
 go_enter Tryz.func19,Tryz.ntmps19
 go_upto_region 1 with fail
 obtain ⟨W,hW_,hb1,BR⟩:=al1 w 78 ((digC 0 h0).toArray)
 rw [<-hW_]
 clear hW_
 obtain ⟨gr,hgr⟩:∃ g,w.heap.size=g:=⟨_,rfl⟩
 have hgrw:w.heap.size<=gr:=by omega
 rw [hgr] at BR ⊢
 clear hgr
 have hgrW:gr<W.heap.size:=BR.lt
 have hWs:w.heap.size<=W.heap.size:=hb1.size
 have BS1:=BS.ext hb1
 have BG1:=BG.ext hb1
 have HP:=zh (qhr BS1 BG1 rfl)
 clear BS BG
 go_wp2_with fail
 refine HP.out.mono ?_
 rintro e w' ⟨rfl,rfl⟩
 have HF:=zh (lshut1_ (eLed.ext HL.out hb1) hok hokt hid)
 have q4:=BG1.cell 4
 have q5:=BG1.cell 5
 have q6:=BG1.cell 6
 have q7:=BG1.cell 7
 go_wp2_with fail
 refine HF.out.mono ?_
 rintro e w2 ⟨ds,rfl,hr2,hb2⟩
 obtain ⟨X,i1,j1,X2,i2,j2,X3,i3,j3,rfl,_,_,_⟩:=qei hr2
 have hbw2:=(hb1.tr hb2)
 have HR2:=zh hr2
 have BR2:=BR.ext hb2
 have BS2:=BS1.ext hb2
 have BG2:=BG1.ext hb2
 clear q4 q5 q6 q7 HF hr2 HP hb1 hb2 BR BS1 BG1
 go_upto_region 4 with fail
 obtain ⟨W3,hW_,hb3,BX⟩:=al1 w2 147 #[.int .i64 nx,.slice X i1 j1,.slice X2 i2 j2,.slice X3 i3 j3]
 rw [<-hW_]
 clear hW_
 obtain ⟨gx,hgx⟩:∃ g,w2.heap.size=g:=⟨_,rfl⟩
 rw [hgx] at BX ⊢
 clear hgx
 have hbw3:=(hbw2.tr hb3)
 have HR3:=zh (eLed.ext HR2.out hb3)
 have BR3:=BR2.ext hb3
 have BS3:=BS2.ext hb3
 have BG3:=BG2.ext hb3
 have HF:=zh (ldig_ (bs:=[]) (n:=1) (c:=1) (p:=h0) (r:=entH id t) HR3.out rfl (by omega) (by omega) (by simp))
 have q0:=BX.cell 0
 have q1:=BX.cell 1
 have q2:=BX.cell 2
 have q3:=BX.cell 3
 clear BR2 BS2 BG2 hb3 hbw2 HR2
 go_wp2_with fail
 refine HF.out.mono ?_
 rintro e w4 ⟨rfl,hb4⟩
 obtain ⟨H,hH⟩:∃ H,shaL (blkT 1 h0 (entH id t) 1)=H:=⟨_,rfl⟩
 have HH1:=zh (show H1 id t=H from hH)
 have hHl:H.length=32:=by rw [<-hH];exact qbh _
 rw [hH]
 have hbw4:=(hbw3.tr hb4)
 have HR4:=zh (eLed.ext HR3.out hb4)
 have BR4:=BR3.ext hb4
 have BS4:=BS3.ext hb4
 have BG4:=BG3.ext hb4
 have BX4:=BX.ext hb4
 clear HF q0 q1 q2 q3 hH HR3 BR3 BS3 BG3 BX hb4 hbw3
 have hDl:=qbg ((1:Nat):Int) H hHl
 have hsz9:=qiw ((1:Nat):Int) H hHl
 have hone:=qix ((1:Nat):Int) H
 obtain ⟨DC,hDC⟩:∃ D,D=digC ((1:Nat):Int) H:=⟨_,rfl⟩
 have HDC:=zh hDC
 rw [<-hDC] at hDl hsz9 hone ⊢
 clear hDC
 obtain ⟨Wq,hWq⟩:∃ W',W'=w4.alloc (.cells (digC 0 h0).toArray 78):=⟨_,rfl⟩
 have hbq:Below w4.heap.size w4 Wq:=by rw [hWq];exact (zb _ _).alloc (zl _) _
 have BQ0:Blk Wq w4.heap.size 78 (digC 0 h0).toArray:=by rw [hWq];exact Blk.new _ _ _
 have hthq:=Blk.there (o:=0) (n:=33) BQ0 (by rw [qbg _ _ qaf];omega)
 obtain ⟨BQ,hgq⟩:=Blk.lay DC 0 BQ0 (by rw [hDl,qbg _ _ qaf];omega)
 rw [qai _ _ (by rw [hDl,qbg _ _ qaf])] at BQ
 have hbq5:=(hbq.gw hgq)
 have HWq:=zh hWq
 clear hWq
 go_upto_region 5 with ((with_reducible refine sS 7 ?_);(rw [<-HWq.out]);(refine wpList_store_mid rfl 78 _ _ rfl w4.heap.size 0 DC.toArray rfl rfl ?h1 ?h2 (all_oneCell_toArray hone) ?_))
 case h1=>exact (show DC.toArray.size=33 by simp [hDl]) ▸ hthq
 case h2=>exact (show DC.toArray.size=DC.length by simp) ▸ hsz9
 obtain ⟨gq,hgq'⟩:∃ g,w4.heap.size=g:=⟨_,rfl⟩
 clear hthq hgq hbq BQ0
 have hbw5:=(hbw4.tr hbq5)
 have HR5:=zh (eLed.ext HR4.out hbq5)
 have BR5:=BR4.ext hbq5
 have BS5:=BS4.ext hbq5
 have BG5:=BG4.ext hbq5
 have BX5:=BX4.ext hbq5
 have HH5:=zh (HH.out.ext hbw5)
 have HG5:=zh (show eState.rel _ (fun b=>Off s lg d gs gn b/\b≠gr) _ _ from qel (eDB.mono (eDB.ext (qhu HD.out) hbw5) (fun b h=>⟨h.1,by have:=h.2;omega⟩)) (eLed.mono HR5.out (fun b (h:W.heap.size<=b)=>⟨Off.of_lo HO.out (Nat.le_trans hWs h),by omega⟩)))
 rw [hgq'] at BQ hbw5 HR5 BR5 BS5 BG5 BX5 HH5 HG5 ⊢
 generalize Wq.setCells gq 0 DC=w5 at *
 clear hgq' HWq HR4 BR4 BS4 BG4 BX4 hbw4 hbq5
 have D:=fun w' (h:Below w5.heap.size w5.drew w')=>show (w'.cell? ⟨gx,0,none⟩=some (.int .i64 nx)/\w'.cell? ⟨gx,1,none⟩=some (.slice X i1 j1)/\w'.cell? ⟨gx,2,none⟩=some (.slice X2 i2 j2)/\w'.cell? ⟨gx,3,none⟩=some (.slice X3 i3 j3))/\w'.cell? ⟨g,0,none⟩=some (.slice E n c1)/\w'.cell? ⟨g,1,none⟩=some (.slice E2 n2 c2)/\w'.cell? ⟨g,2,none⟩=some (.slice E3 n3 c3)/\w'.cell? ⟨g,3,none⟩=some (.slice E4 n4 c4) from by
  have b1:=BX5.ext ((zb _ _).drew.trans h)
  have b3:=BG5.ext ((zb _ _).drew.trans h)
  exact ⟨⟨b1.cell 0,b1.cell 1,b1.cell 2,b1.cell 3⟩,b3.cell 0,b3.cell 1,b3.cell 2,b3.cell 3⟩
 refine r3 (S:=fun w'=>Below w5.heap.size w5.drew w') [(0,true),(1,true),(3,true),(4,true),(5,true),(6,true),(7,true),(8,true),(2,false)] [(9,false),(10,true)] (zb _ _) ?_
 ((first|refine pT ?_|refine pF ?_);try go_frame)
 refine qas rfl rfl (qae rfl) (fun w' hS=>qba 78 (.tmp 7) rfl gq 0 rfl DC _ (Blk.whole (BQ.ext ((zb _ _).drew.trans hS))) Tryz.underlying78 rfl hsz9) ?_
 go_frame
 iterate 5 (((first|refine pT ?_|refine pF ?_);try go_frame))
 refine qas rfl rfl (qae rfl) (fun w' hS=>qce (ps:=[(0,.agg #[.slice E n c1,.slice E2 n2 c2,.slice E3 n3 c3,.slice E4 n4 c4]),(1,.agg #[.int .i64 nx,.slice X i1 j1,.slice X2 i2 j2,.slice X3 i3 j3])]) 149 _ rfl qee rfl (qfa _ _ _ _ _ _ _ _)) ?_
 go_frame
 clear D
 have hd0:=(zb w5.heap.size w5).drew
 have HT:=zh (blkrec_ (w:=w5.drew) (n:=1) hHl (by omega))
 rw [<-HDC.out] at HT
 refine pD fun K hK=>?_;go_simp
 refine HT.out.mono ?_
 rintro e w7 ⟨A7,c7,rfl,ho7,hb7⟩
 have hml:(blkB 1 H).length=41:=by simp [blkB,le,hHl]
 obtain ⟨R,hR⟩:∃ R,blkB 1 H=R:=⟨_,rfl⟩
 have HRR:=zh hR
 rw [hR] at ho7 hml ⊢
 have HM8:=zh hml
 have HO7:=zh (show Ob w7 w5.drew.heap.size A7 c7 R from ho7)
 rw [hml]
 refine hK.out _ _ hb7 ?_
 clear hK K HT ho7 hR hml
 refine qak ?_
 have hb67:=hd0.trans hb7
 have HA:=zh (qie (L:=(nx,[((id:Int),[t])],[],[])) (M:=(nx,[],[blk1 id t],[[((id:Int),[t])]])) (HH5.out.ext hb67) (eState.mono (eState.ext HG5.out hb67) (fun b h=>h.1)) (HO7.out.byN HM8.out) (by omega) (by omega) hfit hct)
 refine pD fun K hK=>?_;go_simp
 refine HA.out.mono ?_
 rintro e w8 ⟨rfl,hSt,hfr,g9,BS9,BG9,hg9l⟩
 refine hK.out _ _ trivial ?_
 clear hK K HA
 repeat ((first|refine pT ?_|refine pF ?_);try go_frame)
 refine qad ?_
 have BR7:=BR5.ext hb67
 have hbw7:=(hbw5.tr hb67)
 have BR8:=hfr.blk BR7 (fun h=>by have:=HO.out gr h;omega)
 have hfr8:=(Frm.below (G:=On s lg d gs gn) hbw7).trans hfr
 have HSt:=zh hSt
 have HG8:=zh (eState.keep (eState.ext HG5.out hb67) (hfr.keep (fun b h _=>h.1.not_on)))
 have hg9w:gr<g9:=by have:=BR7.lt;omega
 have hg9o:Off s lg d gs gn g9:=Off.of_lo HO.out (by omega)
 have hw8:w.heap.size<=w8.heap.size:=hfr8.size
 clear hb67 hb7 hfr BR7 hbw7 BR5 BS5 BG5 BX5 HH5 HG5 HR5 hbw5 hd0 BQ hSt hg9l
 have HL9:Hid (eLed.rel w8 (fun b=>Off s lg d gs gn b/\b≠gr) [.int .i64 nx,.slice X i1 j1,.slice X2 i2 j2,.slice X3 i3 j3] (nx,[],[blk1 id t],[[((id:Int),[t])]])):=zh (by
  obtain ⟨_,_,_,_,_,_,_,_,_,_,_,_,_,_,_,_,_,_,_,_,_,e,_,hl⟩:=qdd HG8.out
  simp only [List.cons.injEq,Value.slice.injEq,and_true] at e
  obtain ⟨-,-,-,-,-,⟨rfl,rfl,rfl⟩,⟨rfl,rfl,rfl⟩,⟨rfl,rfl,rfl⟩⟩:=e
  exact hl)
 have HP:=zh (qhr BS9 BG9 rfl)
 go_wp2_with fail
 refine HP.out.mono ?_
 rintro e w' ⟨rfl,rfl⟩
 have HF:=zh (ldig_ (bs:=[]) (n:=1) (c:=1) (p:=h0) (r:=entH id t) HL9.out rfl (by omega) (by omega) (by simp))
 have q4:=BG9.cell 4
 have q5:=BG9.cell 5
 have q6:=BG9.cell 6
 have q7:=BG9.cell 7
 go_wp2_with fail
 refine HF.out.mono ?_
 rintro e w9 ⟨rfl,hb9⟩
 rw [show shaL (blkT 1 h0 (entH id t) 1)=H from HH1.out,<-HDC.out]
 have BR9:=BR8.ext hb9
 have hSt9:=zh (HSt.out.ext hb9)
 have hfr9:=hfr8.trans (Frm.below hb9)
 have BS10:=BS9.ext hb9
 have BG10:=BG9.ext hb9
 have HG9:=zh (eState.ext HG8.out hb9)
 clear q4 q5 q6 q7 HF HP BS9 BG9 HL9 HSt hfr8 BR8 HG8
 have hth9:=Blk.there (o:=0) (n:=33) BR9 (by rw [qbg _ _ qaf];omega)
 obtain ⟨B9,hg9⟩:=Blk.lay DC 0 BR9 (by rw [hDl,qbg _ _ qaf];omega)
 rw [qai _ _ (by rw [hDl,qbg _ _ qaf])] at B9
 have hfr10:=(hfr9.mono (H:=fun b=>On s lg d gs gn b\/w.heap.size<=b) (fun b h=>.inl h)).trans (Frm.grown hg9 (fun k hk=>by injection hk with hk;exact .inr (by omega))) |>.mono' (H:=On s lg d gs gn) (fun k hk h=>h.elim (fun h=>h) (fun h=>by omega))
 have hk10:Keep (fun b=>b≠gr) w9 (w9.setCells gr 0 DC):=Keep.grown hg9 (fun k hk h=>by injection hk with hk;exact h hk.symm)
 have hne:∀ k,On s lg d gs gn k->k≠gr:=fun k hk=>by have:=HO.out k hk;omega
 obtain ⟨l9,hd9,hl9⟩:=hSt9.out.dk
 have hSt10:Sto (w9.setCells gr 0 DC) s lg d gs gn np (rs++[R]) x (nx,[],[blk1 id t],[[((id:Int),[t])]]):=⟨⟨l9,hd9.keep hk10 (hne d (.inl rfl)) (hne gs (.inr (.inl rfl))) (hne gn (.inr (.inr (.inl rfl)))),hl9⟩,⟨Blk.keep hSt9.out.lgb.blk hk10 (hne lg (.inr (.inr (.inr (.inl rfl)))))⟩,⟨g9,_,Blk.keep BS10 hk10 (hne s (.inr (.inr (.inr (.inr rfl))))),Blk.keep BG10 hk10 (Nat.ne_of_gt hg9w),eState.mono (eState.keep HG9.out (hk10.mono (fun b h=>h.2))) (fun b h=>h.1),hg9o⟩,hSt9.out.ne⟩
 have HE:=zh (za hSt10 hfr10)
 clear hSt10 hfr10 hk10 hd9 hg9 BR9 BS10 BG10 hSt9 HG9 hfr9
 go_wp2_with ((with_reducible refine sS 2 ?_);(refine wpList_store_mid rfl 78 _ _ rfl gr 0 DC.toArray rfl rfl ?h1' ?h2' (all_oneCell_toArray hone) ?_))
 case h1'=>exact (show DC.toArray.size=33 by simp [hDl]) ▸ hth9
 case h2'=>exact (show DC.toArray.size=DC.length by simp) ▸ hsz9
 clear hth9
 generalize w9.setCells gr 0 DC=w10 at *
 go_wp2
 exact bodyPost_ret (v:=.tuple #[.agg DC.toArray,.int .i64 0]) (qbe rfl _ _ gr _ _ (0,0) _ rfl B9 Tryz.underlying78 rfl (by rw [List.size_toArray];exact hsz9) rfl) rfl ⟨by rw [HDC.out,HH1.out];rfl,by rw [HH1.out,HRR.out];exact HE.out⟩
theorem scommit_ {s lg d:Nat} {ses s':Int} {t:Chg} {marks:List Mrk} (h:Sto w s lg d gs gn np rs x ((id:Int),[],[],[]))
  (hok:okDB x) (hse:qex x) (hs:-1000<=ses/\ses<=1000) (hmw:Mono (cmpW ses) x.2.1) (his:isG (cmpW ses) x.2.1=true) (hw:x.2.1[posG (cmpW ses) x.2.1]? = some (s',[t],marks)) (hok2:okDB (endD x ses))
  (hokc:OkC t) (hokt:okTx ((id:Int),[t])) (hid:id<1000000) (hm2:(txB id t).length<=65536) (hfit:64+(recs rs).length+(8+(txB id t).length)<=np * 64) (hct:rs.length<=900000) :
  Calls Tryz.prog 18 #[.pointer (some ⟨s,0,none⟩),.int .i64 ses] w fun e w'=>e=.returned (.tuple #[.int .i64 (id:Int),.int .i64 0])/\Sto w' s lg d gs gn np (rs++[txB id t]) (endD x ses) (((id+1:Nat):Int),[((id:Int),[t])],[],[])/\Frm (On s lg d gs gn) w w':=by
 have HH:=zh h
 have HCM:=zh (fun (w':World) (F:qab) (cs:List Value) (h1:eDB.rel w' F cs x)=>commit_ h1 hok hse hs hmw his hw hok2)
 have HOK:=zh (za hokc hokt)
 have HM:=zh (za hm2 hfit)
 obtain ⟨y,hy⟩:∃ y,endD x ses=y:=⟨_,rfl⟩
 rw [hy] at HCM ⊢
 obtain ⟨g,cg,BS,BG,hst,hoff⟩:=h.st
 obtain ⟨E,n,c1,E2,n2,c2,E3,n3,c3,E4,n4,c4,B,m5,k,B2,m6,k2,B3,m7,k3,rfl,hd,hl⟩:=qdd hst
 have HL:=zh hl
 have HD:=zh hd
 have hOn:∀ k,On s lg d gs gn k->k<w.heap.size:=fun k hk=>h.lt hk
 have HO:=zh hOn
 clear h hst hd hl hOn hok hse hs hmw his hw hok2 hokc hokt hm2 hfit hy
 go_enter Tryz.func18,Tryz.ntmps18
 have HP:=zh (qhr BS BG rfl)
 go_wp2_with fail
 refine HP.out.mono ?_
 rintro e w' ⟨rfl,rfl⟩
 have HF:=zh (HCM.out w _ _ HD.out)
 have q0:=BG.cell 0
 have q1:=BG.cell 1
 have q2:=BG.cell 2
 have q3:=BG.cell 3
 go_wp2_with fail
 refine HF.out.mono ?_
 rintro e w2 ⟨cz,A,c,rfl,hr2,hl2,hb2⟩
 obtain ⟨X1,i1,j1,X2,i2,j2,X3,i3,j3,X4,i4,j4,rfl,_,_,_,_⟩:=qav hr2
 have HR2:=zh hr2
 have HS2:=zh hl2
 have BS2:=BS.ext hb2
 have BG2:=BG.ext hb2
 clear q0 q1 q2 q3 HF HP HCM hr2 hl2 BS BG
 simp only [List.length_singleton] at HS2 ⊢
 go_upto_region 8 with fail
 obtain ⟨W3,hW_,hb3,BD⟩:=al1 w2 31 #[.slice X1 i1 j1,.slice X2 i2 j2,.slice X3 i3 j3,.slice X4 i4 j4]
 rw [<-hW_]
 clear hW_
 obtain ⟨gd,hgd⟩:∃ g,w2.heap.size=g:=⟨_,rfl⟩
 rw [hgd] at BD ⊢
 clear hgd
 have hb23:=(hb2.tr hb3)
 have BS3:=BS2.ext hb3
 have BG3:=BG2.ext hb3
 have HF:=zh (ladd_ (eLed.ext HL.out hb23) (HS2.out.ext hb3) HOK.out.2 hid)
 have q4:=BG3.cell 4
 have q5:=BG3.cell 5
 have q6:=BG3.cell 6
 have q7:=BG3.cell 7
 go_wp2_with fail
 refine HF.out.mono ?_
 rintro e w4 ⟨ds,ts,rfl,hr4,ht4,hb4⟩
 obtain ⟨Y1,e1,f1,Y2,e2,f2,Y3,e3,f3,rfl,hY1,_,_⟩:=qei hr4
 obtain ⟨Z1,z1,z2,rfl,_⟩:=qfd ht4
 have he1:e1=1:=hY1.len.symm
 subst he1
 have HR4:=zh hr4
 have HT4:=zh ht4
 have hb24:=(hb23.tr hb4)
 have BS4:=BS3.ext hb4
 have BG4:=BG3.ext hb4
 have BD4:=BD.ext hb4
 have HR2':=zh (eDB.ext HR2.out ((hb3.tr hb4)))
 have h23:=hb23.size
 clear q4 q5 q6 q7 HF hr4 ht4 hY1 BS2 BG2 BS3 BG3 BD hb2 hb3 hb4 hb23 HR2 HS2
 go_upto_region 9 with fail
 obtain ⟨W5,hW_,hb5,BL,BT⟩:=al2 w4 147 168 #[.int .i64 ((id:Int)+1),.slice Y1 1 f1,.slice Y2 e2 f2,.slice Y3 e3 f3] #[.int .i64 (id:Int),.slice Z1 z1 z2]
 rw [<-hW_]
 clear hW_
 obtain ⟨gl,hgl⟩:∃ g,w4.heap.size=g:=⟨_,rfl⟩
 obtain ⟨gt,hgt⟩:∃ g,w4.heap.size+1=g:=⟨_,rfl⟩
 have hgtw:w.heap.size<=gt:=by have:=hb24.size;omega
 rw [hgt] at BT ⊢
 rw [hgl] at BL ⊢
 clear hgl hgt
 have hbw5:=(hb24.tr hb5)
 have HR5:=zh (eLed.mono (eLed.ext HR4.out hb5) (G:=fun b=>w.heap.size<=b) (fun b (h:W3.heap.size<=b)=>Nat.le_trans h23 h))
 have HT5:=zh (eTx.ext HT4.out hb5)
 have HD5:=zh (eDB.ext HR2'.out hb5)
 have HH5:=zh (HH.out.ext hbw5)
 have BD5:=BD4.ext hb5
 clear HR4 HT4 HR2' BS4 BG4 BD4 hb5 hb24 HD HL HH
 have D:=fun w' (h:Below W5.heap.size W5.drew w')=>show (w'.cell? ⟨gd,0,none⟩=some (.slice X1 i1 j1)/\w'.cell? ⟨gd,1,none⟩=some (.slice X2 i2 j2)/\w'.cell? ⟨gd,2,none⟩=some (.slice X3 i3 j3)/\w'.cell? ⟨gd,3,none⟩=some (.slice X4 i4 j4))/\(w'.cell? ⟨gl,0,none⟩=some (.int .i64 ((id:Int)+1))/\w'.cell? ⟨gl,1,none⟩=some (.slice Y1 1 f1)/\w'.cell? ⟨gl,2,none⟩=some (.slice Y2 e2 f2)/\w'.cell? ⟨gl,3,none⟩=some (.slice Y3 e3 f3))/\w'.cell? ⟨gt,0,none⟩=some (.int .i64 (id:Int))/\w'.cell? ⟨gt,1,none⟩=some (.slice Z1 z1 z2) from by
  have b1:=BD5.ext ((zb _ _).drew.trans h)
  have b2:=BL.ext ((zb _ _).drew.trans h)
  have b3:=BT.ext ((zb _ _).drew.trans h)
  exact ⟨⟨b1.cell 0,b1.cell 1,b1.cell 2,b1.cell 3⟩,⟨b2.cell 0,b2.cell 1,b2.cell 2,b2.cell 3⟩,b3.cell 0,b3.cell 1⟩
 refine r3 (S:=fun w'=>Below W5.heap.size W5.drew w') [(0,true),(1,true),(2,true),(4,true),(5,true),(6,true),(3,false)] [(7,false),(8,true)] (zb _ _) ?_
 iterate 5 (((first|refine pT ?_|refine pF ?_);try go_frame))
 refine qas rfl rfl (qae rfl) (fun w' hS=>qce (ps:=[(0,.agg #[.slice X1 i1 j1,.slice X2 i2 j2,.slice X3 i3 j3,.slice X4 i4 j4]),(1,.agg #[.int .i64 ((id:Int)+1),.slice Y1 1 f1,.slice Y2 e2 f2,.slice Y3 e3 f3])]) 149 _ rfl qee rfl (qfa _ _ _ _ _ _ _ _)) ?_
 go_frame
 clear D
 have hd0:=(zb W5.heap.size W5).drew
 have HF:=zh (txrec_ (nx:=.int .i64 ((id:Int)+1)) (B:=Y1) (m:=1) (d:=f1) (u:=.slice Y2 e2 f2) (v:=.slice Y3 e3 f3) (eTx.ext HT5.out hd0) HOK.out.1 (by omega) (by omega))
 refine pD fun K hK=>?_;go_simp
 refine HF.out.mono ?_
 rintro e w7 ⟨A7,c7,rfl,ho7,hb7⟩
 obtain ⟨R,hR⟩:∃ R,txB id t=R:=⟨_,rfl⟩
 have HRR:=zh hR
 rw [hR] at ho7 ⊢
 obtain ⟨m8,hm8⟩:∃ m,R.length=m:=⟨_,rfl⟩
 have HM8:=zh hm8
 have HO7:=zh (show Ob w7 W5.drew.heap.size A7 c7 R from ho7)
 rw [hm8]
 refine hK.out _ _ hb7 ?_
 clear hK K HF ho7 hR hm8
 refine qak ?_
 have hb67:=hd0.trans hb7
 have hm2:m8<=65536:=by have h:=HM.out.1;rw [HRR.out,HM8.out] at h;exact h
 have hfit:64+(recs rs).length+(8+m8)<=np * 64:=by have h:=HM.out.2;rw [HRR.out,HM8.out] at h;exact h
 have hm1:1<=m8:=by rw [<-HM8.out,<-HRR.out];simp only [txB,List.length_append,List.length_cons,List.length_nil];omega
 have HA:=zh (qie (L:=((id:Int),[],[],[])) (y:=y) (M:=(((id+1:Nat):Int),[((id:Int),[t])],[],[])) (HH5.out.ext hb67) (qel (eDB.mono (eDB.ext HD5.out hb67) (fun b (h:w.heap.size<=b)=>Off.of_lo HO.out h)) (eLed.mono (eLed.ext HR5.out hb67) (fun b h=>Off.of_lo HO.out h))) (HO7.out.byN HM8.out) hm1 hm2 hfit hct)
 refine pD fun K hK=>?_;go_simp
 refine HA.out.mono ?_
 rintro e w8 ⟨rfl,hSt,hfr,_⟩
 have BT8:=hfr.blk (BT.ext hb67) (fun h=>by have:=HO.out gt h;omega)
 have hbw7:=(hbw5.tr hb67)
 rw [<-HRR.out] at hSt
 have HE:=zh (za hSt ((Frm.below (G:=On s lg d gs gn) hbw7).trans hfr))
 refine hK.out _ _ trivial ?_
 clear hK K HA hSt hfr hb67 hb7 hbw5 hbw7 hd0 BT BL BD5 HH5 HD5 HR5 HT5
 repeat ((first|refine pT ?_|refine pF ?_);try go_frame)
 refine qad ?_
 have q0:=BT8.cell 0
 go_wp2
 go_ret2
 exact ⟨rfl,HE.out⟩
end Go.Proofs.YtdjbpcnhnkemiaaGreat.tp
namespace Go.Proofs.YtdjbpcnhnkemiaaGreat.lib
open Go.ChangeShapes Go.WideShapes Go.ChangeAt Go.RowKit Go.MapKept
def MapI (w:World) (b:Nat) (M:List (Int × Value)):Prop :=
 ∃ es clock,w.heap[b]? = some (.map es clock)/\es.toList.map (fun e=>(e.key,e.val))=M.map (fun x=>(Value.int .i64 x.1,x.2))
def qev (M:List (Int × Value)) (l:Int) (z:Value):Value × Bool:=match M.find? (fun x=>x.1 == l) with
 | some x=>(x.2,true)
 | none=>(z,false)
theorem MapI.lt {w:World} {b:Nat} {M:List (Int × Value)} (h:MapI w b M):b<w.heap.size:=by
 obtain ⟨es,clock,hb,_⟩:=h
 exact (Array.getElem?_eq_some_iff.1 hb).1
theorem MapI.new (w:World):MapI (w.alloc (.map #[] 0)) w.heap.size []:=⟨#[],0,(heap_alloc w _).1,rfl⟩
theorem MapI.same {w w':World} {b:Nat} {M:List (Int × Value)} (h:MapI w b M) (hb:w'.heap[b]? = w.heap[b]?):MapI w' b M:=by
 obtain ⟨es,clock,h1,h2⟩:=h
 exact ⟨es,clock,hb.trans h1,h2⟩
theorem MapI.ext {w w':World} {b:Nat} {M:List (Int × Value)} (h:MapI w b M) (hb:Below w.heap.size w w'):MapI w' b M:=h.same (hb.block b h.lt)
theorem MapI.grown {w w':World} {row:Option Nat} {b:Nat} {M:List (Int × Value)} (h:MapI w b M) (hg:w.grownBy w' row) (hr:some b≠row):MapI w' b M:=h.same (hg.block b h.lt hr)
theorem qhb (l:Int):∀ (M:List (Int × Value)) (es:List MapEntry) (i:Nat),es.map (fun e=>(e.key,e.val))=M.map (fun x=>(Value.int .i64 x.1,x.2)) ->
  (M.find? (fun x=>x.1 == l)=none/\Instr.findNow (.int .i64) (.int .i64 l) es i=some none) \/
  ∃ x j,M.find? (fun x=>x.1 == l)=some x/\Instr.findNow (.int .i64) (.int .i64 l) es i=some (some (j,x.2))
 | [],[],i,_=>.inl ⟨rfl,rfl⟩
 | [],_::_,i,h=>by cases h
 | _::_,[],i,h=>by cases h
 | x::M,e::es,i,h=>by
  simp only [List.map_cons,List.cons.injEq,Prod.mk.injEq] at h
  obtain ⟨⟨h1,h2⟩,h3⟩:=h
  obtain ⟨r,hr,hiff⟩:=sameNow_of_keys (d:=.int .i64) (a:=.int .i64 l) (b:=e.key) rfl (by rw [h1];exact rfl)
  by_cases hx:x.1=l
  ·refine .inr ⟨x,i,by simp [hx],?_⟩
   obtain rfl:r=true:=hiff.2 (by rw [h1,hx])
   simp [Instr.findNow,hr,h2]
  ·have hb:r=false:=by
    cases r with
    | false=>rfl
    | true =>
     have:=hiff.1 rfl
     rw [h1] at this
     injection this with _ this
     exact absurd this.symm hx
   subst hb
   have hf:(x::M).find? (fun x=>x.1 == l)=M.find? (fun x=>x.1 == l):=by
    rw [List.find?_cons_of_neg (by simpa using hx)]
   rw [hf]
   have hn:Instr.findNow (.int .i64) (.int .i64 l) (e::es) i=Instr.findNow (.int .i64) (.int .i64 l) es (i+1):=by
    simp [Instr.findNow,hr]
   rw [hn]
   exact qhb l M es (i+1) h3
section
variable {P:Program} {w:World} {ops:Array Oper} {rest:List Oper} {o:Oper} {a:Act} {Q:Exit->Act->World->Prop}
theorem look_int (c:Bool) {t k e:TypeId} (ht:P.underlying t=some (.map k e)) (hk:P.underlying k=some (.int .i64)) {z:Value} (hz:(zeroValue e).run P w=.ok z w) {b:Nat} {M:List (Int × Value)} (h:MapI w b M) (l:Int) :
  (Instr.lookup t (.map (some b)) (.int .i64 l) c).run P w=.ok (if c then .tuple #[(qev M l z).1,.bool (qev M l z).2] else (qev M l z).1) w:=by
 obtain ⟨es,clock,hb,he⟩:=h
 have hik:IsKey (.int .i64) (.int .i64 l):=rfl
 rcases qhb l M es.toList 0 he with ⟨h1,h2⟩|⟨x,j,h1,h2⟩
 ·simp [Instr.lookup,run_underlying ht,MapKept.run_getObj_map hb,run_checkKey hk hik,run_findKey hk h2,hz,Result.andThen,qev,h1]
 ·simp [Instr.lookup,run_underlying ht,MapKept.run_getObj_map hb,run_checkKey hk hik,run_findKey hk h2,Result.andThen,qev,h1]
theorem put_int {t k e:TypeId} (ht:P.underlying t=some (.map k e)) (hk:P.underlying k=some (.int .i64)) {b:Nat} {M:List (Int × Value)} (h:MapI w b M) (l:Int) (v:Value) (hn:M.find? (fun x=>x.1 == l)=none) :
  ∃ w',(Instr.mapUpdate t (.map (some b)) (.int .i64 l) v).run P w=.ok () w'/\MapI w' b (M++[(l,v)])/\w.grownBy w' (some b):=by
 obtain ⟨es,clock,hb,he⟩:=h
 have hik:IsKey (.int .i64) (.int .i64 l):=rfl
 rcases qhb l M es.toList 0 he with ⟨h1,h2⟩|⟨x,j,h1,h2⟩
 ·refine ⟨{ w with heap:=w.heap.setIfInBounds b (.map (es.push { key:=.int .i64 l,val:=v,born:=clock }) (clock+1)) },by simp [Instr.mapUpdate,run_underlying ht,MapKept.run_getObj_map hb,run_checkKey hk hik,run_findKey hk h2,MapKept.run_setObj_map _ hb,Result.andThen],⟨_,_,(heap_set hb).1,?_⟩,⟨rfl,rfl,rfl,by simp,fun i _ hi=>(heap_set hb).2 i (fun e=>hi (by rw [e]))⟩⟩
  simp [he]
 ·rw [hn] at h1;cases h1
theorem qpo {K:Act->World->Prop} (m x:Operand) (t:TypeId) (c:Bool) (hop:o.op=Op.lookup t m x c) (k e:TypeId) (ht:P.underlying t=some (.map k e)) (hk:P.underlying k=some (.int .i64)) (z:Value) (hz:∀ w,(zeroValue e).run P w=.ok z w)
  (b:Nat) (M:List (Int × Value)) (hm:a.eval m=.map (some b)) (h:MapI w b M) (l:Int) (hx:a.eval x=.int .i64 l)
  (hK:K (a.put o.dst (if c then .tuple #[(qev M l z).1,.bool (qev M l z).2] else (qev M l z).1)) w):o.wp P a w K Q:=by
 unfold Oper.wp
 simp [execOp,hop,hm,hx,look_int c ht hk (hz w) h l,Result.andThen]
 exact hK
theorem qpy {K:Act->World->Prop} (m x y:Operand) (t:TypeId) (hop:o.op=Op.mapUpdate t m x y) (k e:TypeId) (ht:P.underlying t=some (.map k e)) (hk:P.underlying k=some (.int .i64))
  (b:Nat) (M:List (Int × Value)) (hm:a.eval m=.map (some b)) (h:MapI w b M) (l:Int) (v:Value) (hx:a.eval x=.int .i64 l) (hy:a.eval y=v) (hn:M.find? (fun x=>x.1 == l)=none)
  (hK:∀ w',MapI w' b (M++[(l,v)])->w.grownBy w' (some b)->K (a.put o.dst undef) w'):o.wp P a w K Q:=by
 obtain ⟨w',hrun,h1,h2⟩:=put_int ht hk h l v hn
 unfold Oper.wp
 simp [execOp,hop,hm,hx,hy,hrun,Result.andThen]
 exact hK w' h1 h2
theorem qgv {K:Act->World->Prop} (dd:Tmp) (hd:o.dst=some dd) (m x:Operand) (t:TypeId) (c:Bool) (hop:o.op=Op.lookup t m x c) (k e:TypeId) (ht:P.underlying t=some (.map k e)) (hk:P.underlying k=some (.int .i64)) (z:Value) (hz:∀ w,(zeroValue e).run P w=.ok z w)
  (b:Nat) (M:List (Int × Value)) (hm:a.eval m=.map (some b)) (h:MapI w b M) (l:Int) (hx:a.eval x=.int .i64 l) (v:Value) (hv:(if c then .tuple #[(qev M l z).1,.bool (qev M l z).2] else (qev M l z).1)=v)
  (hK:K { a with tmps:=a.tmps.setIfInBounds dd v } w):o.wp P a w K Q:=by
 refine qpo m x t c hop k e ht hk z hz b M hm h l hx ?_
 rw [hd,hv]
 exact hK
theorem qor {K:Act->World->Prop} (hd:o.dst=none) (m x y:Operand) (t:TypeId) (hop:o.op=Op.mapUpdate t m x y) (k e:TypeId) (ht:P.underlying t=some (.map k e)) (hk:P.underlying k=some (.int .i64))
  (b:Nat) (M:List (Int × Value)) (hm:a.eval m=.map (some b)) (h:MapI w b M) (l:Int) (v:Value) (hx:a.eval x=.int .i64 l) (hy:a.eval y=v) (hn:M.find? (fun x=>x.1 == l)=none)
  (hK:∀ w',MapI w' b (M++[(l,v)])->w.grownBy w' (some b)->K a w'):o.wp P a w K Q:=by
 refine qpy m x y t hop k e ht hk b M hm h l v hx hy hn ?_
 rw [hd]
 exact hK
end
end Go.Proofs.YtdjbpcnhnkemiaaGreat.lib
namespace Go.Proofs.YtdjbpcnhnkemiaaGreat.tp
open Go.ChangeShapes Go.WideShapes Go.ChangeAt Go.RowKit Go.Proofs.YtdjbpcnhnkemiaaGreat.lib
variable {w w':World}
variable {n c g B b off i j k m n2 n3 c2 c3 c4 c5 c6 gs gn np lo gr gd id b2 off2:Nat}
variable {A A2 A3 A4 A5 A6:Option Addr}
variable {cs:List Value}
variable {l r:List UInt8}
variable {rs:List (List UInt8)}
variable {s o e:Int}
variable {nm:ByteArray}
variable {F G:qab}
variable {x:DBd}
theorem u8_:Tryz.prog.underlying 5=some (.int .u8):=by kernel_rfl
theorem qoz (H:List UInt8) (w:World) (d:Nat):∀ is:List Nat,(∀ i∈is,i<H.length)->(Op.eqItems (d+1) 5 1 (qaa H).toArray (qaa H).toArray is).run Tryz.prog w=.ok true w
 | [],_=>rfl
 | i::is,h=>by
  have hi:=h i (List.mem_cons_self ..)
  have hx:(qaa H).toArray[i * 1]? = some (.int .u8 ((H[i]).toNat:Int)):=by simp [qaa,hi]
  have hp:=run_part_plain (P:=Tryz.prog) w (e:=5) (by kernel_rfl) hx
  have he:(Op.equalIn (d+1) 5 (.int .u8 ((H[i]).toNat:Int)) (.int .u8 ((H[i]).toNat:Int))).run Tryz.prog w=.ok true w:=by
   rw [run_equalIn_int w d _ .u8 .u8 _ _ u8_]
   simp
  simp only [Op.eqItems,Sem.run_bind,hp,Result.andThen_ok,he]
  simpa using qoz H w d is (fun j hj=>h j (List.mem_cons_of_mem _ hj))
theorem eq_hash (H:List UInt8) (hl:H.length=32) (w:World):(Op.equalIn 10000 76 (.agg (qaa H).toArray) (.agg (qaa H).toArray)).run Tryz.prog w=.ok true w:=by
 obtain ⟨i0,hi⟩:∃ i,Tryz.prog.info? 5=some i:=Option.isSome_iff_exists.1 (by kernel_rfl)
 rw [show (10000:Nat)=9999+1 from rfl,run_equalIn_array w 9999 (t:=76) (e:=5) (n:=32) _ _ Tryz.underlying76 hi,show Tryz.prog.cellsOf 5=1 by kernel_rfl]
 exact qoz H w 9998 _ (fun i h=>by rw [hl];exact List.mem_range.1 h)
theorem qga {o:Oper} {a:Act} (x y:Operand) {z:TypeId} (ho:o.op=.binOp .eql 76 x y z) (H:List UInt8) (hl:H.length=32) (hx:a.eval x=.agg (qaa H).toArray) (hy:a.eval y=.agg (qaa H).toArray):
  (execOp a.eval o).run Tryz.prog w=.ok (.value (.bool true)) w:=by
 unfold execOp
 simp only [ho,hx,hy,Sem.run_bind,run_eqGuard_agg w .eql 76 x y _ _ (show Tryz.prog.eqGuardType Tryz.prog.depth 76=false by kernel_rfl),Result.andThen_ok,run_eql_struct,eq_hash H hl w]
 rfl
theorem qbd {a b c:World} {g:Option Nat} (h:a.grownBy b g) (k:b.grownBy c (some n)) (hn:a.heap.size<=n):a.grownBy c g :=
 ⟨k.os.trans h.os,k.tape.trans h.tape,k.output.trans h.output,Nat.le_trans h.size k.size,fun j hj hne=>(k.block j (Nat.lt_of_lt_of_le hj h.size) (fun e=>by injection e with e;omega)).trans (h.block j hj hne)⟩
theorem Below.grown_by {a b:World} {g:Option Nat} (h:Below a.heap.size a b):a.grownBy b g:=qbr (qby a g) h
theorem Rd.bound {r:Nat} (h:Rd F w r l):Rd (fun b=>F b/\b<w.heap.size) w r l:=by
 obtain ⟨A,c,h1,h2,h3,h4⟩:=h
 exact ⟨A,c,h1,h2.bound,⟨h3,h1.lt⟩,h4⟩
theorem Rd.mono {r:Nat} (h:Rd F w r l) (k:∀ b,F b->G b):Rd G w r l:=by
 obtain ⟨A,c,h1,h2,h3,h4⟩:=h
 exact ⟨A,c,h1,h2.mono k,k _ h3,h4⟩
theorem rvalue_ {r:Nat} {rest:List UInt8} (N:Nat) (h:Rd F w r (b8 2::(le 8 N++rest))) (hN:N<9223372036854775808) (hl:rest.length<=200000):
  Calls Tryz.prog 240 #[.agg #[.pointer (some ⟨r,0,none⟩)]] w fun e w'=>e=.returned (.agg #[.int .i64 2,.int .i64 (N:Int),.string ⟨#[]⟩])/\Rd F w' r rest/\w.grownBy w' (some r):=by
 have hrl:=h.lt
 have HR:=zh h.bound
 clear h
 go_enter Tryz.func240,Tryz.ntmps240
 go_upto_region 1 with fail
 obtain ⟨W,hW_,hb1,B1,BR⟩:=al2 w 383 70 #[.pointer (some ⟨r,0,none⟩)] #[.int .i64 0,.int .i64 0,.string ⟨#[]⟩]
 rw [<-hW_]
 clear hW_
 obtain ⟨g1,hg1⟩:∃ g,w.heap.size=g:=⟨_,rfl⟩
 obtain ⟨gr,hgr⟩:∃ g,w.heap.size+1=g:=⟨_,rfl⟩
 have hg1w:w.heap.size<=g1:=by omega
 have hgrw:w.heap.size<=gr:=by omega
 rw [hgr] at BR ⊢
 rw [hg1] at B1 ⊢
 clear hgr hg1
 have HF:=zh (qcy (b8 2) (HR.out.ext hb1) (by simp [le];omega))
 have q:=B1.cell 0
 go_wp2_with fail
 refine HF.out.mono ?_
 rintro e w2 ⟨rfl,hR2,hgr2⟩
 rw [show ((b8 2).toNat:Int)=2 from rfl]
 have HR2:=zh hR2
 have B12:=B1.grown hgr2 (by intro e;injection e with e;omega)
 have BR2:=BR.grown hgr2 (by intro e;injection e with e;omega)
 have hG2:=qah (Below.grown_by (g:=some r) hb1) hgr2
 clear HF q hR2 hgr2 hb1 B1 BR
 go_upto_region 8 with fail
 obtain ⟨W3,hW_,hb3,BV⟩:=al1 w2 70 #[.int .i64 2,.int .i64 0,.string ⟨#[]⟩]
 rw [<-hW_]
 clear hW_
 obtain ⟨gv,hgv⟩:∃ g,w2.heap.size=g:=⟨_,rfl⟩
 have hgvw:w.heap.size<=gv:=by have:=hG2.size;omega
 rw [hgv] at BV ⊢
 clear hgv
 have B13:=B12.ext hb3
 have BR3:=BR2.ext hb3
 have hG3:=qbr hG2 hb3
 have HF:=zh (qim N (HR2.out.ext hb3) hN (by omega))
 have hne:gv≠gr:=by have:=BR2.lt;have:=BV;intro e;rw [e] at BV;have h2:=BV.symm.trans BR3;injection h2 with h2;injection h2 with h2;simp at h2
 have q:=B13.cell 0
 clear B12 BR2 hG2 hb3
 go_wp2_with fail
 refine HF.out.mono ?_
 rintro e w4 ⟨rfl,hR4,hgr4⟩
 have HR4:=zh hR4
 have BV4:=BV.grown hgr4 (by intro e;injection e with e;omega)
 have BR4:=BR3.grown hgr4 (by intro e;injection e with e;omega)
 have hG4:=qah hG3 hgr4
 clear HF q hR4 hgr4 hG3 B13 BV BR3
 have p:=BV4.three (zb _ _)
 have fp:=BV4.free3
 have pr:=BR4.three (zb _ _)
 have fr:=BR4.free3
 go_wp2
 have BR5:Blk _ gr 70 #[.int .i64 2,.int .i64 (N:Int),.string ⟨#[]⟩]:=(((BR4.far (p:=⟨gv,1,none⟩) (Ne.symm hne) (.int .i64 (N:Int))).set_ 0 (.int .i64 2)).set_ 1 (.int .i64 (N:Int))).set_ 2 (.string ⟨#[]⟩)
 have hg5:=qbd (qbd (qbd (qbd hG4 (qac w4 gv 1 (.int .i64 (N:Int))) hgvw) (qac _ gr 0 (.int .i64 2)) hgrw) (qac _ gr 1 (.int .i64 (N:Int))) hgrw) (qac _ gr 2 (.string ⟨#[]⟩)) hgrw
 have hk5:Keep (fun b=>F b/\b<w.heap.size) w4 _:=(((Keep.set w4 ⟨gv,1,none⟩ (.int .i64 (N:Int)) (fun h=>by have h:=h.2;simp only at h;omega)).trans (Keep.set _ ⟨gr,0,none⟩ (.int .i64 2) (fun h=>by have h:=h.2;simp only at h;omega))).trans (Keep.set _ ⟨gr,1,none⟩ (.int .i64 (N:Int)) (fun h=>by have h:=h.2;simp only at h;omega))).trans (Keep.set _ ⟨gr,2,none⟩ (.string ⟨#[]⟩) (fun h=>by have h:=h.2;simp only at h;omega))
 exact bodyPost_ret (v:=.agg #[.int .i64 2,.int .i64 (N:Int),.string ⟨#[]⟩]) (results_cell_row rfl _ _ gr _ _ (0,0) _ rfl BR5 Tryz.underlying70 rfl (by kernel_rfl)) rfl ⟨rfl,(HR4.out.keep hk5).mono (fun b h=>h.1),hg5⟩
def numV (N:Nat):Val:=(2,(N:Int),⟨#[]⟩)
theorem qip (N:Nat):rowB [numV N]=b8 1::b8 2::(le 8 N++[]):=by simp [rowB,valB,numV]
theorem qnx (w:World) (F:qab) (N:Nat):eVal.rel w F [.int .i64 2,.int .i64 (N:Int),.string ⟨#[]⟩] (numV N):=⟨[_],_,rfl,rfl,[_],[_],rfl,rfl,rfl⟩
theorem rparse1_ {N:Nat} (h:By w A n c (rowB [numV N])) (hN:N<9223372036854775808):
  Calls Tryz.prog 218 #[.slice A n c] w fun e w'=>∃ A' c',e=.returned (.tuple #[.slice A' 1 c',.int .i64 0])/\Sl eVal w' (fun b=>w.heap.size<=b) A' 1 c' [numV N]/\Below w.heap.size w w':=by
 rw [qip] at h
 have hn:n=10:=by rw [<-h.2];simp [le]
 subst hn
 have HN:=zh (qil _ _ _ _ _ h (by omega))
 obtain ⟨i0,hi0,hy0,hy1,hy2⟩:=ip Tryz.prog 70 (.agg #[.int .i64 0,.int .i64 0,.string ⟨#[]⟩]) 3 32
 clear h
 go_enter Tryz.func218,Tryz.ntmps218
 go_wp2_with fail
 refine HN.out.mono ?_
 rintro e w1 ⟨r,rfl,hR,hrw,hb1⟩
 have HR:=zh (hR.mono (G:=fun b=>w.heap.size<=b/\b<w1.heap.size) (fun b h=>h))
 clear HN hR
 go_upto_region 3 with fail
 obtain ⟨W,hW_,hb2,BY⟩:=al1 w1 383 #[.pointer (some ⟨r,0,none⟩)]
 rw [<-hW_]
 clear hW_
 obtain ⟨gy,hgy⟩:∃ g,w1.heap.size=g:=⟨_,rfl⟩
 have hgyw:w1.heap.size<=gy:=by omega
 rw [hgy] at BY ⊢
 clear hgy
 have hrl:r<w1.heap.size:=HR.out.lt
 have hw1:w.heap.size<=w1.heap.size:=hb1.size
 have HF:=zh (qcy (b8 1) (HR.out.ext hb2) (by simp [le]))
 have q:=BY.cell 0
 go_wp2_with fail
 refine HF.out.mono ?_
 rintro e w2 ⟨rfl,hR2,hg2⟩
 rw [show ((b8 1).toNat:Int)=1 from rfl]
 have HR2:=zh hR2
 have BY2:=BY.grown hg2 (by intro e;injection e with e;omega)
 have hbw2:=(hb1.trans (zm hb2 hw1)).grown hg2 (by have:=hb2.size;omega) (fun k hk=>by injection hk with hk;omega)
 clear HF q hR2 hg2 BY HR
 go_wp2_with fail
 refine wp_loop_rounds 2 ?_
 rw [rounds_succ]
 have HF:=zh (rvalue_ N HR2.out hN (by simp))
 go_wp2_with fail
 refine HF.out.mono ?_
 rintro e w3 ⟨rfl,hR3,hg3⟩
 have HR3:=zh hR3
 have BY3:=BY2.grown hg3 (by intro e;injection e with e;omega)
 have hbw3:=(hbw2.gw hg3)
 clear HF hR3 hg3 BY2 HR2 hbw2
 go_wp2_with (at_builtin;(refine wpList_append_own _ rfl (.tmp 28) (.tmp 31) 71 rfl w3.heap.size 70 i0 _ 3 32 Tryz.underlying71 hi0 hy0 hy1 hy2 rfl (by decide) _ 0 _ rfl (qkk _ _ _ _) ⟨w3.heap.size,0,none⟩ 1 1 [.int .i64 2,.int .i64 (N:Int),.string ⟨#[]⟩] rfl ?a1 ?a2 ?a3 ?a4 ?a5 ?a6 ?_))
 case a1=>rfl
 case a2=>exact (Row.of_blk (lo:=0) (Blk.new w3 70 #[.int .i64 2,.int .i64 (N:Int),.string ⟨#[]⟩]) (Nat.zero_le _) 1 1 (zl _)).src
 case a3=>exact eVal.one (qnx w3 (fun _=>True) N)
 case a4=>unfold maxLen;omega
 case a5=>omega
 case a6=>simp
 clear hi0 hy0 hy1 hy2 i0
 intro v' w4 hown hgrow _
 obtain ⟨A4,c4,rfl⟩:=qan hown
 have hba:=(zb w3.heap.size w3).alloc (zl _) (.cells #[.int .i64 2,.int .i64 (N:Int),.string ⟨#[]⟩] 70)
 have hb4:=hba.grown hgrow hba.size (fun k hk=>by simp [Value.ownBlock] at hk)
 have HE:=zh (show Sl eVal w4 (fun b=>w3.heap.size<=b) A4 1 c4 [numV N] from (show OwnE eVal 70 w4 w3.heap.size (fun b=>w3.heap.size<=b) A4 1 c4 [numV N] from ⟨[[.int .i64 2,.int .i64 (N:Int),.string ⟨#[]⟩]],hown,Els.one_ (qnx _ _ N),rfl⟩).slB (fun b e=>by
  obtain ⟨g',e2,h1,_⟩:=qcb hown (by omega)
  rw [e] at e2
  injection e2 with e2
  injection e2 with e2
  rw [e2];exact h1) (fun b h=>h))
 have hbw4:=(hbw3.tr hb4)
 obtain ⟨b4,o4,rfl,_,_,hbl4⟩:=HE.out.some_ (by omega)
 have BY4:=BY3.ext hb4
 have HR4:=zh (HR3.out.ext hb4)
 clear hown hgrow hba hb4 BY3 HR3
 go_wp2_with fail
 rw [rounds_succ]
 have HF:=zh (rend_ HR4.out)
 have q:=BY4.cell 0
 go_wp2_with fail
 refine HF.out.mono ?_
 rintro e w' ⟨rfl,rfl⟩
 clear HF q
 go_wp2_with fail
 obtain ⟨cs0,hcs0,hcell0⟩:=HE.out.at_ (show [numV N][0]? = some (numV N) from rfl)
 have e0:cs0=[.int .i64 2,.int .i64 (N:Int),.string ⟨#[]⟩]:=by
  obtain ⟨_,_,rfl,rfl,_,_,rfl,rfl,rfl⟩:=hcs0
  rfl
 subst e0
 simp only [show eVal.k=3 from rfl,Nat.zero_mul,Nat.add_zero] at hcell0
 have p0:=hcell0 0 _ rfl
 have p1:=hcell0 1 _ rfl
 have p2:=hcell0 2 _ rfl
 simp only [Nat.add_zero] at p0
 have hck:tb.vchk ⟨2,(N:Int),⟨#[]⟩⟩=0:=by
  have hs:(⟨#[]⟩:ByteArray).size=0:=rfl
  have hz:((⟨#[]⟩:ByteArray) == ByteArray.empty)=true:=by decide
  simp [tb.vchk,val.chk,val.vEq,val.bareN,val.bareS,hs,hz]
 clear hcell0 hcs0
 refine wp_loop_rounds 2 ?_
 rw [rounds_succ]
 go_upto_region 18 with fail
 clear p0 p1 p2
 obtain ⟨W5,hW_,hb5,BV⟩:=al1 w4 70 #[.int .i64 2,.int .i64 (N:Int),.string ⟨#[]⟩]
 rw [<-hW_]
 clear hW_
 have HF:=zh (tb.check_ ⟨2,(N:Int),⟨#[]⟩⟩ W5 (Nat.zero_le _))
 rw [hck] at HF
 have pv:=BV.three (zb _ _)
 have hbw5:=(hbw4.tr hb5)
 have HE5:=zh (HE.out.ext hb5)
 clear hck
 go_wp2_with fail
 refine HF.out.mono ?_
 rintro e w6 ⟨rfl,hb6⟩
 have hbw6:=(hbw5.tr hb6)
 have HF:=zh (copyV (HE5.out.ext hb6) (by omega))
 clear pv BV hb5 hb6 hbw5 hbw4 HE BY4 HR4
 go_wp2_with fail
 rw [rounds_succ]
 go_wp2_with fail
 refine HF.out.mono ?_
 rintro e w7 ⟨A7,c7,rfl,ho7,hb7⟩
 have h6:=hbw6.size
 have HH:=zh (za ((ho7.sl (G:=fun b=>w6.heap.size<=b) (fun b h _=>h) (fun b h=>h.1)).mono (G:=fun b=>w.heap.size<=b) (fun b h=>Nat.le_trans h6 h)) ((hbw6.tr hb7)))
 clear HF ho7 hb7 hbw6
 simp only [List.length_singleton] at HH ⊢
 go_wp2
 go_ret2
 exact ⟨A7,c7,rfl,HH.out⟩
def nmX:List UInt8:=[120]
def colX:List pg.Cl:=[⟨[97],2,false⟩]
def schX:Sch:=qbj nmX colX 0 false
theorem schX_eq:schX=(⟨#[120]⟩,[(⟨#[97]⟩,2,false)],0,false):=rfl
theorem schB_X:schB schX=le 2 nmX.length++(nmX++(b8 1::(le 2 ([97]:List UInt8).length++([97]++(b8 2::b8 0::(le 8 0++(b8 0::[]))))))):=by rfl
theorem goodX:GoodS nmX colX 0:=⟨by decide +kernel,by decide,by decide,by decide,fun i x h=>by
 match i with
 | 0=>injection h with h;subst h;exact ⟨by decide +kernel,by decide,by decide +kernel,by decide,by decide⟩
 | i+1=>simp [colX] at h,⟨_,rfl,rfl⟩⟩
theorem qnz {r:Nat} {rest:List UInt8} (h:Rd F w r (b8 0::rest)) (hl:rest.length<=200000):
  Calls Tryz.prog 191 #[.pointer (some ⟨r,0,none⟩)] w fun e w'=>e=.returned (.bool false)/\Rd F w' r rest/\w.grownBy w' (some r):=by
 have HF:=zh (qcy (b8 0) h (by omega))
 clear h
 go_enter Tryz.func191,Tryz.ntmps191
 go_wp2_with fail
 refine HF.out.mono ?_
 rintro e w2 ⟨rfl,hR2,hg2⟩
 rw [show ((b8 0).toNat:Int)=0 from rfl]
 have HH:=zh (za hR2 hg2)
 clear hR2 hg2 HF
 go_wp2
 go_ret
 exact ⟨rfl,HH.out⟩
theorem sparse_ (h:By w A n c (schB schX)):
  Calls Tryz.prog 122 #[.slice A n c] w fun e w'=>∃ A' c',e=.returned (.tuple #[.agg #[.string ⟨#[120]⟩,.slice A' 1 c',.int .i64 0,.bool false],.int .i64 0])/\Sl eCol w' (fun b=>w.heap.size<=b) A' 1 c' [(⟨#[97]⟩,2,false)]/\Below w.heap.size w w':=by
 rw [schB_X] at h
 have hn:n=18:=by rw [<-h.2];rfl
 subst hn
 have HB:=zh h
 clear h
 go_enter Tryz.func122,Tryz.ntmps122
 go_upto_region 1 with fail
 obtain ⟨W0,hW_,hb0,BR⟩:=al1 w 66 #[.string ⟨#[]⟩,.slice none 0 0,.int .i64 0,.bool false]
 rw [<-hW_]
 clear hW_
 obtain ⟨gr,hgr⟩:∃ g,w.heap.size=g:=⟨_,rfl⟩
 have hgrw:w.heap.size<=gr:=by omega
 rw [hgr] at BR ⊢
 clear hgr
 have HN:=zh (qil _ _ _ _ _ (HB.out.ext hb0) (by omega))
 have hgrl:gr<W0.heap.size:=BR.lt
 have hw0:w.heap.size<=W0.heap.size:=hb0.size
 go_wp2_with fail
 refine HN.out.mono ?_
 rintro e w1 ⟨r,rfl,hR,hrw,hb1⟩
 have HR:=zh hR
 have BR1:=BR.ext hb1
 have hbw1:=hb0.trans (zm hb1 hw0)
 have hw1:W0.heap.size<=w1.heap.size:=hb1.size
 have hrl:r<w1.heap.size:=hR.lt
 have HF:=zh (qge HR.out (by decide) (by decide))
 clear HN hR BR hb0 hb1 HB
 go_wp2_with fail
 refine HF.out.mono ?_
 rintro e w2 ⟨rfl,hR2,hg2⟩
 have HR2:=zh hR2
 have BR2:=BR1.grown hg2 (by intro e;injection e with e;omega)
 have hbw2:=(hbw1.gw hg2)
 have hw2:=hg2.size
 clear HF hR2 hg2 HR BR1 hbw1
 rw [show (⟨nmX.toArray⟩:ByteArray)=⟨#[120]⟩ from rfl]
 go_upto_region 3 with fail
 obtain ⟨W3,hW_,hb3,BV⟩:=al1 w2 66 #[.string ⟨#[120]⟩,.slice none 0 0,.int .i64 0,.bool false]
 rw [<-hW_]
 clear hW_
 obtain ⟨gv,hgv⟩:∃ g,w2.heap.size=g:=⟨_,rfl⟩
 have hgvw:w1.heap.size<=gv:=by omega
 rw [hgv] at BV ⊢
 clear hgv
 have HF:=zh (qcy (b8 1) (HR2.out.ext hb3) (by decide))
 have BR3:=BR2.ext hb3
 have hbw3:=(hbw2.tr hb3)
 clear HR2 BR2 hbw2
 go_wp2_with fail
 refine HF.out.mono ?_
 rintro e w4 ⟨rfl,hR4,hg4⟩
 rw [show ((b8 1).toNat:Int)=1 from rfl]
 have HR4:=zh hR4
 have BR4:=BR3.grown hg4 (by intro e;injection e with e;omega)
 have BV4:=BV.grown hg4 (by intro e;injection e with e;omega)
 have hbw4:=(hbw3.gw hg4)
 clear HF hR4 hg4 BR3 BV hbw3 hb3
 go_wp2_with fail
 refine wp_loop_rounds 2 ?_
 rw [rounds_succ]
 go_upto_region 9 with fail
 have D:=fun w' (hS:Blk w' gv 66 #[.string ⟨#[120]⟩,.slice none 0 0,.int .i64 0,.bool false])=>show w'.cell? ⟨gv,1,none⟩=some (.slice none 0 0) from hS.cell 1
 refine r3 (S:=fun w'=>Blk w' gv 66 #[.string ⟨#[120]⟩,.slice none 0 0,.int .i64 0,.bool false]) [(0,true),(1,true),(2,true),(4,true),(6,true),(3,false),(5,false),(7,false),(8,true),(9,false),(10,false),(11,true)] [(12,false)] (Blk.drew BV4) ?_
 repeat ((first|refine pT ?_|refine pF ?_);try go_frame)
 have hd0:=(zb w4.heap.size w4).drew
 have HF:=zh (qge (HR4.out.ext hd0) (by decide) (by decide))
 refine pD fun K hK=>?_;go_simp
 refine HF.out.mono ?_
 rintro e w5 ⟨rfl,hR5,hg5⟩
 rw [show (⟨([97]:List UInt8).toArray⟩:ByteArray)=⟨#[97]⟩ from rfl]
 have BV5:=(Blk.drew BV4).grown hg5 (by intro e;injection e with e;omega)
 refine hK.out _ _ BV5 ?_
 have hG5:=qah (Below.grown_by (g:=some r) hd0) hg5
 clear hK K HF hg5 hd0
 have HF:=zh (qcy (b8 2) hR5 (by decide))
 refine pD fun K hK=>?_;go_simp
 refine HF.out.mono ?_
 rintro e w6 ⟨rfl,hR6,hg6⟩
 rw [show ((b8 2).toNat:Int)=2 from rfl]
 have BV6:=BV5.grown hg6 (by intro e;injection e with e;omega)
 refine hK.out _ _ BV6 ?_
 have hG6:=qah hG5 hg6
 clear hK K HF hg6 hG5 hR5 BV5
 have HF:=zh (qnz hR6 (by decide))
 refine pD fun K hK=>?_;go_simp
 refine HF.out.mono ?_
 rintro e w7 ⟨rfl,hR7,hg7⟩
 have BV7:=BV6.grown hg7 (by intro e;injection e with e;omega)
 refine hK.out _ _ BV7 ?_
 have hG7:=qah hG6 hg7
 have HR7:=zh hR7
 have BR7:=BR4.grown hG7 (by intro e;injection e with e;omega)
 have hbw7:=(hbw4.gw hG7)
 clear hK K HF hg7 hG6 hR6 BV6 hG7 hR7 BR4 BV4 hbw4 D HR4
 repeat ((first|refine pT ?_|refine pF ?_);try go_frame)
 refine pD fun K hK=>?_;go_simp
 obtain ⟨Wa,hWa⟩:∃ W,W=w7.alloc (.cells #[.string ⟨#[97]⟩,.int .i64 2,.bool false] 63):=⟨_,rfl⟩
 have hba:Below w7.heap.size w7 Wa:=by rw [hWa];exact (zb _ _).alloc (zl _) _
 have BC:Blk Wa w7.heap.size 63 #[.string ⟨#[97]⟩,.int .i64 2,.bool false]:=by rw [hWa];exact Blk.new _ _ _
 obtain ⟨gc,hgc⟩:∃ g,w7.heap.size=g:=⟨_,rfl⟩
 have hgcw:w1.heap.size<=gc:=by have:=BV7.lt;omega
 rw [<-hWa]
 rw [hgc] at BC ⊢
 have BVa:=BV7.ext hba
 refine hK.out _ _ BVa ?_
 clear hK K hWa hgc
 obtain ⟨iC,hci,hc0,hc1,hc2⟩:=ip Tryz.prog 63 (.agg #[.string ⟨#[]⟩,.int .i64 0,.bool false]) 3 32
 refine qaj rfl (qae rfl) (fun K hK=>?_)
 refine qbm 32 (.tmp 23) (.tmp 31) 64 rfl rfl 63 iC _ 3 32 Tryz.underlying64 hci hc0 hc1 hc2 rfl (by decide) none 0 0 [] rfl (fun _=>⟨rfl,rfl⟩) rfl (fun b hb j u hu=>by simp at hu) ⟨gc,0,none⟩ 1 1 [.string ⟨#[97]⟩,.int .i64 2,.bool false] rfl rfl (fun j u hu=>by rw [Addr.add_mid];exact Blk.whole (cs:=[_,_,_]) BC j u hu) (fun u hu=>by simp at hu;rcases hu with rfl|rfl|rfl <;> rfl) (by omega) (by unfold maxLen;omega) (by omega) ?_
 intro A9 c9 w8 hown hgr8
 have hbc:Below Wa.heap.size Wa w8:=(zb _ _).grown hgr8 (zl _) (fun k hk=>by cases hk)
 have BV8:=BVa.ext hbc
 refine hK.out _ _ BV8 ?_
 clear hK K
 have hbac:=(hba.tr hbc)
 have HR8:=zh (HR7.out.ext hbac)
 have BR8:=BR7.ext hbac
 have hbw8:=(hbw7.tr hbac)
 have h7a:=hba.size
 have h17:w1.heap.size<=w7.heap.size:=by have:=BV7.lt;omega
 have hsl:Sl eCol w8 (fun b=>w7.heap.size<=b/\b≠gv) A9 1 c9 [(⟨#[97]⟩,2,false)]:=by
  have hE:OwnE eCol 63 w8 Wa.heap.size (fun b=>w7.heap.size<=b/\b≠gv) A9 1 c9 [(⟨#[97]⟩,2,false)]:=⟨[[.string ⟨#[97]⟩,.int .i64 2,.bool false]],by rw [show [[Value.string ⟨#[97]⟩,.int .i64 2,.bool false]].flatten=[]++[Value.string ⟨#[97]⟩,.int .i64 2,.bool false] by simp];exact hown,Els.one_ ⟨[_],_,rfl,rfl,[_],[_],rfl,rfl,rfl⟩,rfl⟩
  exact hE.slB (fun b e=>⟨Nat.le_trans h7a (hE.lt e).1,qfy hown BV8 (by decide) b e⟩) (fun b h=>h)
 have HS8:=zh hsl
 clear hown hgr8 hbc hbac hba BC BVa BV7 HR7 BR7 hbw7 hsl hci hc0 hc1 hc2 iC
 repeat ((first|refine pT ?_|refine pF ?_);try go_frame)
 refine qak ?_
 have q1:=BV8.cell 1
 have f1:=BV8.frozen 1
 refine pD fun K hK=>?_;go_simp
 refine hK.out _ _ trivial (qad ?_)
 clear hK K q1 f1
 have hg9:=qac w8 gv 1 (.slice A9 1 c9)
 have BV9:Blk (w8.setCell ⟨gv,1,none⟩ (.slice A9 1 c9)) gv 66 #[.string ⟨#[120]⟩,.slice A9 1 c9,.int .i64 0,.bool false]:=BV8.set_ 1 _
 have HR9:=zh (HR8.out.keep (Keep.grown hg9 (fun k hk h=>by injection hk with hk;have:=h.2;omega)))
 have HS9:=zh (HS8.out.keep (Keep.grown hg9 (fun k hk h=>by injection hk with hk;exact h.2 hk.symm)))
 have BR9:=BR8.grown hg9 (by intro e;injection e with e;omega)
 have hbw9:=(hbw8.gw hg9)
 clear hg9 BV8 HR8 HS8 BR8 hbw8
 generalize w8.setCell ⟨gv,1,none⟩ (.slice A9 1 c9)=w9 at *
 go_wp2_with fail
 rw [rounds_succ]
 have q1:=BV9.cell 1
 have HF:=zh (copyC HS9.out (by omega))
 go_wp2_with fail
 refine HF.out.mono ?_
 rintro e w10 ⟨A10,c10,rfl,ho10,hb10⟩
 have BV10:=BV9.ext hb10
 have HR10:=zh (HR9.out.ext hb10)
 have BR10:=BR9.ext hb10
 have hbw10:=(hbw9.tr hb10)
 have hgv9:gv<w9.heap.size:=BV9.lt
 have h19:w1.heap.size<=w9.heap.size:=by omega
 have HS10:=zh ((ho10.sl (G:=fun b=>w9.heap.size<=b) (fun b h _=>h) (fun b h=>h.1)).mono (G:=fun b=>w1.heap.size<=b/\b≠gv) (fun b h=>⟨Nat.le_trans h19 h,by omega⟩))
 have hg11:=qac w10 gv 1 (.slice A10 1 c10)
 have BV11:Blk (w10.setCell ⟨gv,1,none⟩ (.slice A10 1 c10)) gv 66 #[.string ⟨#[120]⟩,.slice A10 1 c10,.int .i64 0,.bool false]:=BV10.set_ 1 _
 have HR11:=zh (HR10.out.keep (Keep.grown hg11 (fun k hk h=>by injection hk with hk;have:=h.2;omega)))
 have HS11:=zh (HS10.out.keep (Keep.grown hg11 (fun k hk h=>by injection hk with hk;exact h.2 hk.symm)))
 have BR11:=BR10.grown hg11 (by intro e;injection e with e;omega)
 have hbw11:=(hbw10.gw hg11)
 have HF:=zh (qim 0 HR11.out (by decide) (by decide))
 have q1:=BV10.cell 1
 have f1:=BV10.frozen 1
 clear hg11 HR10 HS10 BR10 hbw10 ho10 hb10 BV9 HR9 HS9 BR9 hbw9
 simp only [List.length_singleton]
 go_upto_region 12 with fail
 clear q1 f1 BV10
 generalize w10.setCell ⟨gv,1,none⟩ (.slice A10 1 c10)=w11 at *
 go_wp2_with fail
 refine HF.out.mono ?_
 rintro e w12 ⟨rfl,hR12,hg12⟩
 have BV12:=BV11.grown hg12 (by intro e;injection e with e;omega)
 have BR12:=BR11.grown hg12 (by intro e;injection e with e;omega)
 have hF12:Keep (fun b=>w1.heap.size<=b/\b≠gv) w11 w12:=Keep.grown hg12 (fun k hk h=>by injection hk with hk;have:=h.1;omega)
 have HS12:=zh (HS11.out.keep hF12)
 have hbw12:=(hbw11.gw hg12)
 have HF:=zh (qnz hR12 (by decide))
 rw [show ((0:Nat):Int)=0 from rfl]
 clear hF12 hg12 HS11 BR11 hbw11 BV11 HR11 hR12
 go_wp2_with fail
 refine HF.out.mono ?_
 rintro e w13 ⟨rfl,hR13,hg13⟩
 have BV13:=BV12.grown hg13 (by intro e;injection e with e;omega)
 have BR13:=BR12.grown hg13 (by intro e;injection e with e;omega)
 have HS13:=zh (HS12.out.keep (Keep.grown hg13 (fun k hk h=>by injection hk with hk;have:=h.1;omega)))
 have hbw13:=(hbw12.gw hg13)
 have HR13:=zh hR13
 clear hg13 HS12 BR12 hbw12 BV12 hR13 HF
 have q:=four (Blk.set_ BV13 2 (.int .i64 0)) (zb _ _)
 have q2:=BV13.cell 2
 have f2:=BV13.frozen 2
 have q3:=(BV13.set_ 2 (.int .i64 0)).cell 3
 have f3:=(BV13.set_ 2 (.int .i64 0)).frozen 3
 have hg14:=qah (qac w13 gv 2 (.int .i64 0)) (qac _ gv 3 (.bool false))
 have BV14:Blk ((w13.setCell ⟨gv,2,none⟩ (.int .i64 0)).setCell ⟨gv,3,none⟩ (.bool false)) gv 66 #[.string ⟨#[120]⟩,.slice A10 1 c10,.int .i64 0,.bool false]:=(BV13.set_ 2 _).set_ 3 _
 have HR14:=zh (HR13.out.keep (Keep.grown hg14 (fun k hk h=>by injection hk with hk;have:=h.2;omega)))
 have HS14:=zh (HS13.out.keep (Keep.grown hg14 (fun k hk h=>by injection hk with hk;exact h.2 hk.symm)))
 have BR14:=BR13.grown hg14 (by intro e;injection e with e;omega)
 have hbw14:=(hbw13.gw hg14)
 clear q hg14 HR13 HS13 BR13 hbw13
 go_upto_region 13 with fail
 clear q2 f2 q3 f3 BV13
 generalize (w13.setCell ⟨gv,2,none⟩ (.int .i64 0)).setCell ⟨gv,3,none⟩ (.bool false)=w14 at *
 have HF:=zh (rend_ HR14.out)
 go_wp2_with fail
 refine HF.out.mono ?_
 rintro e w' ⟨rfl,rfl⟩
 have HF:=zh (checkG_ nmX colX 0 false A10 c10 (w:=w14) goodX (qnu (cols:=colX) (n:=1) HS14.out).1)
 have q0:=BV14.cell 0
 have q1:=BV14.cell 1
 have q2:=BV14.cell 2
 have q3:=BV14.cell 3
 go_wp2_with fail
 refine HF.out.mono ?_
 rintro e w15 ⟨rfl,hb15⟩
 have BV15:=BV14.ext hb15
 have BR15:=BR14.ext hb15
 have hbw15:=(hbw14.tr hb15)
 have HS15:=zh (HS14.out.ext hb15)
 clear q0 q1 q2 q3 HF BV14 BR14 hbw14 HS14 HR14 hb15
 have q0:=BV15.cell 0
 have q1:=BV15.cell 1
 have q2:=BV15.cell 2
 have q3:=BV15.cell 3
 have r0:=BR15.cell 0
 have rj:=BR15.cell 1
 have rk:=BR15.cell 2
 have rl:=BR15.cell 3
 have z0:=BR15.frozen 0
 have z1:=BR15.frozen 1
 have z2:=BR15.frozen 2
 have z3:=BR15.frozen 3
 go_wp2
 have BR16:Blk _ gr 66 #[.string ⟨#[120]⟩,.slice A10 1 c10,.int .i64 0,.bool false]:=(((BR15.set_ 0 (.string ⟨#[120]⟩)).set_ 1 (.slice A10 1 c10)).set_ 2 (.int .i64 0)).set_ 3 (.bool false)
 have hg16:=qah (qah (qac w15 gr 0 (.string ⟨#[120]⟩)) (qac _ gr 1 (.slice A10 1 c10))) (qah (qac _ gr 2 (.int .i64 0)) (qac _ gr 3 (.bool false)))
 have HS16:=(HS15.out.keep (Keep.grown hg16 (fun k hk h=>by injection hk with hk;have:=h.1;omega))).mono (G:=fun b=>w.heap.size<=b) (fun b h=>by have:=h.1;omega)
 have hbw16:=(hbw15.gw hg16)
 exact bodyPost_ret (v:=.tuple #[.agg #[.string ⟨#[120]⟩,.slice A10 1 c10,.int .i64 0,.bool false],.int .i64 0]) (qbe rfl _ _ gr _ _ (0,0) _ rfl BR16 Tryz.underlying66 rfl (by kernel_rfl) rfl) rfl ⟨A10,c10,rfl,HS16,hbw16⟩
def qfw (H:List UInt8) (k:Nat):List UInt8:=H.take k++h0.drop k
theorem hpart_len (H:List UInt8) (k:Nat) (hl:H.length=32) (hk:k<=32):(qfw H k).length=32:=by
 simp only [qfw,List.length_append,List.length_take,List.length_drop,qaf]
 omega
theorem hpart_set (H:List UInt8) (k:Nat) (hl:H.length=32) (hk:k<32) (x:UInt8) (hx:H[k]? = some x):(qfw H k).set k x=qfw H (k+1):=by
 have h1:(H.take k).length=k:=by rw [List.length_take];omega
 unfold qfw
 rw [List.set_append,if_neg (by omega),h1,Nat.sub_self,List.take_add_one,hx]
 have h2:h0.drop k=0::h0.drop (k+1):=by
  have e:h0=List.replicate 32 0:=by unfold h0;rfl
  rw [e,List.drop_replicate,List.drop_replicate,show 32 - k=(32 - (k+1))+1 by omega]
  rfl
 rw [h2]
 simp
theorem qqi (l:List UInt8) (k:Nat) (x:UInt8):(qaa l).toArray.setIfInBounds k (.int .u8 (x.toNat:Int))=(qaa (l.set k x)).toArray:=by
 simp [qaa,List.map_set]
theorem vhash_ {r:Nat} {H rest:List UInt8} (h:Rd F w r (H++rest)) (hH:H.length=32) (hl:rest.length<=200000):
  Calls Tryz.prog 126 #[.agg #[.pointer (some ⟨r,0,none⟩)]] w fun e w'=>e=.returned (.agg (qaa H).toArray)/\Rd F w' r rest/\w.grownBy w' (some r):=by
 have hrl:=h.lt
 have HR:=zh h.bound
 have hz:=qcn
 have HL:=zh hH
 clear h hH
 go_enter Tryz.func126,Tryz.ntmps126
 go_upto_region 1 with fail
 obtain ⟨W,hW_,hb1,B1,BR⟩:=al2 w 271 76 #[.pointer (some ⟨r,0,none⟩)] ((qaa h0).toArray)
 rw [<-hW_]
 clear hW_
 obtain ⟨g1,hg1⟩:∃ g,w.heap.size=g:=⟨_,rfl⟩
 obtain ⟨gr,hgr⟩:∃ g,w.heap.size+1=g:=⟨_,rfl⟩
 have hg1w:w.heap.size<=g1:=by omega
 have hgrw:w.heap.size<=gr:=by omega
 have hne:g1≠gr:=by omega
 rw [hgr] at BR ⊢
 rw [hg1] at B1 ⊢
 clear hgr hg1
 have HR1:=zh (HR.out.ext hb1)
 have HG1:=zh (Below.grown_by (g:=some r) hb1)
 clear HR hb1
 go_wp2_with fail
 go_loopw [4] (fun i wr=>∃ k:Nat,i=.int .i64 k/\k<=32/\Hid (Rd (fun b=>F b/\b<w.heap.size) wr r (H.drop k++rest))/\Blk wr g1 271 #[.pointer (some ⟨r,0,none⟩)]/\Blk wr gr 76 (qaa (qfw H k)).toArray/\Hid (w.grownBy wr (some r))) (fun i _=>32 - (intOf i).toNat)
 case atStart=>exact ⟨0,rfl,by omega,HR1,B1,BR,HG1⟩
 case round =>
  clear B1 BR HR1 HG1
  obtain ⟨k,rfl,hk,HRk,B1,BR,HG⟩:=hrel
  rcases Nat.lt_or_ge k 32 with hlt|hge
  ·have hd:decide ((k:Int)<32)=true:=by simp;omega
   have hk32:(k:Int)<32:=by omega
   have hkl:k<H.length:=by rw [HL.out];exact hlt
   obtain ⟨x,hx⟩:∃ x,H[k]? = some x:=⟨_,List.getElem?_eq_getElem hkl⟩
   have hdr:H.drop k=x::H.drop (k+1):=by
    rw [List.drop_eq_getElem_cons hkl]
    rw [List.getElem?_eq_getElem hkl] at hx
    injection hx with hx
    rw [hx]
   have HX:=zh hx
   have HF:=zh (qcy x (rest:=H.drop (k+1)++rest) (by have:=HRk.out;rw [hdr] at this;exact this) (by rw [List.length_append,List.length_drop,HL.out];omega))
   have hwr:IntKind.u8.wrap (x.toNat:Int)=(x.toNat:Int):=IntWalk.u8_in _ ⟨by omega,by have:=x.toNat_lt;omega⟩
   have q:=B1.cell 0
   clear hx hdr hkl HRk
   go_wp2_with fail
   refine HF.out.mono ?_
   rintro e w2 ⟨rfl,hR2,hg2⟩
   have B12:=B1.grown hg2 (by intro e;injection e with e;omega)
   have BR2:=BR.grown hg2 (by intro e;injection e with e;omega)
   have HG2:=zh (qah HG.out hg2)
   have HR2:=zh hR2
   obtain ⟨u0,hu0⟩:∃ u,(qaa (qfw H k)).toArray[k]? = some u:=⟨_,Array.getElem?_eq_getElem (by rw [List.size_toArray,lenB,hpart_len H k HL.out hk];exact hlt)⟩
   have q:=(BR2.cell k).trans hu0
   have f:=BR2.frozen k
   have hk0:(k:Int).toNat=k:=by omega
   have HP:=zh (hpart_set H k HL.out hlt x HX.out)
   have BR3:=BR2.set_ k (.int .u8 (x.toNat:Int))
   rw [qqi,HP.out] at BR3
   have HRk:=zh (HR2.out.keep (Keep.set w2 ⟨gr,k,none⟩ (.int .u8 (x.toNat:Int)) (fun h=>by have h:=h.2;simp only at h;omega)))
   have B13:=B12.grown (qac w2 gr k (.int .u8 (x.toNat:Int))) (by intro e;injection e with e;exact hne e)
   have HGk:=zh (qbd HG2.out (qac w2 gr k (.int .u8 (x.toNat:Int))) hgrw)
   clear hR2 hg2 hu0 HF BR2 B12 HR2 HG2 BR B1 HG
   go_wp2_with fail
   go_roundw
   case rel=>exact ⟨k+1,by go_num,by omega,HRk,B13,BR3,HGk⟩
   case measure=>simp [intOf];omega
  ·obtain rfl:k=32:=by omega
   have hd:decide (((32:Nat):Int)<32)=false:=by decide
   rw [show qfw H 32=H by rw [qfw,List.take_of_length_le (by rw [HL.out];exact zl _),List.drop_of_length_le (by rw [qaf];exact zl _),List.append_nil]] at BR
   rw [List.drop_of_length_le (by rw [HL.out];exact zl _),List.nil_append] at HRk
   have hsz:=qbq H HL.out
   have hth:=Blk.there (o:=0) (n:=32) BR (by rw [lenB,HL.out];omega)
   obtain ⟨B9,hg9⟩:=Blk.lay (qaa H) 0 BR (by omega)
   rw [qai _ _ rfl] at B9
   have HE:=zh (za ((HRk.out.keep (Keep.grown hg9 (fun k hk h=>by injection hk with hk;have:=h.2;omega))).mono (G:=F) (fun b h=>h.1)) (qbd HG.out hg9 hgrw))
   clear hz hg9 B1 HRk HG
   go_wp2_with (first|((with_reducible refine sT 14 ?_);(refine wpList_load_mid rfl 76 _ rfl gr 0 rfl (qaa H) _ (Blk.whole BR) Tryz.underlying76 rfl hsz ?_))|((with_reducible refine sS 2 ?_);(refine wpList_store_mid rfl 76 _ _ rfl gr 0 (qaa H).toArray rfl rfl ?h1 ?h2 (all_oneCell_toArray (oneB _)) ?_)))
   case h1=>exact (show (qaa H).toArray.size=32 by simp [lenB,HL.out]) ▸ hth
   case h2=>exact (show (qaa H).toArray.size=(qaa H).length by simp) ▸ hsz
   generalize wr.setCells gr 0 (qaa H)=w9 at *
   go_wp2
   exact bodyPost_ret (v:=.agg (qaa H).toArray) (results_cell_row rfl _ _ gr _ _ (0,0) _ rfl B9 Tryz.underlying76 rfl (by rw [List.size_toArray];exact hsz)) rfl ⟨rfl,HE.out⟩
theorem vtruth0_ {r:Nat} {rest:List UInt8} (h:Rd F w r (b8 0::rest)) (hl:rest.length<=200000):
  Calls Tryz.prog 195 #[.agg #[.pointer (some ⟨r,0,none⟩)]] w fun e w'=>e=.returned (.bool false)/\Rd F w' r rest/\w.grownBy w' (some r):=by
 have hrl:=h.lt
 have HR:=zh h
 clear h
 go_enter Tryz.func195,Tryz.ntmps195
 go_upto_region 1 with fail
 obtain ⟨W,hW_,hb1,B1⟩:=al1 w 271 #[.pointer (some ⟨r,0,none⟩)]
 rw [<-hW_]
 clear hW_
 have HF:=zh (qcy (b8 0) (HR.out.ext hb1) (by omega))
 have hG1:=Below.grown_by (g:=some r) hb1
 have q:=B1.cell 0
 go_wp2_with fail
 refine HF.out.mono ?_
 rintro e w2 ⟨rfl,hR2,hg2⟩
 rw [show ((b8 0).toNat:Int)=0 from rfl]
 have HH:=zh (za hR2 (qah hG1 hg2))
 clear hR2 hg2 HF q hG1 hb1 B1
 go_wp2
 go_ret
 exact ⟨rfl,HH.out⟩
def cB (nm:List UInt8) (N:Nat) (rest:List UInt8):List UInt8:=b8 1::(le 2 nm.length++(nm++(le 2 (rowB [numV N]).length++(rowB [numV N]++rest))))
theorem vchange_ {r N:Nat} {nm rest:List UInt8} (h:Rd F w r (cB nm N rest)) (hN:N<9223372036854775808) (hnm:nm.length<=100) (hl:rest.length<=100000):
  Calls Tryz.prog 194 #[.agg #[.pointer (some ⟨r,0,none⟩)]] w fun e w'=>∃ A c,e=.returned (.agg #[.string ⟨nm.toArray⟩,.int .i64 1,.slice A 1 c])/\Sl eVal w' (fun b=>w.heap.size<=b) A 1 c [numV N]/\Rd F w' r rest/\w.grownBy w' (some r):=by
 have hrl:=h.lt
 have HR:=zh h.bound
 have hrb:(rowB [numV N]).length=10:=by rw [qip];simp [le]
 have HRB:=zh hrb
 clear h hrb
 go_enter Tryz.func194,Tryz.ntmps194
 go_upto_region 1 with fail
 obtain ⟨W,hW_,hb1,B1,BR⟩:=al2 w 271 126 #[.pointer (some ⟨r,0,none⟩)] #[.string ⟨#[]⟩,.int .i64 0,.slice none 0 0]
 rw [<-hW_]
 clear hW_
 obtain ⟨g1,hg1⟩:∃ g,w.heap.size=g:=⟨_,rfl⟩
 obtain ⟨gr,hgr⟩:∃ g,w.heap.size+1=g:=⟨_,rfl⟩
 have hg1w:w.heap.size<=g1:=by omega
 have hgrw:w.heap.size<=gr:=by omega
 have hne:g1≠gr:=by omega
 rw [hgr] at BR ⊢
 rw [hg1] at B1 ⊢
 clear hgr hg1
 have HR1:=zh (HR.out.ext hb1)
 have HG1:=zh (Below.grown_by (g:=some r) hb1)
 have hrW:r<W.heap.size:=HR1.out.lt
 have hwW:w.heap.size<=W.heap.size:=hb1.size
 have HB1:=zh B1
 have HBR:=zh BR
 clear HR hb1
 have D:=fun w' (hS:Blk w' g1 271 #[.pointer (some ⟨r,0,none⟩)])=>show w'.cell? ⟨g1,0,none⟩=some (.pointer (some ⟨r,0,none⟩)) from hS.cell 0
 refine Code.wp_mono (Q:=fun e a' w'=>e=.normal/\∃ g3,a'=({ tmps:=#[.agg #[.pointer (some ⟨r,0,none⟩)],.pointer (some ⟨g1,0,none⟩),.pointer (some ⟨gr,0,none⟩),.pointer (some ⟨g3,0,none⟩),undef,undef,.pointer (some ⟨g1,0,none⟩),.pointer (some ⟨r,0,none⟩),.int .i64 1,.pointer (some ⟨g1,0,none⟩),.pointer (some ⟨r,0,none⟩),.string ⟨nm.toArray⟩,.agg #[.string ⟨nm.toArray⟩,.int .i64 1,.slice none 0 0],undef,undef,undef,undef,undef,undef,undef,undef,undef,undef,undef,undef,undef,undef,undef,undef,undef,undef,undef,undef,undef,undef,undef,undef,undef,undef],defers:=[] }:Act)/\Blk w' g3 126 #[.string ⟨nm.toArray⟩,.int .i64 1,.slice none 0 0]/\Rd (fun b=>F b/\b<w.heap.size) w' r (le 2 (rowB [numV N]).length++(rowB [numV N]++rest))/\W.grownBy w' (some r)/\W.heap.size<=g3) ?_ ?_
 case refine_2 =>
  refine qdv (S:=fun w'=>Blk w' g1 271 #[.pointer (some ⟨r,0,none⟩)]) (.seq [(0,true),(1,true),(3,true),(4,true)] (.two 2 (.two 5 (.seq [(6,true),(7,false),(8,false)] .fin) 7 (.seq [(5,false),(6,true),(8,false)] .fin)) 7 (.seq [(2,false),(5,false),(6,true),(8,false)] .fin))) (by kernel_rfl) (by kernel_rfl) (Blk.drew B1) ?_
  refine qbp ?_
  repeat ((first|refine pT ?_|refine pF ?_);try go_frame)
  refine qaw ?_
  clear D
  have hd0:=(zb W.heap.size W).drew
  refine qff ?_ ?_
  ·have HB0:=zh (Blk.drew HB1.out)
   have HR0:=zh (HR1.out.ext hd0)
   have HG0:=zh (Below.grown_by (g:=some r) hd0)
   refine pD fun K hK=>?_;go_simp
   have HF:=zh (qcy (b8 1) HR0.out (by simp only [List.length_append,qax,HRB.out];omega))
   refine HF.out.mono ?_
   rintro e v4 ⟨rfl,hR,hg⟩
   rw [show ((b8 1).toNat:Int)=1 from rfl]
   have HBx:=zh (HB0.out.grown hg (by intro e;injection e with e;omega))
   have HGx:=zh (qah HG0.out hg)
   have HRx:=zh hR
   refine hK.out _ _ HBx.out ?_
   clear hK K HF hg hR
   refine qaw ?_
   refine qff ?_ ?_
   ·refine pD fun K hK=>?_;go_simp
    have HF:=zh (qge HRx.out (by omega) (by simp only [List.length_append,qax,HRB.out];omega))
    refine HF.out.mono ?_
    rintro e v7 ⟨rfl,hR,hg⟩
    have HBx:=zh (HBx.out.grown hg (by intro e;injection e with e;omega))
    have HGx:=zh (qah HGx.out hg)
    have HRx:=zh hR
    refine hK.out _ _ HBx.out ?_
    clear hK K HF hg hR
    refine qaw ?_
    refine qbp ?_
    repeat ((first|refine pT ?_|refine pF ?_);try go_frame)
    refine pD fun K hK=>?_;go_simp
    obtain ⟨v8,hn⟩:∃ W',W'=v7.alloc (.cells #[.string ⟨#[]⟩,.int .i64 0,.slice none 0 0] 126):=⟨_,rfl⟩
    have hb:Below v7.heap.size v7 v8:=by rw [hn];exact (zb _ _).alloc (zl _) _
    have hV:Blk v8 v7.heap.size 126 #[.string ⟨#[]⟩,.int .i64 0,.slice none 0 0]:=by rw [hn];exact Blk.new _ _ _
    rw [<-hn]
    obtain ⟨g3,hg3⟩:∃ g,v7.heap.size=g:=⟨_,rfl⟩
    have hg3W:W.heap.size<=g3:=by have h1:=HGx.out.size;have h2:W.drew.heap.size=W.heap.size:=rfl;omega
    rw [hg3] at hV ⊢
    have HVx:=zh hV
    have HBx:=zh (HBx.out.ext hb)
    have HRx:=zh (HRx.out.ext hb)
    have HGx:=zh (qbr HGx.out hb)
    refine hK.out _ _ HBx.out ?_
    clear hK K hn hb hV hg3
    have p:=HVx.out.three (zb _ _)
    have f:=HVx.out.free3
    refine pD fun K hK=>?_;go_simp
    have BV9:Blk _ g3 126 #[.string ⟨nm.toArray⟩,.int .i64 1,.slice none 0 0]:=((HVx.out.set_ 0 (.string ⟨nm.toArray⟩)).set_ 1 (.int .i64 1)).set_ 2 (.slice none 0 0)
    have hg9:=qah (qah (qac v8 g3 0 (.string ⟨nm.toArray⟩)) (qac _ g3 1 (.int .i64 1))) (qac _ g3 2 (.slice none 0 0))
    refine hK.out _ _ (HBx.out.grown hg9 (by intro e;injection e with e;have:=HB1.out.lt;omega)) (qaw (qcu ?_))
    exact ⟨rfl,g3,rfl,BV9,HRx.out.keep (Keep.grown hg9 (fun k hk h=>by injection hk with hk;have:=h.2;omega)),qbd HGx.out hg9 hg3W,hg3W⟩
   ·refine pD fun K hK=>?_;go_simp
    obtain ⟨v5,hn⟩:∃ W',W'=v4.alloc (.cells #[.string ⟨#[]⟩,.int .i64 0,.slice none 0 0] 126):=⟨_,rfl⟩
    have hb:Below v4.heap.size v4 v5:=by rw [hn];exact (zb _ _).alloc (zl _) _
    have hV:Blk v5 v4.heap.size 126 #[.string ⟨#[]⟩,.int .i64 0,.slice none 0 0]:=by rw [hn];exact Blk.new _ _ _
    rw [<-hn]
    obtain ⟨g3,hg3⟩:∃ g,v4.heap.size=g:=⟨_,rfl⟩
    have hg3W:W.heap.size<=g3:=by have h1:=HGx.out.size;have h2:W.drew.heap.size=W.heap.size:=rfl;omega
    rw [hg3] at hV ⊢
    have HVx:=zh hV
    have HBx:=zh (HBx.out.ext hb)
    have HRx:=zh (HRx.out.ext hb)
    have HGx:=zh (qbr HGx.out hb)
    refine hK.out _ _ HBx.out ?_
    clear hK K hn hb hV hg3
    refine qaw ?_
    refine qbp ?_
    refine pD fun K hK=>?_;go_simp
    have HF:=zh (qge HRx.out (by omega) (by simp only [List.length_append,qax,HRB.out];omega))
    refine HF.out.mono ?_
    rintro e v6 ⟨rfl,hR,hg⟩
    have HBx:=zh (HBx.out.grown hg (by intro e;injection e with e;omega))
    have HVx:=zh (HVx.out.grown hg (by intro e;injection e with e;omega))
    have HGx:=zh (qah HGx.out hg)
    have HRx:=zh hR
    refine hK.out _ _ HBx.out ?_
    clear hK K HF hg hR
    repeat ((first|refine pT ?_|refine pF ?_);try go_frame)
    have p:=HVx.out.three (zb _ _)
    have f:=HVx.out.free3
    refine pD fun K hK=>?_;go_simp
    have BV9:Blk _ g3 126 #[.string ⟨nm.toArray⟩,.int .i64 1,.slice none 0 0]:=((HVx.out.set_ 0 (.string ⟨nm.toArray⟩)).set_ 1 (.int .i64 1)).set_ 2 (.slice none 0 0)
    have hg9:=qah (qah (qac v6 g3 0 (.string ⟨nm.toArray⟩)) (qac _ g3 1 (.int .i64 1))) (qac _ g3 2 (.slice none 0 0))
    refine hK.out _ _ (HBx.out.grown hg9 (by intro e;injection e with e;have:=HB1.out.lt;omega)) (qaw (qcu ?_))
    exact ⟨rfl,g3,rfl,BV9,HRx.out.keep (Keep.grown hg9 (fun k hk h=>by injection hk with hk;have:=h.2;omega)),qbd HGx.out hg9 hg3W,hg3W⟩
  ·have HB0:=zh (Blk.drew HB1.out)
   have HR0:=zh (HR1.out.ext hd0)
   have HG0:=zh (Below.grown_by (g:=some r) hd0)
   refine pD fun K hK=>?_;go_simp
   obtain ⟨v1,hn⟩:∃ W',W'=(W.alloc (.cells #[.string ⟨#[]⟩,.int .i64 0,.slice none 0 0] 126)).drew:=⟨_,rfl⟩
   have hb:Below W.drew.heap.size W.drew v1:=by rw [hn];exact show Below W.heap.size W.drew (W.drew.alloc _) from (zb W.heap.size W.drew).alloc (zl _) _
   have hV:Blk v1 W.heap.size 126 #[.string ⟨#[]⟩,.int .i64 0,.slice none 0 0]:=by rw [hn];exact Blk.new _ _ _
   rw [<-hn]
   obtain ⟨g3,hg3⟩:∃ g,W.heap.size=g:=⟨_,rfl⟩
   have hg3W:W.heap.size<=g3:=by have h1:=HG0.out.size;have h2:W.drew.heap.size=W.heap.size:=rfl;omega
   rw [hg3] at hV ⊢
   have HVx:=zh hV
   have HBx:=zh (HB0.out.ext hb)
   have HRx:=zh (HR0.out.ext hb)
   have HGx:=zh (qbr HG0.out hb)
   refine hK.out _ _ HBx.out ?_
   clear hK K hn hb hV hg3
   refine qaw ?_
   refine qbp ?_
   refine pD fun K hK=>?_;go_simp
   have HF:=zh (qcy (b8 1) HRx.out (by simp only [List.length_append,qax,HRB.out];omega))
   refine HF.out.mono ?_
   rintro e v2 ⟨rfl,hR,hg⟩
   rw [show ((b8 1).toNat:Int)=1 from rfl]
   have HBx:=zh (HBx.out.grown hg (by intro e;injection e with e;omega))
   have HVx:=zh (HVx.out.grown hg (by intro e;injection e with e;omega))
   have HGx:=zh (qah HGx.out hg)
   have HRx:=zh hR
   refine hK.out _ _ HBx.out ?_
   clear hK K HF hg hR
   refine pD fun K hK=>?_;go_simp
   have HF:=zh (qge HRx.out (by omega) (by simp only [List.length_append,qax,HRB.out];omega))
   refine HF.out.mono ?_
   rintro e v3 ⟨rfl,hR,hg⟩
   have HBx:=zh (HBx.out.grown hg (by intro e;injection e with e;omega))
   have HVx:=zh (HVx.out.grown hg (by intro e;injection e with e;omega))
   have HGx:=zh (qah HGx.out hg)
   have HRx:=zh hR
   refine hK.out _ _ HBx.out ?_
   clear hK K HF hg hR
   repeat ((first|refine pT ?_|refine pF ?_);try go_frame)
   have p:=HVx.out.three (zb _ _)
   have f:=HVx.out.free3
   refine pD fun K hK=>?_;go_simp
   have BV9:Blk _ g3 126 #[.string ⟨nm.toArray⟩,.int .i64 1,.slice none 0 0]:=((HVx.out.set_ 0 (.string ⟨nm.toArray⟩)).set_ 1 (.int .i64 1)).set_ 2 (.slice none 0 0)
   have hg9:=qah (qah (qac v3 g3 0 (.string ⟨nm.toArray⟩)) (qac _ g3 1 (.int .i64 1))) (qac _ g3 2 (.slice none 0 0))
   refine hK.out _ _ (HBx.out.grown hg9 (by intro e;injection e with e;have:=HB1.out.lt;omega)) (qaw (qcu ?_))
   exact ⟨rfl,g3,rfl,BV9,HRx.out.keep (Keep.grown hg9 (fun k hk h=>by injection hk with hk;have:=h.2;omega)),qbd HGx.out hg9 hg3W,hg3W⟩
 case refine_1 =>
  rintro e a9 w3 ⟨rfl,g3,rfl,BV,hR,hG,hg3⟩
  have HRa:=zh hR
  have hGw:=qah HG1.out hG
  have BR3:=HBR.out.grown hG (by intro e;injection e with e;omega)
  have B13:=HB1.out.grown hG (by intro e;injection e with e;omega)
  have hgrW:gr<W.heap.size:=HBR.out.lt
  clear hR hG D B1 BR
  have HF:=zh (qge HRa.out (by rw [HRB.out];omega) (by omega))
  have q:=B13.cell 0
  go_wp2_with fail
  refine HF.out.mono ?_
  rintro e w4 ⟨rfl,hR4,hg4⟩
  have HR4:=zh hR4
  have BV4:=BV.grown hg4 (by intro e;injection e with e;omega)
  have BR4:=BR3.grown hg4 (by intro e;injection e with e;omega)
  have B14:=B13.grown hg4 (by intro e;injection e with e;omega)
  have hG4:=qah hGw hg4
  clear hR4 hg4 HF q HRa BV BR3 B13 hGw
  obtain ⟨cb,w5,hcv,hby,hb5,_⟩:=qih ⟨(rowB [numV N]).toArray⟩ w4
  have hsz:(⟨(rowB [numV N]).toArray⟩:ByteArray).size=10:=by show (rowB [numV N]).toArray.size=10;rw [List.size_toArray,HRB.out]
  rw [hsz] at hcv hby
  have HR5:=zh (HR4.out.ext hb5)
  have BV5:=BV4.ext hb5
  have BR5:=BR4.ext hb5
  have B15:=B14.ext hb5
  have hG5:=qbr hG4 hb5
  have HF:=zh (rparse1_ (N:=N) (w:=w5) (A:=some ⟨w4.heap.size,0,none⟩) (n:=10) (c:=cb) (by have:=hby;simpa using this) hN)
  clear hby HR4 BV4 BR4 B14 hb5 hsz
  go_wp2_with fail
  refine HF.out.mono ?_
  rintro e w6 ⟨A6,c6,rfl,hs6,hb6⟩
  have HS6:=zh (hs6.mono (G:=fun b=>w.heap.size<=b/\b≠gr/\b≠g3) (fun b h=>by have h1:=hG5.size;have h2:=BR5.lt;have h4:=BV5.lt;have h3:w5.heap.size<=b:=h;exact ⟨by omega,by omega,by omega⟩))
  have BV6:=BV5.ext hb6
  have BR6:=BR5.ext hb6
  have B16:=B15.ext hb6
  have HR6:=zh (HR5.out.ext hb6)
  have hG6:=qbr hG5 hb6
  have hg3r:g3≠gr:=by omega
  have HF:=zh (fail0_ (w:=w6) r)
  have q:=B16.cell 0
  clear hs6 hb6 hcv BV5 BR5 B15 HR5 hG5
  go_wp2_with fail
  refine HF.out.mono ?_
  rintro e w7 ⟨rfl,hb7⟩
  have BV7:=BV6.ext hb7
  have BR7:=BR6.ext hb7
  have HR7:=zh (HR6.out.ext hb7)
  have HS7:=zh (HS6.out.ext hb7)
  have hG7:=qbr hG6 hb7
  clear q HF BV6 BR6 B16 HR6 HS6 hG6 hb7
  have p:=BV7.three (zb _ _)
  have f:=BV7.free3
  have pr:=BR7.three (zb _ _)
  have fr:=BR7.free3
  go_wp2
  have BR9:Blk _ gr 126 #[.string ⟨nm.toArray⟩,.int .i64 1,.slice A6 1 c6]:=(((BR7.far (p:=⟨g3,2,none⟩) (Ne.symm hg3r) (.slice A6 1 c6)).set_ 0 (.string ⟨nm.toArray⟩)).set_ 1 (.int .i64 1)).set_ 2 (.slice A6 1 c6)
  have hg3w:w.heap.size<=g3:=Nat.le_trans hwW hg3
  have hg9:=qbd (qbd (qbd (qbd hG7 (qac w7 g3 2 (.slice A6 1 c6)) hg3w) (qac _ gr 0 (.string ⟨nm.toArray⟩)) hgrw) (qac _ gr 1 (.int .i64 1)) hgrw) (qac _ gr 2 (.slice A6 1 c6)) hgrw
  have hk9:Keep (fun b=>b≠g3/\b≠gr) w7 _:=(((Keep.set w7 ⟨g3,2,none⟩ (.slice A6 1 c6) (fun h=>h.1 rfl)).trans (Keep.set _ ⟨gr,0,none⟩ (.string ⟨nm.toArray⟩) (fun h=>h.2 rfl))).trans (Keep.set _ ⟨gr,1,none⟩ (.int .i64 1) (fun h=>h.2 rfl))).trans (Keep.set _ ⟨gr,2,none⟩ (.slice A6 1 c6) (fun h=>h.2 rfl))
  exact bodyPost_ret (v:=.agg #[.string ⟨nm.toArray⟩,.int .i64 1,.slice A6 1 c6]) (results_cell_row rfl _ _ gr _ _ (0,0) _ rfl BR9 Tryz.underlying126 rfl (by kernel_rfl)) rfl ⟨A6,c6,rfl,(HS7.out.keep (hk9.mono (fun b h=>⟨h.2.2,h.2.1⟩))).mono (fun b h=>h.1),(HR7.out.keep (hk9.mono (fun b h=>⟨by have:=h.2;omega,by have:=h.2;omega⟩))).mono (fun b h=>h.1),hg9⟩
end Go.Proofs.YtdjbpcnhnkemiaaGreat.tp
