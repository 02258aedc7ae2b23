/- Laws of its own that the claim's proof needs; no condition beyond those that each states. -/
import Derived.Test.YtdjbpcnhnkemiaaGreatZ5
import Derived.Test.YtdjbpcnhnkemiaaGreatZ1
import Derived.ArgAppend
import Derived.Test.YtdjbpcnhnkemiaaGreatZ3
import Derived.Deep.CutBlock
import Derived.Defers
set_option linter.unusedVariables false
set_option maxRecDepth 1000000
set_option maxHeartbeats 16000000
namespace Go.Proofs.YtdjbpcnhnkemiaaGreat.tb
open Go.ChangeShapes Go.WideShapes Go.ChangeAt Go.RowKit Go.Proofs.YtdjbpcnhnkemiaaGreat.lib Go.Proofs.YtdjbpcnhnkemiaaGreat.val
theorem grow0 (n:Nat) (w:World) (h0:0<n) (hn:n<=200000) :
  Calls Tryz.prog 226 #[.slice none 0 0,.int .i64 n] w fun e w'=>∃ v,e=.returned v/\w'.ownsRow w.heap.size 71 1 v 0 []/\Below w.heap.size w w':=by
 obtain ⟨i0,hi,hz0,hz1,hz2⟩:=ip Tryz.prog 71 (.slice none 0 0) 1 24
 have hrun:=fun ty=>Lib.run_append_nil_zeros (P:=Tryz.prog) w 116 3 ty 71 i0 _ .i64 .i64 Tryz.underlying116 Tryz.underlying3 hi hz0 n h0 (by rw [hz1];decide) (by omega) (by rw [hz2];omega)
 have h2:=zh (World.ownsRow_made (e:=71) (size:=1) (base:=w.heap.size) w.drew (Builtin.zeroCells (Value.slice none 0 0).cells n++Builtin.zeroCells (Value.slice none 0 0).cells (grownCap w n 0 71 - n)) (grownCap w n 0 71) (zl _) (grownCap_le_maxLen _ _ _ _ (by unfold maxLen;omega)) (by
  have:=grownCap_ge w n 0 71
  simp [size_zeroCells,Value.cells];try omega))
 have h3:=zh (((zb w.heap.size w).drew).alloc (zl _) (.cells (Builtin.zeroCells (Value.slice none 0 0).cells n++Builtin.zeroCells (Value.slice none 0 0).cells (grownCap w n 0 71 - n)) 71))
 have hge:=grownCap_ge w n 0 71
 have hle:=grownCap_le_maxLen w n 0 71 (by unfold maxLen;omega)
 unfold maxLen at hle
 generalize grownCap w n 0 71=G at *
 generalize hWW:w.drew.alloc (.cells (Builtin.zeroCells (Value.slice none 0 0).cells n++Builtin.zeroCells (Value.slice none 0 0).cells (G - n)) 71)=WW at *
 clear hWW
 have d1:decide ((n:Int)<0)=false:=by simp;try omega
 have d2:decide (0<(n:Int))=true:=by simp;try omega
 go_enter Tryz.func226,Tryz.ntmps226
 go_wp2_with (at_builtin;refine Lib.wpList_append_run _ rfl _ _ _ _ rfl _ _ rfl rfl _ _ (hrun _) ?_)
 go_ret
 exact ⟨_,rfl,h2.out,h3.out⟩
theorem grow_ (n:Nat) (w:World) (hn:n<=200000) :
  Calls Tryz.prog 226 #[.slice none 0 0,.int .i64 n] w fun e w'=>∃ v,e=.returned v/\w'.ownsRow w.heap.size 71 1 v 0 []/\Below w.heap.size w w':=by
 rcases Nat.eq_zero_or_pos n with rfl|h0
 ·go_enter Tryz.func226,Tryz.ntmps226
  go_wp2
  go_ret
  exact ⟨_,rfl,World.ownsRow_nil _ _ _ _,zb _ _⟩
 ·exact grow0 n w h0 hn
structure Part where
 A:Option Addr
 n:Nat
 c:Nat
 cs:List Value
structure PartOk (w:World) (p:Part):Prop where
 row:Row w 0 p.A p.n p.c p.cs
 len:p.cs.length=p.n
 one:∀ u∈p.cs,u.oneCell'=true
theorem PartOk.ext {w w':World} {p:Part} (h:PartOk w p) (hb:Below w.heap.size w w'):PartOk w' p:=⟨h.row.ext hb,h.len,h.one⟩
def sumN (ps:List Part):Nat:=(ps.map (·.n)).sum
def allC (ps:List Part):List Value:=ps.flatMap (·.cs)
theorem qda {α:Type} {l:List α} {k:Nat} {x:α} (h:l[k]? = some x):l.take (k+1)=l.take k++[x]:=by rw [List.take_add_one,h];rfl
theorem qfs {ps:List Part} {k:Nat} {p:Part} (h:ps[k]? = some p):sumN (ps.take (k+1))=sumN (ps.take k)+p.n:=by
 rw [qda h];simp [sumN]
theorem qjr {ps:List Part} {k:Nat} {p:Part} (h:ps[k]? = some p):allC (ps.take (k+1))=allC (ps.take k)++p.cs:=by
 rw [qda h];simp [allC]
theorem qhp (ps:List Part) (k:Nat):sumN (ps.take k)<=sumN ps:=by
 have e:sumN ps=sumN (ps.take k)+sumN (ps.drop k):=by
  unfold sumN
  rw [<-List.sum_append,<-List.map_append,List.take_append_drop]
 omega
def ConP (cs:List Value) (n:Nat) (w:World) (r:Ending) (w':World):Prop:=∃ A c,r=.returned (.slice A n c)/\w'.ownsRow w.heap.size 71 1 (.slice A n c) n cs/\Below w.heap.size w w'
theorem qdl (ps:List Part) (g m:Nat) (w:World) (hm:ps.length=m) (hg:g<w.heap.size) (hc:∀ (i:Nat) p,ps[i]? = some p->w.cell? ⟨g,i,none⟩=some (.slice p.A p.n p.c)/\PartOk w p) (hN:sumN ps<=100000) (hm2:m<=1000) :
  Calls Tryz.prog 179 #[.slice (some ⟨g,0,none⟩) m m] w (ConP (allC ps) (sumN ps) w):=by
 obtain ⟨i0,hi,hz0,hz1,hz2⟩:=ip Tryz.prog 71 (.slice none 0 0) 1 24
 have HM:=zh hm
 have HC:=zh hc
 clear hm hc
 obtain ⟨N,hNe⟩:∃ N,sumN ps=N:=⟨_,rfl⟩
 have HN:=zh hNe
 rw [hNe] at hN ⊢
 clear hNe
 go_enter Tryz.func179,Tryz.ntmps179
 go_wp2_with fail
 go_loopw [3,11] (fun s i wr=>∃ (k z:Nat),k<=m/\i=.int .i64 k/\s=.int .i64 z/\Hid (z=sumN (ps.take k))/\Below w.heap.size w wr) (fun _ i _=>m - (intOf i).toNat)
 case atStart=>exact ⟨0,0,Nat.zero_le _,rfl,rfl,zh (by simp [sumN]),zb _ _⟩
 case round =>
  obtain ⟨k,z,hk,rfl,rfl,HZ,hbl⟩:=hrel
  rcases Nat.lt_or_ge k m with hlt|hge
  ·have hd:decide ((k:Int)<(m:Int))=true:=by simp;omega
   have hkn:(k:Int)<(m:Int):=by omega
   obtain ⟨p,hx⟩:∃ p,ps[k]? = some p:=⟨_,List.getElem?_eq_getElem (by rw [HM.out];exact hlt)⟩
   obtain ⟨q,hp⟩:=HC.out k p hx
   have q:=(hbl.cell (p:=⟨g,k,none⟩) hg).trans q
   have hs:=qfs hx
   have hsl:=qhp ps (k+1)
   have hzn:z+p.n<=100000:=by rw [HZ.out];have:=HN.out;omega
   have HS:=zh (show z+p.n=sumN (ps.take (k+1)) by rw [HZ.out,hs])
   clear hx hs hsl
   have hd2:decide ((z:Int)+(p.n:Int)<0)=false:=by simp;omega
   go_wp2_with fail
   go_roundw
   case rel=>exact ⟨k+1,z+p.n,by omega,by go_num,by go_num,HS,hbl⟩
   case measure=>simp [intOf];omega
  ·have hd:decide ((k:Int)<(m:Int))=false:=by simp;omega
   obtain rfl:k=m:=by omega
   have hzN:z=N:=by rw [HZ.out,List.take_of_length_le (by rw [HM.out];exact zl _),HN.out]
   subst hzN
   go_wp2_with fail
   refine (grow_ z _ (by omega)).mono ?_
   rintro e w1 ⟨v,rfl,hown,hb1⟩
   have HO1:=zh (qat hown hbl.size)
   have hb1:=zt hbl (zm hb1 hbl.size)
   clear hown
   go_wp2_with fail
   go_loopw [6,27] (fun o i wr=>∃ (j z2:Nat),j<=k/\i=.int .i64 j/\wr.ownsRow w.heap.size 71 1 o z2 (allC (ps.take j))/\Hid (z2=sumN (ps.take j))/\Below w.heap.size w wr) (fun _ i _=>k - (intOf i).toNat)
   case atStart=>exact ⟨0,0,Nat.zero_le _,rfl,HO1.out,zh (by simp [sumN]),hb1⟩
   case round =>
    obtain ⟨j,z2,hj,rfl,hown,HZ2,hbw⟩:=hrel
    obtain ⟨A2,c2,rfl⟩:=qan hown
    have HO2:=zh hown
    clear hown
    rcases Nat.lt_or_ge j k with hlt|hge
    ·have hd:decide ((j:Int)<(k:Int))=true:=by simp;omega
     have hkn:(j:Int)<(k:Int):=by omega
     obtain ⟨p,hx⟩:∃ p,ps[j]? = some p:=⟨_,List.getElem?_eq_getElem (by rw [HM.out];exact hlt)⟩
     obtain ⟨q,hp⟩:=HC.out j p hx
     have q:=(hbw.cell (p:=⟨g,j,none⟩) hg).trans q
     have hs:=qfs hx
     have hsl:=qhp ps (j+1)
     have hzn:z2+p.n<=100000:=by rw [HZ2.out];have:=HN.out;omega
     have HS:=zh (show z2+p.n=sumN (ps.take (j+1)) by rw [HZ2.out,hs])
     have HA:=zh (qjr hx)
     have HP:=zh (hp.ext hbw)
     clear hx hs hsl hp
     obtain ⟨pA,pn,pc,pcs⟩:=p
     cases pA with
     | none =>
      have hr2:pn=0/\pc=0/\pcs=[]:=by
       rcases HP.out.row with h|⟨_,h,_⟩|⟨_,_,h,_⟩
       ·exact h.2
       ·cases h
       ·cases h
      obtain ⟨rfl,rfl,rfl⟩:=hr2
      go_wp2_with (at_builtin;refine wpList_append_own_none rfl (.tmp 31) (.tmp 32) 116 rfl w.heap.size 71 i0 1 Tryz.underlying116 hi _ z2 _ rfl HO2.out rfl ?_)
      go_roundw
      case rel=>exact ⟨j+1,z2,by omega,by go_num,by rw [HA.out];simpa using HO2.out,HS,hbw⟩
      case measure=>simp [intOf];omega
     | some ad =>
      go_wp2_with (at_builtin;refine wpList_append_own _ rfl (.tmp 31) (.tmp 32) 116 rfl w.heap.size 71 i0 _ 1 24 Tryz.underlying116 hi hz0 hz1 hz2 rfl (by decide) _ _ _ rfl HO2.out ad pn pc pcs rfl ?c0 ?c1 ?c2 ?c3 ?c4 ?c5 ?_)
      case c0=>simpa using HP.out.len
      case c1=>exact HP.out.row.src'
      case c2=>exact HP.out.one
      case c3=>unfold maxLen;omega
      case c4=>omega
      case c5=>exact hbw.size
      intro v' w3 hown3 hgrow3 _
      go_wp2
      go_roundw
      case rel=>exact ⟨j+1,z2+pn,by omega,by go_num,by rw [HA.out];exact hown3,HS,hbw.grown hgrow3 hbw.size (fun b hb=>(HO2.out.lt b hb).1)⟩
      case measure=>simp [intOf];omega
    ·have hd:decide ((j:Int)<(k:Int))=false:=by simp;omega
     obtain rfl:j=k:=by omega
     have e:ps.take j=ps:=List.take_of_length_le (by rw [HM.out];exact zl _)
     have hzN:z2=z:=by rw [HZ2.out,e,HN.out]
     subst hzN
     have h2:=HO2.out
     rw [e] at h2
     go_wp2
     go_ret
     exact ⟨A2,c2,rfl,h2,hbw⟩
theorem Blk.set1 {w:World} {g i:Nat} {t:TypeId} {cs:Array Value} (h:Blk w g t cs) (a:Value):∃ w',w'=w.setCell ⟨g,i,none⟩ a/\Blk w' g t (cs.setIfInBounds i a)/\(∀ B,B<=g->Below B w w')/\w.grownBy w' (some g):=by
 refine ⟨_,rfl,h.set_ i a,fun B hB=>(zb _ _).setCell hB _,⟨rfl,rfl,rfl,by simp [World.setCell],fun k hk hne=>?_⟩⟩
 have hne:k≠g:=fun e=>hne (by rw [e])
 exact Below.heap_setCell _ _ _ _ hne
theorem qah {a b c:World} {g:Nat} (h:a.grownBy b (some g)) (k:b.grownBy c (some g)):a.grownBy c (some g) :=
 ⟨k.os.trans h.os,k.tape.trans h.tape,k.output.trans h.output,Nat.le_trans h.size k.size,fun i hi hne=>(k.block i (Nat.lt_of_lt_of_le hi h.size) hne).trans (h.block i hi hne)⟩
theorem Blk.set5 {w:World} {g:Nat} {t:TypeId} {x0 x1 x2 x3 x4:Value} (h:Blk w g t #[x0,x1,x2,x3,x4]) (a0 a1 a2 a3 a4:Value) :
  ∃ w',w'=((((w.setCell ⟨g,0,none⟩ a0).setCell ⟨g,1,none⟩ a1).setCell ⟨g,2,none⟩ a2).setCell ⟨g,3,none⟩ a3).setCell ⟨g,4,none⟩ a4/\Blk w' g t #[a0,a1,a2,a3,a4] /\
  (∀ B,B<=g->Below B w w')/\w.grownBy w' (some g):=by
 obtain ⟨w0,e0,h0,b0,g0⟩:=Blk.set1 (i:=0) h a0
 obtain ⟨w1,e1,h1,b1,g1⟩:=Blk.set1 (i:=1) h0 a1
 obtain ⟨w2,e2,h2,b2,g2⟩:=Blk.set1 (i:=2) h1 a2
 obtain ⟨w3,e3,h3,b3,g3⟩:=Blk.set1 (i:=3) h2 a3
 obtain ⟨w4,e4,h4,b4,g4⟩:=Blk.set1 (i:=4) h3 a4
 refine ⟨w4,by rw [e4,e3,e2,e1,e0],by simpa using h4,fun B hB=>?_,qah (qah (qah (qah g0 g1) g2) g3) g4⟩
 exact zt (b0 B hB) (zt (b1 B hB) (zt (b2 B hB) (zt (b3 B hB) (b4 B hB))))
structure Parts (w:World) (g m:Nat) (rows:List (List V)) (ps:List Part):Prop where
 len:ps.length=m
 blk:g<w.heap.size
 few:m<=1000
 cell:∀ (i:Nat) p,ps[i]? = some p->w.cell? ⟨g,i,none⟩=some (.slice p.A p.n p.c)/\PartOk w p
 sum:sumN ps=rows.length
 hs:Hs w 0 (allC ps) rows
theorem Parts.ext {w w':World} {g m:Nat} {rows:List (List V)} {ps:List Part} (h:Parts w g m rows ps) (hb:Below w.heap.size w w'):Parts w' g m rows ps :=
 ⟨h.len,Nat.lt_of_lt_of_le h.blk hb.size,h.few,fun i p hp=>⟨(hb.cell (p:=⟨g,i,none⟩) h.blk).trans (h.cell i p hp).1,(h.cell i p hp).2.ext hb⟩,h.sum,h.hs.ext hb⟩
def TabP (S:Sch) (rows:List (List V)) (w:World) (r:Ending) (w':World):Prop:=∃ v,r=.returned v/\TabR w' w.heap.size v S rows/\Below w.heap.size w w'
theorem Cs.grownL {w w':World} {g lo n c:Nat} {A:Option Addr} {l:List Col} (h:Cs w lo A n c l) (hg:w.grownBy w' (some g)) (hl:g<lo):Cs w' lo A n c l:=⟨h.1.grownL hg hl,h.2⟩
theorem Hs.grownL {w w':World} {g lo:Nat} {hs:List Value} {rows:List (List V)} (h:Hs w lo hs rows) (hg:w.grownBy w' (some g)) (hl:g<lo):Hs w' lo hs rows:=⟨h.1,fun i h' r h1 h2=>by
 obtain ⟨A,c,e,hv⟩:=h.2 i h' r h1 h2
 exact ⟨A,c,e,hv.1.grownL hg hl,hv.2⟩⟩
theorem Rs.grownL {w w':World} {g lo n c:Nat} {A:Option Addr} {rows:List (List V)} (h:Rs w lo A n c rows) (hg:w.grownBy w' (some g)) (hl:g<lo):Rs w' lo A n c rows:=by
 obtain ⟨hs,h1,h2,h3⟩:=h
 exact ⟨hs,h1.grownL hg hl,h2.grownL hg hl,h3⟩
theorem with_ (S:Sch) (lo:Nat) (A:Option Addr) (n c:Nat) (A':Option Addr) (n' c':Nat) (rows:List (List V)) (ps:List Part) (g m:Nat) (w:World) (hC:Cs w lo A n c S.cols) (hn:n<=100000) (hp:Parts w g m rows ps) (hN:rows.length<=100000) (hl:∀ r∈rows,r.length<=100000) :
  Calls Tryz.prog 106 #[.agg (tabA S A n c A' n' c'),.slice (some ⟨g,0,none⟩) m m] w (TabP S rows w):=by
 obtain ⟨nm,cols,key,only⟩:=S
 simp only [tabA] at hC ⊢
 have HL:=zh hl
 clear hl
 go_enter Tryz.func106,Tryz.ntmps106
 go_upto_region 1 with fail
 obtain ⟨W,hW_,hbW,B1,B2⟩:=al2 w 245 120 #[.string nm,.slice A n c,.int .i64 key,.bool only,.slice A' n' c'] #[.string ⟨#[]⟩,.slice none 0 0,.int .i64 0,.bool false,.slice none 0 0]
 rw [<-hW_]
 clear hW_
 have q1:=five B1 (zb _ _)
 have hWl:=B2.lt
 go_wp2_with fail
 clear q1
 obtain ⟨W2,hW_,hb2,B3⟩:=al1 W 66 #[.string nm,.slice A n c,.int .i64 key,.bool only]
 rw [<-hW_]
 clear hW_
 have hbW2:=zt hbW (zm hb2 hbW.size)
 have hz3:=B3.lt
 refine (cloneC cols lo A n c _ hn (hC.ext hbW2)).mono ?_
 rintro e w3 ⟨Ac,cc,rfl,hown3,hb3⟩
 have hC3:Cs w3 W2.heap.size Ac n cc cols:=Cs.of_own hown3
 have B3:=B3.ext hb3
 have B2:=(B2.ext hb2).ext hb3
 have hbw3:=zt hbW2 (zm hb3 hbW2.size)
 have hz1:=hbW.size
 have hz2:=hb2.size
 have f:=B3.frozen 1
 have q:=B3.cell 1
 have hz33:=hb3.size
 clear hown3 hb3
 go_wp2_with fail
 clear f q
 obtain ⟨w4,hw4,B4,hlow4,hgr4⟩:=Blk.set1 (i:=1) B3 (.slice Ac n cc)
 rw [<-hw4]
 clear hw4
 have B4:Blk w4 W.heap.size 66 #[.string nm,.slice Ac n cc,.int .i64 key,.bool only]:=B4
 have hbw4:=zt hbw3 (hlow4 _ hz1)
 have B2:Blk w4 (w.heap.size+1) 120 #[.string ⟨#[]⟩,.slice none 0 0,.int .i64 0,.bool false,.slice none 0 0]:=B2.grown hgr4 (by simp;omega)
 have hgl:=hlow4 _ (zl _)
 have hg4:=hgr4.size
 have hgC:Cs w4 W2.heap.size Ac n cc cols:=hC3.grownL hgr4 hz3
 have D:=fun w' (h:Blk w' W.heap.size 66 #[.string nm,.slice Ac n cc,.int .i64 key,.bool only]/\Below w.heap.size w w')=>four h.1 (zb _ _)
 refine r2 (S:=fun w'=>Blk w' W.heap.size 66 #[.string nm,.slice Ac n cc,.int .i64 key,.bool only]/\Below w.heap.size w w') [(0,true),(1,true),(2,false),(3,false),(4,true),(5,false)] ⟨B4,hbw4.drew⟩ ?_
 repeat ((first|refine pT ?_|refine pF ?_);try go_frame)
 refine pD fun K hK=>?_;go_simp
 have hpx:=hp.ext hbw4.drew
 refine (qdl ps g m _ hpx.len hpx.blk hpx.cell (by rw [hpx.sum];exact hN) hpx.few).mono ?_
 rintro e w5 ⟨A5,c5,rfl,hown5,hb5⟩
 have hbw5:=zt hbw4.drew (zm hb5 hbw4.size)
 refine hK.out _ _ ⟨B4.ext (zt (zb _ _).drew hb5),hbw5⟩ ?_
 clear hK K
 refine pD fun K hK=>?_;go_simp
 have hR5:Rs w5 0 A5 (sumN ps) c5 rows:=⟨allC ps,(Row.of_own hown5).base (Nat.zero_le _),hpx.hs.ext hb5,hpx.sum.symm⟩
 refine (own_ rows 0 A5 (sumN ps) c5 _ hR5 (by rw [hpx.sum];exact hN) HL.out).mono ?_
 rintro e w6 ⟨A6,c6,rfl,hR6,hF6,hb6⟩
 have hb46:=zt (zb _ _).drew (zt hb5 (zm hb6 hb5.size))
 have hbw6:=zt hbw5 (zm hb6 hbw5.size)
 refine hK.out _ _ ⟨B4.ext hb46,hbw6⟩ ?_
 clear hK K
 repeat ((first|refine pT ?_|refine pF ?_);try go_frame)
 clear D
 have B2:=B2.ext hb46
 have f0:=B2.frozen 0
 have f1:=B2.frozen 1
 have f2:=B2.frozen 2
 have f3:=B2.frozen 3
 have f4:=B2.frozen 4
 have q:=five B2 (zb _ _)
 refine pD fun K hK=>?_;go_simp
 clear f0 f1 f2 f3 f4 q
 obtain ⟨w7,hw7,B7,hlow7,hgr7⟩:=Blk.set5 B2 (.string nm) (.slice Ac n cc) (.int .i64 key) (.bool only) (.slice A6 (sumN ps) c6)
 rw [<-hw7]
 clear hw7
 have hbw7:=zt hbw6 (hlow7 _ (Nat.le_succ _))
 have hz4:W2.heap.size<=w4.heap.size:=by omega
 have hz5:w4.heap.size<=w5.heap.size:=hb5.size
 refine hK.out _ _ ⟨(B4.ext hb46).grown hgr7 (by simp;omega),hbw7⟩ (qad ?_)
 clear hK K
 have q:=five B7 (zb _ _)
 go_wp2
 exact bodyPost_ret (v:=.agg #[.string nm,.slice Ac n cc,.int .i64 key,.bool only,.slice A6 (sumN ps) c6]) (by simp [results,Tryz.results106,go_sem,q];try rfl) rfl
  ⟨_,rfl,⟨Ac,n,cc,A6,sumN ps,c6,rfl,((hgC.ext hb46).grownL hgr7 (by omega)).base (by omega),(hR6.grownL hgr7 (by omega)).base (by omega),hF6⟩,hbw7⟩
def Small (r:List V):Prop:=∀ v∈r,v.s.size<=maxLen
theorem check_ (v:V) (w:World) (hs:v.s.size<=maxLen) :
  Calls Tryz.prog 177 #[.agg #[.int .i64 v.k,.int .i64 v.n,.string v.s]] w fun e w'=>e=.returned (.int .i64 (vchk v))/\Below w.heap.size w w':=check v.k v.n v.s w hs
theorem fits_ (S:Sch) (lo:Nat) (A:Option Addr) (n c:Nat) (r:List V) (lo':Nat) (Ar:Option Addr) (m cr:Nat) (w:World) (hC:Cs w lo A n c S.cols) (hn:n<=100000) (hr:Vs w lo' Ar m cr r) (hm:m<=100000) (hs:Small r) :
  Calls Tryz.prog 105 #[.agg (schA S A n c),.slice Ar m cr] w fun e w'=>e=.returned (.int .i64 (qdi S.cols r))/\Below w.heap.size w w':=by
 obtain ⟨nm,cols,key,only⟩:=S
 simp only [schA] at hC ⊢
 have HS:=zh hs
 have HC:=zh hC
 have HR:=zh hr
 clear hs hC hr
 by_cases hmn:m=n
 case neg =>
  have e:qdi cols r=1:=by
   unfold qdi
   rw [if_pos (by rw [HR.out.2,HC.out.2];exact hmn)]
  rw [e]
  have hd:((m:Int) != (n:Int))=true:=by simp;omega
  go_enter Tryz.func105,Tryz.ntmps105
  go_wp2
  go_ret
  exact ⟨rfl,(zb _ _).alloc (zl _) _⟩
 subst hmn
 have e:qdi cols r=qdt cols r:=by
  unfold qdi
  rw [if_neg (by rw [HR.out.2,HC.out.2];simp)]
 rw [e]
 clear e
 obtain ⟨z,hz⟩:∃ z,qdt cols r=z:=⟨_,rfl⟩
 rw [hz]
 have HZ:=zh hz
 clear hz
 have hd:((m:Int) != (m:Int))=false:=by simp
 go_enter Tryz.func105,Tryz.ntmps105
 go_upto_region 1 with fail
 obtain ⟨W,hW_,hbW,B1⟩:=al1 w 66 #[.string nm,.slice A m c,.int .i64 key,.bool only]
 rw [<-hW_]
 clear hW_
 have q1:=four B1 (zb _ _)
 go_wp2_with fail
 clear q1 hd
 go_loopw [17] (fun i wr=>∃ k:Nat,k<=m/\i=.int .i64 k/\Below W.heap.size W wr/\Hid (qdt (cols.drop k) (r.drop k)=z)) (fun i _=>m - (intOf i).toNat)
 case atStart=>exact ⟨0,Nat.zero_le _,rfl,zb _ _,zh (by simpa using HZ.out)⟩
 case round =>
  obtain ⟨k,hk,rfl,hbw,HK⟩:=hrel
  have hw1:=zt hbW (zm hbw hbW.size)
  rcases Nat.lt_or_ge k m with hlt|hge
  case inr =>
   have hd:decide ((k:Int)<(m:Int))=false:=by simp;omega
   have hz0:z=0:=by rw [<-HK.out,qqe (by rw [HR.out.2];exact hge)]
   clear HK HZ
   subst hz0
   go_wp2
   go_ret
   exact ⟨rfl,hw1⟩
  have hd:decide ((k:Int)<(m:Int))=true:=by simp;omega
  have hkm:(k:Int)<(m:Int):=by omega
  obtain ⟨v,hv⟩:∃ v,r[k]? = some v:=⟨_,List.getElem?_eq_getElem (by rw [HR.out.2];exact hlt)⟩
  obtain ⟨cl,hcl⟩:∃ cl,cols[k]? = some cl:=⟨_,List.getElem?_eq_getElem (by rw [HC.out.2];exact hlt)⟩
  obtain ⟨b,o,rfl,_,_,hb⟩:=HR.out.1.some_ (by omega)
  obtain ⟨b',o',rfl,_,_,hb'⟩:=HC.out.1.some_ (by omega)
  have hst:=qpj hv hcl
  rw [HK.out] at hst
  have HST:=zh hst
  have hsz:=HS.out v (List.mem_of_getElem? hv)
  have q:=fun o=>((HR.out.ext hw1).ext ((zb _ _).alloc (zl _) o)).at_ hv
  have q0:=(HR.out.ext hw1).at_ hv
  have p:=fun o=>((HC.out.ext hw1).ext ((zb _ _).alloc (zl _) o)).at_ hcl
  have p0:=fun o o'=>((HC.out.ext hw1).ext (((zb _ _).alloc (zl _) o).alloc (by simp) o')).at_ hcl
  have q1:=fun o=>four B1 (hbw.alloc (by exact hbw.size) o)
  have q2:=fun o o'=>four B1 ((hbw.alloc (by exact hbw.size) o).alloc (by have:=hbw.size;simp;omega) o')
  clear hst hv hcl HK HZ
  obtain ⟨v0,v1,v2⟩:=v
  obtain ⟨c0,c1,c2⟩:=cl
  simp only at HST hsz
  go_wp2_with fail
  clear q q0 p p0 q1 q2
  obtain ⟨W2,hW_,hb2,B2,B3⟩:=al2 wr 70 63 #[.int .i64 v0,.int .i64 v1,.string v2] #[.string c0,.int .i64 c1,.bool c2]
  rw [<-hW_]
  clear hW_
  refine (check_ ⟨v0,v1,v2⟩ _ hsz).mono ?_
  rintro e w3 ⟨rfl,hb3⟩
  have hbw3:=zt hbw (zm (zt hb2 (zm hb3 hb2.size)) hbw.size)
  have hw3:=zt hbW (zm hbw3 hbW.size)
  have q2:=(B2.ext hb3).three (zb _ _)
  have q3:=(B3.ext hb3).three (zb _ _)
  clear hb2 hb3 B2 B3 hbw hw1
  obtain ⟨p1,hp1⟩:∃ p,(vchk ⟨v0,v1,v2⟩ != 0)=p:=⟨_,rfl⟩
  cases p1 with
  | true =>
   have e:z=vchk ⟨v0,v1,v2⟩:=by
    rw [HST.out,if_pos (by simpa using hp1)]
   go_wp2
   go_ret
   exact ⟨qcp e.symm,hw3⟩
  | false =>
   have h1:¬vchk ⟨v0,v1,v2⟩≠0:=by simpa using hp1
   have hst:=HST.out
   rw [if_neg h1] at hst
   by_cases hk0:v0=0
   ·cases c2 with
    | false =>
     have e:z=13:=by rw [hst,if_pos ⟨hk0,rfl⟩]
     have HE:=zh e
     subst hk0
     clear hst e h1
     go_wp2
     go_ret
     exact ⟨qcp HE.out.symm,hw3⟩
    | true =>
     rw [if_neg (by simp),if_neg (by simp [hk0])] at hst
     have HN:=zh hst.symm
     subst hk0
     clear hst h1
     go_wp2
     go_roundw
     case rel=>exact ⟨k+1,by omega,by go_num,hbw3,HN⟩
     case measure=>simp [intOf];omega
   ·rw [if_neg (by simp [hk0])] at hst
    have hk1:(v0 == 0)=false:=by simpa using hk0
    have hk2:(v0 != 0)=true:=by simpa using hk0
    by_cases hkk:v0=c1
    ·rw [if_neg (by simp [hkk])] at hst
     have HN:=zh hst.symm
     have hk3:(v0 != c1)=false:=by simpa using hkk
     clear hst h1 hkk hk0
     go_wp2
     go_roundw
     case rel=>exact ⟨k+1,by omega,by go_num,hbw3,HN⟩
     case measure=>simp [intOf];omega
    ·rw [if_pos ⟨hk0,hkk⟩] at hst
     have HE:=zh hst
     have hk3:(v0 != c1)=true:=by simpa using hkk
     clear hst h1 hkk hk0
     go_wp2
     go_ret
     exact ⟨qcp HE.out.symm,hw3⟩
theorem Hs.nth {w:World} {lo:Nat} {hs:List Value} {rows:List (List V)} (h:Hs w lo hs rows):Hs w 0 hs rows:=h.base (Nat.zero_le _)
theorem qjz {w:World} {lo n c:Nat} {A:Option Addr} {rows:List (List V)} (h:Rs w lo A n c rows):∃ cs,PartOk w ⟨A,n,c,cs⟩/\Hs w 0 cs rows/\n=rows.length:=by
 obtain ⟨hs,h1,h2,h3⟩:=h
 exact ⟨hs,⟨h1.base (Nat.zero_le _),by rw [h2.1];exact h3,h2.one_⟩,h2.nth,h3.symm⟩
theorem parts1 {w:World} {g:Nat} {t:TypeId} {lo n c:Nat} {A:Option Addr} {rows:List (List V)} (hb:Blk w g t #[.slice A n c]) (h:Rs w lo A n c rows):∃ ps,Parts w g 1 rows ps:=by
 obtain ⟨cs,h1,h2,h3⟩:=qjz h
 refine ⟨[⟨A,n,c,cs⟩],rfl,hb.lt,by decide,fun i p hp=>?_,by simp [sumN];exact h3,by simpa [allC] using h2⟩
 match i,hp with
 | 0,hp=>injection hp with hp;subst hp;exact ⟨hb.cell 0,h1⟩
theorem parts3 {w:World} {g:Nat} {t:TypeId} {lo n c lo' n' c' lo2 n2 c2:Nat} {A A' A2:Option Addr} {rows rows' rows2:List (List V)} (hb:Blk w g t #[.slice A n c,.slice A' n' c',.slice A2 n2 c2]) (h:Rs w lo A n c rows) (h':Rs w lo' A' n' c' rows') (h2:Rs w lo2 A2 n2 c2 rows2) :
  ∃ ps,Parts w g 3 (rows++(rows'++rows2)) ps:=by
 obtain ⟨cs,a1,a2,a3⟩:=qjz h
 obtain ⟨cs',b1,b2,b3⟩:=qjz h'
 obtain ⟨cs2,c1,c2',c3⟩:=qjz h2
 refine ⟨[⟨A,n,c,cs⟩,⟨A',n',c',cs'⟩,⟨A2,n2,c2,cs2⟩],rfl,hb.lt,by decide,fun i p hp=>?_,by simp [sumN];omega,by simpa [allC] using a2.append (b2.append c2')⟩
 match i,hp with
 | 0,hp=>injection hp with hp;subst hp;exact ⟨hb.cell 0,a1⟩
 | 1,hp=>injection hp with hp;subst hp;exact ⟨hb.cell 1,b1⟩
 | 2,hp=>injection hp with hp;subst hp;exact ⟨hb.cell 2,c1⟩
theorem Cs.base' {w:World} {lo n c:Nat} {A:Option Addr} {l:List Col} (h:Cs w lo A n c l):Cs w 0 A n c l:=h.base (Nat.zero_le _)
theorem TabR.grownL {w w':World} {g lo:Nat} {v:Value} {S:Sch} {rows:List (List V)} (h:TabR w lo v S rows) (hg:w.grownBy w' (some g)) (hl:g<lo):TabR w' lo v S rows:=by
 obtain ⟨A,n,c,A',n',c',e,h1,h2,h3⟩:=h
 exact ⟨A,n,c,A',n',c',e,h1.grownL hg hl,h2.grownL hg hl,h3⟩
theorem Rs.len {w:World} {lo n c:Nat} {A:Option Addr} {rows:List (List V)} (h:Rs w lo A n c rows):rows.length=n:=by obtain ⟨_,_,_,h⟩:=h;exact h
theorem Ok.small {cs:List Col} {key:Nat} {rows:List (List V)} (h:Ok cs key rows) (hc:cs.length<=100):∀ r∈rows,r.length<=100000:=fun r hr=>by
 have:=qic (h.fit r hr);omega
def PutP (S:Sch) (p:Int × List (List V)) (w:World) (e:Ending) (w':World):Prop:=∃ v,e=.returned (.tuple #[v,.int .i64 p.1])/\TabR w' w.heap.size v S p.2/\Below w.heap.size w w'
theorem put_ (S:Sch) (rows:List (List V)) (r:List V) (lo:Nat) (A:Option Addr) (n c:Nat) (A':Option Addr) (n' c':Nat) (lo':Nat) (Ar:Option Addr) (m cr:Nat) (w:World)
  (hC:Cs w lo A n c S.cols) (hR:Rs w lo A' n' c' rows) (hF:Fine A') (hr:Vs w lo' Ar m cr r) (hs:Small r) (hOk:Ok S.cols S.key rows) (hn:S.cols.length<=100) (hrows:rows.length<=1000) (hm:m<=100000) :
  Calls Tryz.prog 42 #[.agg (tabA S A n c A' n' c'),.slice Ar m cr] w (PutP S (putL S.cols S.key rows r) w):=by
 have hCn:n<=100:=by rw [<-hC.2];exact hn
 have hRn:=hR.len
 have HSm:=zh (hOk.small hn)
 have HK:=zh (hOk.keyed (Nat.le_trans hn (by decide)))
 have HO:=zh hOk
 have HRN:=zh hRn
 have hn':n'<=1000:=by omega
 clear hRn hOk
 have hCx:=hC.base'
 have hfits:=fun w' (h:Below w.heap.size w w')=>fits_ S lo A n c r lo' Ar m cr w' (hC.ext h) (by omega) (hr.ext h) hm hs
 have hwith:=fun (rs:List (List V)) ps g m w' (h:Below w.heap.size w w') hp hN hl=>with_ S lo A n c A' n' c' rs ps g m w' (hC.ext h) (by omega) hp hN hl
 have hfind:=fun (k:V) w' (h:Below w.heap.size w w')=>find_ S k rows lo A n c A' n' c' w' (hR.ext h) HK.out HO.out.ord (by omega)
 have hkey:=fun v w' (h:Below w.heap.size w w') hv=>key_ S A n c A' n' c' r lo' Ar m cr v w' (hr.ext h) hv hm
 obtain ⟨p,hp⟩:∃ p,putL S.cols S.key rows r=p:=⟨_,rfl⟩
 rw [hp]
 have HP:=zh hp
 clear hp
 unfold putL at HP
 obtain ⟨e,he⟩:∃ e,qdi S.cols r=e:=⟨_,rfl⟩
 rw [he] at HP hfits
 have HE:=zh he
 clear he
 have Hfits:=zh hfits
 have Hwith:=zh hwith
 have Hfind:=zh hfind
 have Hkey:=zh hkey
 clear hfits hwith hfind hkey hs hC
 obtain ⟨nm,cols,key,only⟩:=S
 simp only [tabA,schA] at Hfits Hwith Hfind Hkey HP hn HO HK HE hCx ⊢
 go_enter Tryz.func42,Tryz.ntmps42
 go_upto_region 1 with fail
 obtain ⟨W,hW_,hbW,B1,B2⟩:=al2 w 120 120 #[.string nm,.slice A n c,.int .i64 key,.bool only,.slice A' n' c'] #[.string ⟨#[]⟩,.slice none 0 0,.int .i64 0,.bool false,.slice none 0 0]
 rw [<-hW_]
 clear hW_
 have q1:=five B1 (zb _ _)
 have q1':=fun o=>five B1 ((zb _ _).alloc (zl _) o)
 have hz1:=B2.lt
 go_wp2_with fail
 clear q1 q1'
 obtain ⟨W2,hW_,hb2,B3⟩:=al1 W 245 #[.string nm,.slice A n c,.int .i64 key,.bool only,.slice A' n' c']
 rw [<-hW_]
 clear hW_
 have hbW2:=zt hbW (zm hb2 hbW.size)
 have B1:=B1.ext hb2
 have B2:=B2.ext hb2
 have hz2:=B3.lt
 clear hb2
 refine (Hfits.out _ hbW2).mono ?_
 rintro e2 w3 ⟨rfl,hb3⟩
 have hbw3:=zt hbW2 (zm hb3 hbW2.size)
 have B1:=B1.ext hb3
 have B2:=B2.ext hb3
 have B3:=B3.ext hb3
 have hz3:=hb3.size
 clear hb3
 by_cases he0:e=0
 case neg =>
  have hd:(e != 0)=true:=by simpa using he0
  have hpe:p=(e,rows):=by rw [<-HP.out,if_pos he0]
  subst hpe
  have q1:=five B1 (zb _ _)
  have q3:=five B3 (zb _ _)
  go_wp2_with fail
  clear q1 q3
  obtain ⟨W4,hW_,hb4,B4⟩:=al1 w3 116 #[.slice A' n' c']
  rw [<-hW_]
  clear hW_
  have hbwC:=zt hbw3 (zm hb4 hbw3.size)
  have hzC:=hb4.size
  have B2:=B2.ext hb4
  have hsmC:=HSm.out
  obtain ⟨ps,hps⟩:=parts1 B4 (hR.ext hbwC)
  clear hb4
  refine (Hwith.out rows ps _ _ _ hbwC hps (by omega) hsmC).mono ?_
  rintro e5 w5 ⟨v,rfl,hT,hb5⟩
  have hT':=hT
  obtain ⟨A5,n5,c5,A6,n6,c6,rfl,_⟩:=hT
  simp only [tabA] at hT' ⊢
  have hbw5:=zt hbwC (zm hb5 hbwC.size)
  have B2:=B2.ext hb5
  have f0:=B2.frozen 0
  have f1:=B2.frozen 1
  have f2:=B2.frozen 2
  have f3:=B2.frozen 3
  have f4:=B2.frozen 4
  have q:=five B2 (zb _ _)
  go_wp2
  clear f0 f1 f2 f3 f4 q
  obtain ⟨w6,hw6,B6,hlow6,hgr6⟩:=Blk.set5 B2 (.string nm) (.slice A5 n5 c5) (.int .i64 key) (.bool only) (.slice A6 n6 c6)
  rw [<-hw6]
  clear hw6
  have q:=five B6 (zb _ _)
  exact bodyPost_ret (v:=.tuple #[.agg #[.string nm,.slice A5 n5 c5,.int .i64 key,.bool only,.slice A6 n6 c6],.int .i64 e]) (by simp [results,Tryz.results42,go_sem,q];try rfl) rfl
   ⟨_,rfl,(hT'.grownL hgr6 (by omega)).base (by omega),zt hbw5 (hlow6 _ (Nat.le_succ _))⟩
 case pos =>
  subst he0
  rw [if_neg (by simp)] at HP
  have hd:((0:Int) != 0)=false:=by simp
  have hfit:qdi cols r=0:=HE.out
  obtain ⟨kv,hkv,hke,_⟩:=key_chk HO.out.kl hfit
  rw [hke] at HP
  have HKV:=zh hkv
  clear hkv hke hfit
  have q3:=five B3 (zb _ _)
  go_wp2_with fail
  clear q3 hd
  have D:=fun w' (h:Below w3.heap.size w3.drew w')=>five B3 (zt (zb _ _).drew h)
  refine r1 [(0,true),(1,true),(2,true),(3,false),(4,false),(5,true),(6,true),(7,true),(8,true),(9,true)] ?_
  repeat ((first|refine pT ?_|refine pF ?_);try go_frame)
  refine pD fun K hK=>?_;go_simp
  refine (Hkey.out kv _ hbw3.drew HKV.out).mono ?_
  rintro e4 w4 ⟨rfl,hb4⟩
  have hbw4:=zt hbw3.drew (zm hb4 hbw3.size)
  refine hK.out _ _ hb4 ?_
  clear hK K
  refine pD fun K hK=>?_;go_simp
  refine (Hfind.out kv _ hbw4).mono ?_
  rintro e5 w5 ⟨rfl,hb5⟩
  obtain ⟨at_,hat⟩:∃ a,atL key kv rows=a:=⟨_,rfl⟩
  obtain ⟨is_,his⟩:∃ a,isL key kv rows=a:=⟨_,rfl⟩
  rw [hat,his] at HP ⊢
  have hb45:=zt hb4 (zm hb5 hb4.size)
  refine hK.out _ _ hb45 ?_
  clear hK K
  repeat ((first|refine pT ?_|refine pF ?_);try go_frame)
  refine qad ?_
  clear D
  have hbw5:=zt hbw3.drew (zm hb45 hbw3.size)
  have hbx:=zt (zb _ w3).drew hb45
  have B1:=B1.ext hbx
  have B2:=B2.ext hbx
  have B3:=B3.ext hbx
  have hatn:at_<=n':=by rw [<-hat,<-HRN.out];exact at_le _ _ _
  have hz5:=hbx.size
  have HAT:=zh hat
  have HIS:=zh his
  clear hat his hb4 hb5 hb45 hbw3 hbw4 hbx
  have hbw3:=hbw5
  clear hbw5
  cases is_ with
  | true =>
   have hpe:p=(7,rows):=by rw [<-HP.out,if_pos rfl]
   subst hpe
   have q1:=five B1 (zb _ _)
   have q3:=five B3 (zb _ _)
   go_wp2_with fail
   clear q1 q3
   obtain ⟨W4,hW_,hb4,B4⟩:=al1 w5 116 #[.slice A' n' c']
   rw [<-hW_]
   clear hW_
   have hbwC:=zt hbw3 (zm hb4 hbw3.size)
   have hzC:=hb4.size
   have B2:=B2.ext hb4
   have hsmC:=HSm.out
   obtain ⟨ps,hps⟩:=parts1 B4 (hR.ext hbwC)
   clear hb4
   refine (Hwith.out rows ps _ _ _ hbwC hps (by omega) hsmC).mono ?_
   rintro e5 w5 ⟨v,rfl,hT,hb5⟩
   have hT':=hT
   obtain ⟨A5,n5,c5,A6,n6,c6,rfl,_⟩:=hT
   simp only [tabA] at hT' ⊢
   have hbw5:=zt hbwC (zm hb5 hbwC.size)
   have B2:=B2.ext hb5
   have f0:=B2.frozen 0
   have f1:=B2.frozen 1
   have f2:=B2.frozen 2
   have f3:=B2.frozen 3
   have f4:=B2.frozen 4
   have q:=five B2 (zb _ _)
   go_wp2
   clear f0 f1 f2 f3 f4 q
   obtain ⟨w6,hw6,B6,hlow6,hgr6⟩:=Blk.set5 B2 (.string nm) (.slice A5 n5 c5) (.int .i64 key) (.bool only) (.slice A6 n6 c6)
   rw [<-hw6]
   clear hw6
   have q:=five B6 (zb _ _)
   exact bodyPost_ret (v:=.tuple #[.agg #[.string nm,.slice A5 n5 c5,.int .i64 key,.bool only,.slice A6 n6 c6],.int .i64 7]) (by simp [results,Tryz.results42,go_sem,q];try rfl) rfl
    ⟨_,rfl,(hT'.grownL hgr6 (by omega)).base (by omega),zt hbw5 (hlow6 _ (Nat.le_succ _))⟩
  | false =>
   rw [if_neg (by simp)] at HP
   by_cases hl:200<=rows.length
   ·have hpe:p=(4,rows):=by rw [<-HP.out,if_pos hl]
    subst hpe
    have hd:decide (200<=(n':Int))=true:=by have:=HRN.out;simp;omega
    have q1:=five B1 (zb _ _)
    have q3:=five B3 (zb _ _)
    go_wp2_with fail
    clear q1 q3
    obtain ⟨W4,hW_,hb4,B4⟩:=al1 w5 116 #[.slice A' n' c']
    rw [<-hW_]
    clear hW_
    have hbwC:=zt hbw3 (zm hb4 hbw3.size)
    have hzC:=hb4.size
    have B2:=B2.ext hb4
    have hsmC:=HSm.out
    obtain ⟨ps,hps⟩:=parts1 B4 (hR.ext hbwC)
    clear hb4
    refine (Hwith.out rows ps _ _ _ hbwC hps (by omega) hsmC).mono ?_
    rintro e5 w5 ⟨v,rfl,hT,hb5⟩
    have hT':=hT
    obtain ⟨A5,n5,c5,A6,n6,c6,rfl,_⟩:=hT
    simp only [tabA] at hT' ⊢
    have hbw5:=zt hbwC (zm hb5 hbwC.size)
    have B2:=B2.ext hb5
    have f0:=B2.frozen 0
    have f1:=B2.frozen 1
    have f2:=B2.frozen 2
    have f3:=B2.frozen 3
    have f4:=B2.frozen 4
    have q:=five B2 (zb _ _)
    go_wp2
    clear f0 f1 f2 f3 f4 q
    obtain ⟨w6,hw6,B6,hlow6,hgr6⟩:=Blk.set5 B2 (.string nm) (.slice A5 n5 c5) (.int .i64 key) (.bool only) (.slice A6 n6 c6)
    rw [<-hw6]
    clear hw6
    have q:=five B6 (zb _ _)
    exact bodyPost_ret (v:=.tuple #[.agg #[.string nm,.slice A5 n5 c5,.int .i64 key,.bool only,.slice A6 n6 c6],.int .i64 4]) (by simp [results,Tryz.results42,go_sem,q];try rfl) rfl
     ⟨_,rfl,(hT'.grownL hgr6 (by omega)).base (by omega),zt hbw5 (hlow6 _ (Nat.le_succ _))⟩
   ·rw [if_neg hl] at HP
    have hd:decide (200<=(n':Int))=false:=by have:=HRN.out;simp;omega
    have q1:=five B1 (zb _ _)
    go_wp2_with fail
    clear q1 hd
    have hbw5:=hbw3.drew
    have B1:Blk w5.drew _ _ _:=B1
    have B2:Blk w5.drew _ _ _:=B2
    have B3:Blk w5.drew _ _ _:=B3
    have hz5:w3.heap.size<=w5.drew.heap.size:=hz5
    have hle:n'<=c':=by obtain ⟨_,h,_⟩:=hR;exact h.le_
    have hle:n'<=c':=by obtain ⟨_,h,_⟩:=hR;exact h.le_
    rcases hF with rfl|⟨bA,oA,rfl⟩
    ·obtain ⟨rfl,rfl,rfl⟩:n'=0/\c'=0/\rows=[]:=by
      obtain ⟨hs,R,H,hl⟩:=hR
      rcases R with h|⟨_,h,_⟩|⟨_,_,h,_⟩
      ·exact ⟨h.2.1,h.2.2.1,List.length_eq_zero_iff.1 (by omega)⟩
      ·cases h
      ·cases h
     obtain rfl:at_=0:=by omega
     refine qcv (S:=fun w'=>(Blk w' w.heap.size 120 #[.string nm,.slice A n c,.int .i64 key,.bool only,.slice none 0 0]/\Blk w' W.heap.size 245 #[.string nm,.slice A n c,.int .i64 key,.bool only,.slice none 0 0])/\Below w.heap.size w w')
      [(0,true),(1,true),(2,true),(3,true),(4,true),(5,true),(6,true),(8,true),(9,true),(10,true),(11,true),(7,false),(12,false),(13,false),(14,false),(15,true)] (by kernel_rfl) (by kernel_rfl) (by kernel_rfl) (by decide) ⟨⟨B1,B3⟩,hbw5⟩ ?_
     have D:=fun w' (h:(Blk w' w.heap.size 120 #[.string nm,.slice A n c,.int .i64 key,.bool only,.slice none 0 0]/\Blk w' W.heap.size 245 #[.string nm,.slice A n c,.int .i64 key,.bool only,.slice none 0 0])/\Below w.heap.size w w')=>five h.1.1 (zb _ _)
     have D3:=fun w' (h:(Blk w' w.heap.size 120 #[.string nm,.slice A n c,.int .i64 key,.bool only,.slice none 0 0]/\Blk w' W.heap.size 245 #[.string nm,.slice A n c,.int .i64 key,.bool only,.slice none 0 0])/\Below w.heap.size w w')=>five h.1.2 (zb _ _)
     generalize w5.drew=wd at *
     repeat ((first|refine pT ?_|refine pF ?_);try go_frame)
     refine pD fun K hK=>?_;go_simp
     refine hK.out _ _ ⟨⟨B1.alloc _,B3.alloc _⟩,hbw5.alloc hbw5.size _⟩ ?_
     clear hK K
     refine pD fun K hK=>?_;go_simp
     refine hK.out _ _ ⟨⟨(B1.alloc _).alloc _,(B3.alloc _).alloc _⟩,(hbw5.alloc hbw5.size _).alloc (by have:=hbw5.size;simp;omega) _⟩ ?_
     clear hK K
     obtain ⟨W6,hW_,hb6,B5,B6⟩:=al2 wd 71 116 #[.slice Ar m cr] #[.slice none 0 0,.slice (some ⟨wd.heap.size,0,none⟩) 1 1,.slice none 0 0]
     rw [<-hW_]
     clear hW_
     clear D D3
     have hbwC:=zt hbw5 (zm hb6 hbw5.size)
     have hzC:=hb6.size
     have B1:=B1.ext hb6
     have B3:=B3.ext hb6
     have B2:=B2.ext hb6
     have B5l:=B5.lt
     have hRr:Rs W6 0 (some ⟨wd.heap.size,0,none⟩) 1 1 [r]:=⟨[.slice Ar m cr],Row.of_blk B5 (Nat.zero_le _) 1 1 (zl _),Hs.one ⟨Ar,cr,by rw [hr.2],by rw [hr.2];exact (hr.ext hbwC).base (Nat.zero_le _)⟩,rfl⟩
     have hR1:Rs W6 0 none 0 0 (([]:List (List V)).take 0):=Rs.nil _ _
     have hR3:Rs W6 0 none 0 0 (([]:List (List V)).drop 0):=Rs.nil _ _
     obtain ⟨ps,hps⟩:=parts3 B6 hR1 hRr hR3
     refine pD fun K hK=>?_;go_simp
     refine (Hwith.out _ ps _ _ _ hbwC hps (by simp;try omega) ?_).mono ?_
     ·intro x hx
      rcases List.mem_append.1 hx with hx|hx
      ·exact HSm.out x (List.mem_of_mem_take hx)
      rcases List.mem_append.1 hx with hx|hx
      ·rw [List.mem_singleton] at hx
       rw [hx,hr.2];omega
      ·exact HSm.out x (List.mem_of_mem_drop hx)
     rintro e7 w7 ⟨v,rfl,hT,hb7⟩
     have hT':=hT
     obtain ⟨A5,n5,c5,A6,n6,c6,rfl,_⟩:=hT
     simp only [tabA] at hT' ⊢
     have hbw7:=zt hbwC (zm hb7 hbwC.size)
     have B2:=B2.ext hb7
     refine hK.out _ _ ⟨⟨B1.ext hb7,B3.ext hb7⟩,hbw7⟩ ?_
     clear hK K
     have f0:=B2.frozen 0
     have f1:=B2.frozen 1
     have f2:=B2.frozen 2
     have f3:=B2.frozen 3
     have f4:=B2.frozen 4
     have q:=five B2 (zb _ _)
     refine pD fun K hK=>?_;go_simp
     clear f0 f1 f2 f3 f4 q
     obtain ⟨w8,hw8,B8,hlow8,hgr8⟩:=Blk.set5 B2 (.string nm) (.slice A5 n5 c5) (.int .i64 key) (.bool only) (.slice A6 n6 c6)
     rw [<-hw8]
     clear hw8
     have hbw8:=zt hbw7 (hlow8 _ (Nat.le_succ _))
     refine hK.out _ _ ⟨⟨(B1.ext hb7).grown hgr8 (by simp),(B3.ext hb7).grown hgr8 (by simp;omega)⟩,hbw8⟩ ?_
     clear hK K
     repeat ((first|refine pT ?_|refine pF ?_);try go_frame)
     refine qad ?_
     have q:=five B8 (zb _ _)
     go_wp2
     exact bodyPost_ret (v:=.tuple #[.agg #[.string nm,.slice A5 n5 c5,.int .i64 key,.bool only,.slice A6 n6 c6],.int .i64 0]) (by simp [results,Tryz.results42,go_sem,q];try rfl) rfl
      ⟨_,by rw [<-HP.out],by rw [<-HP.out];exact (hT'.grownL hgr8 (by omega)).base (by omega),hbw8⟩
    ·have hcut1:∀ w',Below w.heap.size w w'->Rs w' 0 (some ⟨bA,oA,none⟩) at_ at_ (rows.take at_):=fun w' hb=>by
      obtain ⟨hs,R,H,hl⟩:=hR.ext hb
      exact ⟨hs.take at_,(R.take at_ at_ at_ (zl _) hatn).base (Nat.zero_le _),(H.base (Nat.zero_le _)).take at_,by rw [List.length_take,hl];omega⟩
     have hcut3:∀ w',Below w.heap.size w w'->Rs w' 0 (some ⟨bA,oA+at_,none⟩) (n' - at_) (c' - at_) (rows.drop at_):=fun w' hb=>by
      obtain ⟨hs,R,H,hl⟩:=hR.ext hb
      exact ⟨hs.drop at_,(R.drop (n' - at_) (c' - at_) at_ (by omega) (by omega)).base (Nat.zero_le _),(H.base (Nat.zero_le _)).drop at_,by rw [List.length_drop,hl]⟩
     have hac:at_<=c':=by omega
     by_cases hca:c'=at_
     ·obtain rfl:n'=c':=by omega
      obtain rfl:n'=at_:=hca
      refine qcv (S:=fun w'=>(Blk w' w.heap.size 120 #[.string nm,.slice A n c,.int .i64 key,.bool only,.slice (some ⟨bA,oA,none⟩) n' n']/\Blk w' W.heap.size 245 #[.string nm,.slice A n c,.int .i64 key,.bool only,.slice (some ⟨bA,oA,none⟩) n' n'])/\Below w.heap.size w w')
       [(0,true),(1,true),(2,true),(3,true),(4,true),(5,true),(6,true),(8,true),(9,true),(10,true),(11,true),(7,false),(12,false),(13,false),(14,false),(15,true)] (by kernel_rfl) (by kernel_rfl) (by kernel_rfl) (by decide) ⟨⟨B1,B3⟩,hbw5⟩ ?_
      have D:=fun w' (h:(Blk w' w.heap.size 120 #[.string nm,.slice A n c,.int .i64 key,.bool only,.slice (some ⟨bA,oA,none⟩) n' n']/\Blk w' W.heap.size 245 #[.string nm,.slice A n c,.int .i64 key,.bool only,.slice (some ⟨bA,oA,none⟩) n' n'])/\Below w.heap.size w w')=>five h.1.1 (zb _ _)
      have D3:=fun w' (h:(Blk w' w.heap.size 120 #[.string nm,.slice A n c,.int .i64 key,.bool only,.slice (some ⟨bA,oA,none⟩) n' n']/\Blk w' W.heap.size 245 #[.string nm,.slice A n c,.int .i64 key,.bool only,.slice (some ⟨bA,oA,none⟩) n' n'])/\Below w.heap.size w w')=>five h.1.2 (zb _ _)
      generalize w5.drew=wd at *
      repeat ((first|refine pT ?_|refine pF ?_);try go_frame)
      refine pD fun K hK=>?_;go_simp
      refine hK.out _ _ ⟨⟨B1.alloc _,B3.alloc _⟩,hbw5.alloc hbw5.size _⟩ ?_
      clear hK K
      refine pD fun K hK=>?_;go_simp
      refine hK.out _ _ ⟨⟨(B1.alloc _).alloc _,(B3.alloc _).alloc _⟩,(hbw5.alloc hbw5.size _).alloc (by have:=hbw5.size;simp;omega) _⟩ ?_
      clear hK K
      obtain ⟨W6,hW_,hb6,B5,B6⟩:=al2 wd 71 116 #[.slice Ar m cr] #[.slice (some ⟨bA,oA,none⟩) n' n',.slice (some ⟨wd.heap.size,0,none⟩) 1 1,.slice (some ⟨bA,oA,none⟩) 0 0]
      rw [<-hW_]
      clear hW_
      clear D D3
      have hbwC:=zt hbw5 (zm hb6 hbw5.size)
      have hzC:=hb6.size
      have B1:=B1.ext hb6
      have B3:=B3.ext hb6
      have B2:=B2.ext hb6
      have B5l:=B5.lt
      have hRr:Rs W6 0 (some ⟨wd.heap.size,0,none⟩) 1 1 [r]:=⟨[.slice Ar m cr],Row.of_blk B5 (Nat.zero_le _) 1 1 (zl _),Hs.one ⟨Ar,cr,by rw [hr.2],by rw [hr.2];exact (hr.ext hbwC).base (Nat.zero_le _)⟩,rfl⟩
      have hR1:=hcut1 W6 hbwC
      have hR3:Rs W6 0 (some ⟨bA,oA,none⟩) 0 0 (rows.drop n'):=⟨[],Row.empty _ _ _ _,by rw [List.drop_eq_nil_of_le (by have:=HRN.out;omega)];exact Hs.nil _ _,by rw [List.drop_eq_nil_of_le (by have:=HRN.out;omega)];rfl⟩
      obtain ⟨ps,hps⟩:=parts3 B6 hR1 hRr hR3
      refine pD fun K hK=>?_;go_simp
      refine (Hwith.out _ ps _ _ _ hbwC hps (by simp;try omega) ?_).mono ?_
      ·intro x hx
       rcases List.mem_append.1 hx with hx|hx
       ·exact HSm.out x (List.mem_of_mem_take hx)
       rcases List.mem_append.1 hx with hx|hx
       ·rw [List.mem_singleton] at hx
        rw [hx,hr.2];omega
       ·exact HSm.out x (List.mem_of_mem_drop hx)
      rintro e7 w7 ⟨v,rfl,hT,hb7⟩
      have hT':=hT
      obtain ⟨A5,n5,c5,A6,n6,c6,rfl,_⟩:=hT
      simp only [tabA] at hT' ⊢
      have hbw7:=zt hbwC (zm hb7 hbwC.size)
      have B2:=B2.ext hb7
      refine hK.out _ _ ⟨⟨B1.ext hb7,B3.ext hb7⟩,hbw7⟩ ?_
      clear hK K
      have f0:=B2.frozen 0
      have f1:=B2.frozen 1
      have f2:=B2.frozen 2
      have f3:=B2.frozen 3
      have f4:=B2.frozen 4
      have q:=five B2 (zb _ _)
      refine pD fun K hK=>?_;go_simp
      clear f0 f1 f2 f3 f4 q
      obtain ⟨w8,hw8,B8,hlow8,hgr8⟩:=Blk.set5 B2 (.string nm) (.slice A5 n5 c5) (.int .i64 key) (.bool only) (.slice A6 n6 c6)
      rw [<-hw8]
      clear hw8
      have hbw8:=zt hbw7 (hlow8 _ (Nat.le_succ _))
      refine hK.out _ _ ⟨⟨(B1.ext hb7).grown hgr8 (by simp),(B3.ext hb7).grown hgr8 (by simp;omega)⟩,hbw8⟩ ?_
      clear hK K
      repeat ((first|refine pT ?_|refine pF ?_);try go_frame)
      refine qad ?_
      have q:=five B8 (zb _ _)
      go_wp2
      exact bodyPost_ret (v:=.tuple #[.agg #[.string nm,.slice A5 n5 c5,.int .i64 key,.bool only,.slice A6 n6 c6],.int .i64 0]) (by simp [results,Tryz.results42,go_sem,q];try rfl) rfl
       ⟨_,by rw [<-HP.out],by rw [<-HP.out];exact (hT'.grownL hgr8 (by omega)).base (by omega),hbw8⟩
     ·have hca':¬at_=c':=fun e=>hca e.symm
      refine qcv (S:=fun w'=>(Blk w' w.heap.size 120 #[.string nm,.slice A n c,.int .i64 key,.bool only,.slice (some ⟨bA,oA,none⟩) n' c']/\Blk w' W.heap.size 245 #[.string nm,.slice A n c,.int .i64 key,.bool only,.slice (some ⟨bA,oA,none⟩) n' c'])/\Below w.heap.size w w')
       [(0,true),(1,true),(2,true),(3,true),(4,true),(5,true),(6,true),(8,true),(9,true),(10,true),(11,true),(7,false),(12,false),(13,false),(14,false),(15,true)] (by kernel_rfl) (by kernel_rfl) (by kernel_rfl) (by decide) ⟨⟨B1,B3⟩,hbw5⟩ ?_
      have D:=fun w' (h:(Blk w' w.heap.size 120 #[.string nm,.slice A n c,.int .i64 key,.bool only,.slice (some ⟨bA,oA,none⟩) n' c']/\Blk w' W.heap.size 245 #[.string nm,.slice A n c,.int .i64 key,.bool only,.slice (some ⟨bA,oA,none⟩) n' c'])/\Below w.heap.size w w')=>five h.1.1 (zb _ _)
      have D3:=fun w' (h:(Blk w' w.heap.size 120 #[.string nm,.slice A n c,.int .i64 key,.bool only,.slice (some ⟨bA,oA,none⟩) n' c']/\Blk w' W.heap.size 245 #[.string nm,.slice A n c,.int .i64 key,.bool only,.slice (some ⟨bA,oA,none⟩) n' c'])/\Below w.heap.size w w')=>five h.1.2 (zb _ _)
      generalize w5.drew=wd at *
      repeat ((first|refine pT ?_|refine pF ?_);try go_frame)
      refine pD fun K hK=>?_;go_simp
      refine hK.out _ _ ⟨⟨B1.alloc _,B3.alloc _⟩,hbw5.alloc hbw5.size _⟩ ?_
      clear hK K
      refine pD fun K hK=>?_;go_simp
      refine hK.out _ _ ⟨⟨(B1.alloc _).alloc _,(B3.alloc _).alloc _⟩,(hbw5.alloc hbw5.size _).alloc (by have:=hbw5.size;simp;omega) _⟩ ?_
      clear hK K
      obtain ⟨W6,hW_,hb6,B5,B6⟩:=al2 wd 71 116 #[.slice Ar m cr] #[.slice (some ⟨bA,oA,none⟩) at_ at_,.slice (some ⟨wd.heap.size,0,none⟩) 1 1,.slice (some ⟨bA,oA+at_,none⟩) (n' - at_) (c' - at_)]
      rw [<-hW_]
      clear hW_
      clear D D3
      have hbwC:=zt hbw5 (zm hb6 hbw5.size)
      have hzC:=hb6.size
      have B1:=B1.ext hb6
      have B3:=B3.ext hb6
      have B2:=B2.ext hb6
      have B5l:=B5.lt
      have hRr:Rs W6 0 (some ⟨wd.heap.size,0,none⟩) 1 1 [r]:=⟨[.slice Ar m cr],Row.of_blk B5 (Nat.zero_le _) 1 1 (zl _),Hs.one ⟨Ar,cr,by rw [hr.2],by rw [hr.2];exact (hr.ext hbwC).base (Nat.zero_le _)⟩,rfl⟩
      have hR1:=hcut1 W6 hbwC
      have hR3:=hcut3 W6 hbwC
      obtain ⟨ps,hps⟩:=parts3 B6 hR1 hRr hR3
      refine pD fun K hK=>?_;go_simp
      refine (Hwith.out _ ps _ _ _ hbwC hps (by simp;try omega) ?_).mono ?_
      ·intro x hx
       rcases List.mem_append.1 hx with hx|hx
       ·exact HSm.out x (List.mem_of_mem_take hx)
       rcases List.mem_append.1 hx with hx|hx
       ·rw [List.mem_singleton] at hx
        rw [hx,hr.2];omega
       ·exact HSm.out x (List.mem_of_mem_drop hx)
      rintro e7 w7 ⟨v,rfl,hT,hb7⟩
      have hT':=hT
      obtain ⟨A5,n5,c5,A6,n6,c6,rfl,_⟩:=hT
      simp only [tabA] at hT' ⊢
      have hbw7:=zt hbwC (zm hb7 hbwC.size)
      have B2:=B2.ext hb7
      refine hK.out _ _ ⟨⟨B1.ext hb7,B3.ext hb7⟩,hbw7⟩ ?_
      clear hK K
      have f0:=B2.frozen 0
      have f1:=B2.frozen 1
      have f2:=B2.frozen 2
      have f3:=B2.frozen 3
      have f4:=B2.frozen 4
      have q:=five B2 (zb _ _)
      refine pD fun K hK=>?_;go_simp
      clear f0 f1 f2 f3 f4 q
      obtain ⟨w8,hw8,B8,hlow8,hgr8⟩:=Blk.set5 B2 (.string nm) (.slice A5 n5 c5) (.int .i64 key) (.bool only) (.slice A6 n6 c6)
      rw [<-hw8]
      clear hw8
      have hbw8:=zt hbw7 (hlow8 _ (Nat.le_succ _))
      refine hK.out _ _ ⟨⟨(B1.ext hb7).grown hgr8 (by simp),(B3.ext hb7).grown hgr8 (by simp;omega)⟩,hbw8⟩ ?_
      clear hK K
      repeat ((first|refine pT ?_|refine pF ?_);try go_frame)
      refine qad ?_
      have q:=five B8 (zb _ _)
      go_wp2
      exact bodyPost_ret (v:=.tuple #[.agg #[.string nm,.slice A5 n5 c5,.int .i64 key,.bool only,.slice A6 n6 c6],.int .i64 0]) (by simp [results,Tryz.results42,go_sem,q];try rfl) rfl
       ⟨_,by rw [<-HP.out],by rw [<-HP.out];exact (hT'.grownL hgr8 (by omega)).base (by omega),hbw8⟩
end Go.Proofs.YtdjbpcnhnkemiaaGreat.tb
namespace Go.Proofs.YtdjbpcnhnkemiaaGreat.tp
open Go.ChangeShapes Go.WideShapes Go.ChangeAt Go.RowKit Go.Proofs.YtdjbpcnhnkemiaaGreat.lib
variable {w w':World}
variable {n c g B b off i j k m n2 n3 c2 c3 c4 c5 c6 gs gn np lo gr gd id b2 off2:Nat}
variable {A A2 A3 A4 A5 A6:Option Addr}
variable {cs:List Value}
variable {l r:List UInt8}
variable {rs:List (List UInt8)}
variable {s o e:Int}
variable {nm:ByteArray}
variable {F G:qab}
variable {x:DBd}
theorem sl_to {α β:Type} {E:Enc α} {enc:β->List Value} {f:β->α} (hE:∀ {w F cs a},E.rel w F cs (f a)->cs=enc a) {l:List β} (h:Sl E w F A n c (l.map f)):RowF w F A n c (qal enc l)/\l.length=n:=by
 obtain ⟨css,h1,h2,h3⟩:=h
 have e:css=l.map enc:=by
  have hl:css.length=l.length:=by rw [h2.1,List.length_map]
  refine List.ext_getElem? fun i=>?_
  rw [List.getElem?_map]
  cases hx:l[i]? with
  | none =>
   rw [List.getElem?_eq_none_iff] at hx
   rw [List.getElem?_eq_none (by omega)]
   rfl
  | some y =>
   have hi:=(List.getElem?_eq_some_iff.1 hx).1
   have hc:css[i]? = some css[i]:=List.getElem?_eq_getElem (by omega)
   rw [hc,hE (h2.2 i css[i] (f y) hc (by rw [List.getElem?_map,hx];rfl))]
   rfl
 subst e
 exact ⟨by rw [show qal enc l=(l.map enc).flatten from List.flatMap_def ..];exact h1,by simpa using h3⟩
theorem sl_of {α β:Type} {E:Enc α} {enc:β->List Value} {f:β->α} (hE:∀ a,E.rel w F (enc a) (f a)) {l:List β} (h:RowF w F A n c (qal enc l)) (hl:l.length=n):Sl E w F A n c (l.map f):=by
 refine ⟨l.map enc,by rw [show (l.map enc).flatten=qal enc l from (List.flatMap_def ..).symm];exact h,⟨by simp,fun i cs x h1 h2=>?_⟩,by simpa using hl⟩
 rw [List.getElem?_map] at h1 h2
 cases hx:l[i]? with
 | none=>rw [hx] at h1;cases h1
 | some y =>
  rw [hx] at h1 h2
  injection h1 with h1
  injection h2 with h2
  subst h1 h2
  exact hE y
def valTo (v:val.V):Val:=(v.k,v.n,v.s)
def qkb (x:tb.Col):ColD:=(x.name,x.kind,x.null)
def qbf (r:List val.V):RowD:=r.map valTo
def qaz (S:tb.Sch) (rows:List (List val.V)):Tab:=((S.name,S.cols.map qkb,(S.key:Int),S.only),rows.map qbf)
theorem val_inv {v:val.V} (h:eVal.rel w F cs (valTo v)):cs=tb.encV v:=by
 obtain ⟨_,_,e1,e2,_,_,e3,e4,e5⟩:=h
 rw [e1,e2,e3,e4,e5]
 rfl
theorem col_inv {v:tb.Col} (h:eCol.rel w F cs (qkb v)):cs=tb.encC v:=by
 obtain ⟨_,_,e1,e2,_,_,e3,e4,e5⟩:=h
 rw [e1,e2,e3,e4,e5]
 rfl
theorem val_mk (w:World) (F:qab) (v:val.V):eVal.rel w F (tb.encV v) (valTo v):=⟨[_],_,rfl,rfl,[_],[_],rfl,rfl,rfl⟩
theorem col_mk (w:World) (F:qab) (v:tb.Col):eCol.rel w F (tb.encC v) (qkb v):=⟨[_],_,rfl,rfl,[_],[_],rfl,rfl,rfl⟩
section
variable {w:World} {F:qab} {A:Option Addr} {n c lo:Nat}
theorem vs_of {r:List val.V} (h:Sl eVal w F A n c (qbf r)):tb.Vs w 0 A n c r:=by
 obtain ⟨h1,h2⟩:=sl_to (enc:=tb.encV) val_inv h
 exact ⟨h1.row,h2⟩
theorem of_vs {r:List val.V} (h:tb.Vs w lo A n c r) (hF:∀ b,lo<=b->F b):Sl eVal w F A n c (qbf r):=sl_of (val_mk w F) (RowF.of_row h.1 (fun b hb _=>hF b hb)) h.2
theorem cs_of {l:List tb.Col} (h:Sl eCol w F A n c (l.map qkb)):tb.Cs w 0 A n c l:=by
 obtain ⟨h1,h2⟩:=sl_to (enc:=tb.encC) col_inv h
 exact ⟨h1.row,h2⟩
theorem of_cs {l:List tb.Col} (h:tb.Cs w lo A n c l) (hF:∀ b,lo<=b->F b):Sl eCol w F A n c (l.map qkb):=sl_of (col_mk w F) (RowF.of_row h.1 (fun b hb _=>hF b hb)) h.2
theorem rs_of {rows:List (List val.V)} (h:Sl eRow w F A n c (rows.map qbf)):tb.Rs w 0 A n c rows:=by
 obtain ⟨css,h1,h2,h3⟩:=h
 refine ⟨css.flatten,h1.row,?_,by simpa using h3⟩
 have hk:=h2.klen
 have hl:css.flatten.length=rows.length:=by rw [h2.flen,List.length_map];exact Nat.mul_one _
 refine ⟨hl,fun i u r hu hr=>?_⟩
 have hi:=(List.getElem?_eq_some_iff.1 hr).1
 have hcl:css.length=rows.length:=by rw [h2.1,List.length_map]
 have hc:css[i]? = some css[i]:=List.getElem?_eq_getElem (by omega)
 obtain ⟨A',n',c',e,hS⟩:=h2.2 i css[i] (qbf r) hc (by rw [List.getElem?_map,hr];rfl)
 have hf:=qkl css hk i 0 css[i] (.slice A' n' c') hc (by rw [e];rfl)
 rw [show i * eRow.k+0=i from Nat.mul_one i] at hf
 rw [hf] at hu
 injection hu with hu
 subst hu
 have hv:=vs_of hS
 exact ⟨A',c',by rw [hv.2],by rw [hv.2];exact hv⟩
theorem of_rs {rows:List (List val.V)} (h:tb.Rs w lo A n c rows) (hF:∀ b,lo<=b->F b):Sl eRow w F A n c (rows.map qbf):=by
 obtain ⟨hs,h1,h2,h3⟩:=h
 have hfl:(hs.map fun u=>[u]).flatten=hs:=by
  clear h1 h2
  induction hs with
  | nil=>rfl
  | cons y l ih=>rw [List.map_cons,List.flatten_cons,ih];rfl
 refine ⟨hs.map fun u=>[u],by rw [hfl];exact RowF.of_row h1 (fun b hb _=>hF b hb),⟨by rw [List.length_map,List.length_map];exact h2.1,fun i cs x e1 e2=>?_⟩,by simpa using h3⟩
 rw [List.getElem?_map] at e1 e2
 cases hx:rows[i]? with
 | none=>rw [hx] at e2;cases e2
 | some r =>
  obtain ⟨A',c',hu,hv⟩:=h2.at_ hx
  rw [hx] at e2
  rw [hu] at e1
  injection e1 with e1
  injection e2 with e2
  subst e1 e2
  exact ⟨A',_,c',rfl,of_vs hv hF⟩
end
def TabE (t:Tab) (er:Int) (w:World) (e:Ending) (w':World):Prop:=∃ cs:List Value,e=.returned (.tuple #[.agg cs.toArray,.int .i64 er])/\eTab.rel w' (fun b=>w.heap.size<=b) cs t/\Below w.heap.size w w'
theorem tput_ {S:tb.Sch} {rows:List (List val.V)} {r:List val.V} (h:eTab.rel w F cs (qaz S rows)) (hr:Sl eVal w G A n c (qbf r)) (hs:tb.Small r) (hOk:tb.Ok S.cols S.key rows) (hn:S.cols.length<=100) (hrows:rows.length<=1000) (hm:n<=100000):
  Calls Tryz.prog 42 #[.agg cs.toArray,.slice A n c] w (TabE (qaz S (tb.putL S.cols S.key rows r).2) (tb.putL S.cols S.key rows r).1 w):=by
 obtain ⟨A1,n1,c1,A2,n2,c2,rfl,h1,h2,hf⟩:=qne h
 refine (tb.put_ S rows r 0 A1 n1 c1 A2 n2 c2 0 A n c w (cs_of h1) (rs_of h2) hf (vs_of hr) hs hOk hn hrows hm).mono ?_
 rintro e w' ⟨v,rfl,⟨A3,n3,c3,A4,n4,c4,rfl,k1,k2,k3⟩,hb⟩
 exact ⟨_,rfl,qho (x:=qaz S (tb.putL S.cols S.key rows r).2) (of_cs k1 (fun b h=>h)) (of_rs k2 (fun b h=>h)) k3,hb⟩
theorem flat_set {K:Nat} (css:List (List Value)) (hk:∀ z∈css,z.length=K) (i:Nat) (cs:List Value) (hi:i<css.length) (hc:cs.length=K):(css.set i cs).flatten=laid css.flatten (i * K) cs:=by
 have e:css=css.take i++[css[i]]++css.drop (i+1):=by simp
 have hl:(css.take i).flatten.length=i * K:=by
  rw [qgf _ (fun z hz=>hk z (List.mem_of_mem_take hz)),List.length_take,Nat.min_eq_left (Nat.le_of_lt hi)]
 have e2:css.flatten=(css.take i).flatten++css[i]++(css.drop (i+1)).flatten:=by
  have h:=congrArg List.flatten e
  rw [List.flatten_append,List.flatten_append,List.flatten_singleton] at h
  exact h
 rw [List.set_eq_take_append_cons_drop,if_pos hi,e2,<-hl,qcm _ _ _ _ (by rw [hc,hk _ (List.getElem_mem hi)])]
 simp
theorem laid_app (a b:List Value) (o:Nat) (vs:List Value) (h:o+vs.length<=a.length):laid (a++b) o vs=laid a o vs++b:=by
 unfold laid
 rw [List.take_append_of_le_length (by omega),List.drop_append_of_le_length (by omega)]
 simp
theorem laid_set (l:List Value) (o j:Nat) (cs:List Value) (u:Value) (hj:j<cs.length) (ho:o+cs.length<=l.length) (h:(l.drop o).take cs.length=cs):laid l o (cs.set j u)=l.set (o+j) u:=by
 have e:l=l.take o++cs++l.drop (o+cs.length):=by
  conv=>lhs;rw [<-List.take_append_drop o l]
  rw [List.append_assoc]
  congr 1
  conv=>lhs;rw [<-List.take_append_drop cs.length (l.drop o)]
  rw [h,List.drop_drop]
 unfold laid
 rw [List.length_set]
 conv=>rhs;rw [e]
 have hl:(l.take o).length=o:=by rw [List.length_take];omega
 rw [List.append_assoc,List.append_assoc,List.set_append_right _ _ (by omega),hl,Nat.add_sub_cancel_left,List.set_append_left _ _ hj]
theorem qoi {K:Nat} {t:TypeId} {css:List (List Value)} (h:w.ownsRow B t K (.slice (some ⟨b,0,none⟩) n c) n css.flatten) (hk:∀ z∈css,z.length=K) (hl:css.length=n) (hi:i<n) (hc:cs.length=K)
  (hb:∀ cur:List Value,Blk w b t cur.toArray->cur.take (n * K)=css.flatten->n * K<=cur.length->Blk w' b t (laid cur (i * K) cs).toArray):w'.ownsRow B t K (.slice (some ⟨b,0,none⟩) n c) n (css.set i cs).flatten:=by
 rcases h.2 with ⟨z,_⟩|⟨g,cap,cur,z,h2,h3,h4,h5,h6,h7⟩
 ·cases z
 ·injection z with z z1 z2
  injection z with z
  injection z with z
  subst z
  have hfl:css.flatten.length=n * K:=by rw [qgf _ hk,hl]
  have hbK:i * K+cs.length<=css.flatten.length:=by rw [hfl,hc,<-Nat.succ_mul];exact Nat.mul_le_mul_right _ hi
  have hB:=hb cur.toList (by rw [Array.toArray_toList];exact h3) h7 (by rw [Array.length_toList,h6];exact Nat.mul_le_mul_right _ h4)
  have hsp:cur.toList=css.flatten++cur.toList.drop (n * K):=by
   conv=>lhs;rw [<-List.take_append_drop (n * K) cur.toList]
   rw [h7]
  have hlen:(laid cur.toList (i * K) cs).length=cur.toList.length:=qlk _ _ _ (by rw [hsp,List.length_append];omega)
  refine ⟨by rw [qgf (k:=K) (css.set i cs) (fun z hz=>by
    rcases List.mem_or_eq_of_mem_set hz with hz|rfl
    ·exact hk z hz
    ·exact hc),List.length_set,hl],.inr ⟨b,cap,(laid cur.toList (i * K) cs).toArray,by rw [z2],h2,hB,h4,h5,by rw [List.size_toArray,hlen,Array.length_toList];exact h6,?_⟩⟩
  rw [flat_set css hk i cs (by omega) hc,List.toList_toArray]
  conv=>lhs;rw [hsp]
  rw [laid_app _ _ _ _ hbK,List.take_append_of_le_length (by rw [qlk _ _ _ hbK];omega),List.take_of_length_le (by rw [qlk _ _ _ hbK,hfl];exact zl _)]
theorem OwnE.laid_ {α:Type} {E:Enc α} {t:TypeId} {xs:List α} {x:α} (h:OwnE E t w B F (some ⟨b,0,none⟩) n c xs) (hi:i<n) (hx:E.rel w' F cs x) (hk:Keep F w w') (hw:w'=w.setCells b (i * E.k) cs):
  OwnE E t w' B F (some ⟨b,0,none⟩) n c (xs.set i x):=by
 obtain ⟨css,h1,h2,h3⟩:=h
 refine ⟨css.set i cs,qoi h1 h2.klen (h2.1.trans h3) hi (E.len hx) (fun cur hB _ hl=>?_),(h2.keep hk).set_ hx,by rw [List.length_set];exact h3⟩
 have hs:i * E.k+cs.length<=cur.length:=by
  rw [E.len hx,<-Nat.succ_mul]
  exact Nat.le_trans (Nat.mul_le_mul_right _ hi) hl
 rw [hw]
 exact (Blk.lay cs (i * E.k) hB hs).1
theorem OwnE.set1 {α:Type} {E:Enc α} {t:TypeId} {xs:List α} {x0 x:α} {u:Value} (h:OwnE E t w B F (some ⟨b,0,none⟩) n c xs) (hi:xs[i]? = some x0) (hj:j<E.k) (hx:∀ cs0,E.rel w' F cs0 x0->E.rel w' F (cs0.set j u) x) (hk:Keep F w w') (hw:w'=w.setCell ⟨b,i * E.k+j,none⟩ u):
  OwnE E t w' B F (some ⟨b,0,none⟩) n c (xs.set i x):=by
 obtain ⟨css,h1,h2,h3⟩:=h
 have hin:i<n:=by rw [<-h3];exact (List.getElem?_eq_some_iff.1 hi).1
 obtain ⟨cs0,hc0,hr0⟩:=h2.at_ hi
 have hcl:=E.len hr0
 refine ⟨css.set i (cs0.set j u),qoi h1 h2.klen (h2.1.trans h3) hin (by rw [List.length_set];exact hcl) (fun cur hB ht hl=>?_),(h2.keep hk).set_ (hx cs0 (E.keep hr0 hk)),by rw [List.length_set];exact h3⟩
 have hs:i * E.k+cs0.length<=cur.length:=by
  rw [hcl,<-Nat.succ_mul]
  exact Nat.le_trans (Nat.mul_le_mul_right _ hin) hl
 have hil:i<css.length:=(List.getElem?_eq_some_iff.1 hc0).1
 have he:(cur.drop (i * E.k)).take cs0.length=cs0:=by
  have e1:cur=css.flatten++cur.drop (n * E.k):=by
   conv=>lhs;rw [<-List.take_append_drop (n * E.k) cur]
   rw [ht]
  have hfl:css.flatten.length=n * E.k:=by rw [h2.flen,h3]
  have hnk:i * E.k+E.k<=n * E.k:=by rw [<-Nat.succ_mul];exact Nat.mul_le_mul_right _ hin
  rw [e1,List.drop_append_of_le_length (by rw [hfl];omega),qjl css i h2.klen,List.drop_eq_getElem_cons hil,List.flatten_cons,List.append_assoc]
  have hg:css[i]=cs0:=by
   have:=List.getElem?_eq_getElem hil
   rw [hc0] at this
   injection this with this
   exact this.symm
  rw [hg,List.take_append_of_le_length (zl _),List.take_length]
 rw [laid_set _ _ _ _ _ (by omega) hs he,hw]
 have:=hB.set_ (i * E.k+j) u
 rwa [List.setIfInBounds_toArray] at this
theorem OwnE.there {α:Type} {E:Enc α} {t:TypeId} {xs:List α} (h:OwnE E t w B F (some ⟨b,0,none⟩) n c xs) (hi:i<n):w.there b (i * E.k) E.k:=by
 obtain ⟨css,h1,h2,h3⟩:=h
 rcases h1.2 with ⟨z,_⟩|⟨g',cap,cur,z,_,hB,h4,_,h6,_⟩
 ·cases z
 ·injection z with z _ z2
  injection z with z
  injection z with z
  subst z
  exact Blk.there (cs:=cur.toList) (by rw [Array.toArray_toList];exact hB) (by rw [Array.length_toList,h6,<-Nat.succ_mul];exact Nat.mul_le_mul_right _ (by omega))
theorem OwnE.blk {α:Type} {E:Enc α} {t:TypeId} {xs:List α} (h:OwnE E t w B F (some ⟨b,0,none⟩) n c xs):∃ cur,Blk w b t cur:=by
 obtain ⟨css,h1,h2,h3⟩:=h
 rcases h1.2 with ⟨z,_⟩|⟨g',cap,cur,z,_,hB,_⟩
 ·cases z
 ·injection z with z _ _
  injection z with z
  injection z with z
  subst z
  exact ⟨cur,hB⟩
theorem OwnE.at_ {α:Type} {E:Enc α} {t:TypeId} {xs:List α} {x:α} (h:OwnE E t w B F (some ⟨b,0,none⟩) n c xs) (hi:xs[i]? = some x):∃ cs,E.rel w F cs x/\∀ (j:Nat) u,cs[j]? = some u->w.cell? ⟨b,i * E.k+j,none⟩=some u:=by
 obtain ⟨css,h1,h2,h3⟩:=h
 obtain ⟨cs,hc,hr⟩:=h2.at_ hi
 refine ⟨cs,hr,fun j u hu=>?_⟩
 have:=(Row.of_own h1).at_ (qkl css h2.klen i j cs u hc hu)
 rwa [Nat.zero_add] at this
theorem qbm {P:Program} {o:Oper} {a:Act} {K:Act->World->Prop} {Q:Exit->Act->World->Prop} (dd:Tmp) (s x:Operand) (t:TypeId) (hd:o.dst=some dd)
  (hop:o.op=Op.call { callee:=Callee.builtin Builtin.append,args:=#[s,x],argTypes:=#[t,t] })
  (e:TypeId) (i:TypeInfo) (z:Value) (size bytes:Nat) (h1:P.underlying t=some (.slice e)) (h2:P.info? e=some i) (h3:i.zero=some z) (h4:i.size=size) (h5:i.bytes=bytes) (h6:z.cells.size=size) (h7:0<size)
  (ao:Option Addr) (n cap:Nat) (olds:List Value) (hs:a.eval s=.slice ao n cap) (hnone:ao=none->n=0/\cap=0) (hlo:olds.length=n * size) (holds:∀ b,ao=some b->∀ j u,olds[j]? = some u->w.cell? (b.add j)=some u)
  (ad:Addr) (m c:Nat) (news:List Value) (hx:a.eval x=.slice (some ad) m c) (hn:news.length=m * size) (hc:∀ j u,news[j]? = some u->w.cell? (ad.add j)=some u) (h1c:∀ u∈news,u.oneCell'=true)
  (hfull:cap<n+m) (b1:n+m<=maxLen) (b2:(n+m) * bytes<=140737488355328)
  (hK:∀ A c' w',w'.ownsRow w.heap.size e size (.slice A (n+m) c') (n+m) (olds++news)->w.grownBy w' none->K { a with tmps:=a.tmps.setIfInBounds dd (.slice A (n+m) c') } w'):o.wp P a w K Q:=by
 have hK:∀ v' w',w'.ownsRow w.heap.size e size v' (n+m) (olds++news)->w.grownBy w' none->K (a.put o.dst v') w':=fun v' w' rj rk=>by
  obtain ⟨A,c',rfl⟩:=qan rj
  rw [hd]
  exact hK A c' w' rj rk
 cases ao with
 | some b =>
  obtain ⟨v',w',hrun,rj,rk⟩:=run_append_arg_grows (P:=P) w t o.type e i z size bytes h1 h2 h3 h4 h5 h6 h7 b n cap olds hlo (holds b rfl) ad m c news hn hc hfull b1 b2
  unfold Oper.wp
  simp [execOp,hop,resolve,invoke,builtin,hs,hx,hrun,Result.andThen]
  exact hK v' w' rj rk
 | none =>
  obtain ⟨rfl,rfl⟩:=hnone rfl
  have ho:olds=[]:=List.length_eq_zero_iff.1 (by rw [hlo,Nat.zero_mul])
  subst ho
  have hown:w.ownsRow w.heap.size e size (.slice none 0 0) 0 []:=⟨by simp,.inl ⟨rfl,rfl⟩⟩
  refine wp_append_own w s x t hop w.heap.size e i z size bytes h1 h2 h3 h4 h5 h6 h7 _ 0 [] hs hown ad m c news hx hn hc h1c b1 b2 (zl _) ?_
  intro v' w' ho' hg _
  exact hK v' w' ho' hg
theorem Sl.src {α:Type} {E:Enc α} {x:List α} (h:Sl E w F A n c x):∃ css,Els E w F css x/\css.flatten.length=n * E.k/\(A=none->n=0/\c=0)/\∀ b,A=some b->∀ j u,css.flatten[j]? = some u->w.cell? (b.add j)=some u:=by
 obtain ⟨css,h1,h2,h3⟩:=h
 refine ⟨css,h2,by rw [h2.flen,h3],fun e=>?_,fun b e j u hu=>?_⟩
 ·rcases h1 with q|⟨ad,q,_⟩|⟨b,off,q,_⟩
  ·exact ⟨q.2.1,q.2.2.1⟩
  ·rw [e] at q;cases q
  ·rw [e] at q;cases q
 ·subst e
  exact h1.row.src' j u hu
section
variable {P:Program} {w:World} {ops:Array Oper} {rest:List Oper} {o:Oper} {a:Act} {Q:Exit->Act->World->Prop}
theorem qcd (hgd:o.guard=none) (s x:Operand) (t:TypeId)
  (ho:o.op=.call { callee:=.builtin .append,args:=#[s,x],argTypes:=#[t,t] })
  (base:Nat) (e:TypeId) (i:TypeInfo) (z:Value) (size bytes:Nat) (ht:P.underlying t=some (.slice e)) (hi:P.info? e=some i) (hz:i.zero=some z)
  (hsize:i.size=size) (hby:i.bytes=bytes) (hzs:z.cells.size=size) (hsz:0<size)
  (v:Value) (n:Nat) (xs:List Value) (hs:a.eval s=v) (hown:w.ownsRow base e size v n xs)
  (A:Option Addr) (m c lo:Nat) (news:List Value) (hx:a.eval x=.slice A m c) (hrow:Row w lo A m c news) (hl:news.length=m * size) (h1:∀ u∈news,u.oneCell'=true)
  (h63:n+m<=maxLen) (hbytes:(n+m) * bytes<=140737488355328) (hbase:base<=w.heap.size)
  (h:∀ v' w',w'.ownsRow base e size v' (n+m) (xs++news)->w.grownBy w' v.ownBlock->wpList P ops Q rest (a.put o.dst v') w'):wpList P ops Q (o::rest) a w:=by
 cases A with
 | none =>
  have hr2:m=0/\c=0/\news=[]:=by
   rcases hrow with h|⟨_,h,_⟩|⟨_,_,h,_⟩
   ·exact h.2
   ·cases h
   ·cases h
  obtain ⟨rfl,rfl,rfl⟩:=hr2
  exact wpList_append_own_none hgd s x t ho base e i size ht hi v n xs hs hown hx (h v w (by simpa using hown) (qby _ _))
 | some ad=>exact wpList_append_own w hgd s x t ho base e i z size bytes ht hi hz hsize hby hzs hsz v n xs hs hown ad m c news hx hl hrow.src' h1 h63 hbytes hbase (fun v' w' k1 k2 _=>h v' w' k1 k2)
end
theorem pO {P:Program} {ops:Array Oper} {Q:Exit->Act->World->Prop} {S:World->Prop} {r:List (Nat × Bool)} {a:Act} {o:Oper} {d:Tmp} (h:qam P ops Q S r { a with tmps:=a.tmps.setIfInBounds d undef } w) (hS:S w) (ho:ops[i]? = some o:=by rfl) (hd:o.dst=some d:=by rfl)
  (hw:Region.wanted o (yielded ops a.tmps)=false:=by first|exact qji rfl rfl rfl|exact qgi rfl rfl rfl):qam P ops Q S ((i,false)::r) a w:=wpPerm_no ho hw hS (by rw [hd];exact h)
theorem lay4 {t:TypeId} {a b c d:Value} (B:Blk w g t #[a,b,c,d]) (cz:List Value) (hl:cz.length=4):Blk (w.setCells g 0 cz) g t cz.toArray/\w.grownBy (w.setCells g 0 cz) (some g):=by
 obtain ⟨B9,hg9⟩:=Blk.lay cz 0 B (by rw [hl];simp)
 rw [qai _ _ (by rw [hl];rfl)] at B9
 exact ⟨B9,hg9⟩
theorem bnd_db9:Bnd eDB:=qbc (qbk qdm) (qbc (qbk qhz) (qbc (qbk flat_hld.bnd) (qbk flat_hld.bnd)))
def FineT (cs:List Value):Prop:=∃ A n c rest,cs=.slice A n c::rest/\Fine A
theorem FineT.fine {r:List Value} (h:FineT (.slice A n c::r)):Fine A:=by
 obtain ⟨_,_,_,_,e,hf⟩:=h
 injection e with e _
 injection e with e _ _
 subst e
 exact hf
theorem eDB_at {n4:Nat} (h:eDB.rel w F [.slice A n c,.slice A2 n2 c2,.slice A3 n3 c3,.slice A4 n4 c4] x):Sl eTab w F A n c x.1/\Sl eWrk w F A2 n2 c2 x.2.1/\Sl eHld w F A3 n3 c3 x.2.2.1/\Sl eHld w F A4 n4 c4 x.2.2.2:=by
 obtain ⟨_,_,_,_,_,_,_,_,_,_,_,_,he,h1,h2,h3,h4⟩:=qav h
 injection he with e1 he
 injection he with e2 he
 injection he with e3 he
 injection he with e4 _
 injection e1 with e1 e1' e1''
 injection e2 with e2 e2' e2''
 injection e3 with e3 e3' e3''
 injection e4 with e4 e4' e4''
 subst e1 e1' e1'' e2 e2' e2'' e3 e3' e3'' e4 e4' e4''
 exact ⟨h1,h2,h3,h4⟩
structure OkD (m:Nat) (x:DBd):Prop where
 len:x.1.length<=m
 nm:∀ t∈x.1,t.1.1.size<=1000
 wk:x.2.1=[]
def AnyD (F:qab) (m:Nat) (w:World) (e:Ending) (w':World):Prop:=∃ (cs:List Value) (x:DBd) (r:Int),e=.returned (.tuple #[.agg cs.toArray,.int .i64 r])/\eDB.rel w' (fun b=>(F b/\b<w.heap.size)\/w.heap.size+2<b) cs x/\FineT cs/\OkD m x/\Below w.heap.size w w'
theorem AnyD.mk {w1 w2:World} {r:Int} (hx:eDB.rel w1 (fun b=>(F b/\b<w.heap.size)\/w.heap.size+2<b) cs x) (hg:w1.grownBy w2 (some gr)) (hb:Below w.heap.size w w1) (hgr:w.heap.size<=gr/\gr<=w.heap.size+2) (hf:FineT cs) (ho:OkD m x):AnyD F m w (.returned (.tuple #[.agg cs.toArray,.int .i64 r])) w2 :=
 ⟨cs,x,r,rfl,eDB.keep hx (Keep.grown hg (fun g h q=>by have q:=q.imp_left And.right;injection h with h;omega)),hf,ho,(hb.gw hg)⟩
theorem OkD.mono (h:OkD m x) (hk:m<=k):OkD k x:=⟨Nat.le_trans h.len hk,h.nm,h.wk⟩
theorem create13_ {cols:List ColD} {n0:ByteArray} {only:Bool} (hD:eDB.rel w F cs x) (hf:FineT cs) (hx:OkD m x) (hm:m<=7)
  (h:Sl eCol w F A n c cols) (hn1:1<=n) (hn:n<=6) (h0:n0.size<=1000) (hc:∀ y∈cols,y.1.size<=1000) :
  Calls Tryz.prog 23 #[.agg cs.toArray,.agg #[.string n0,.slice A n c,.int .i64 0,.bool only]] w (AnyD F (m+1) w):=by
 obtain ⟨A1,n1,c1,A2,n2,c2,A3,n3,c3,A4,n4,c4,rfl,h1,h2,h3,h4⟩:=qav hD
 have hn2:n2=0:=by rw [<-h2.len,hx.wk];rfl
 subst hn2
 have hmn:n1<=m:=by rw [<-h1.len];exact hx.len
 have HFI:=zh hf
 have HD:=zh hD
 have HX:=zh hx
 have HS:=zh h
 have HC:=zh hc
 have H1:=zh h1
 clear hD hf h hx hc h1 h2 h3 h4
 go_enter Tryz.func23,Tryz.ntmps23
 go_upto_region 1 with fail
 obtain ⟨W,hW_,hb1,BD,BS,BR⟩:=al3 w 38 66 38 #[.slice A1 n1 c1,.slice A2 0 c2,.slice A3 n3 c3,.slice A4 n4 c4] #[.string n0,.slice A n c,.int .i64 0,.bool only] #[.slice none 0 0,.slice none 0 0,.slice none 0 0,.slice none 0 0]
 rw [<-hW_]
 clear hW_
 obtain ⟨gd,hgd⟩:∃ g,w.heap.size=g:=⟨_,rfl⟩
 obtain ⟨gs,hgs⟩:∃ g,w.heap.size+1=g:=⟨_,rfl⟩
 obtain ⟨gr,hgr⟩:∃ g,w.heap.size+1+1=g:=⟨_,rfl⟩
 rw [hgr] at BR ⊢
 rw [hgs] at BS ⊢
 rw [hgd] at BD ⊢
 have HGO:=zh (show w.heap.size<=gd/\gd<gs/\gs<gr/\(w.heap.size<=gr/\gr<=w.heap.size+2)/\w.heap.size+2<=gr by omega)
 have HBD:=zh BD
 have HBS:=zh BS
 have HBR:=zh BR
 have HB1:=zh hb1
 have HD0:=zh (fun (w':World) (q:Below w.heap.size w w')=>eDB.mono (eDB.ext (bnd_db9 HD.out) q) (G:=fun b=>(F b/\b<w.heap.size)\/w.heap.size+2<b) (fun b h=>.inl h))
 have qs:=four BS (zb _ _)
 have HK:=zh (check9_ (HS.out.ext hb1) hn1 hn h0 HC.out (only:=only))
 clear hgd hgs hgr BD BS BR hb1
 go_wp2_with fail
 refine HK.out.mono ?_
 rintro e w1 ⟨⟨r,rfl⟩,hb2⟩
 have HW1:=zh (HB1.out.tr hb2)
 have HBD1:=zh (HBD.out.ext hb2)
 have HBS1:=zh (HBS.out.ext hb2)
 have HBR1:=zh (HBR.out.ext hb2)
 clear HK qs hb2 HB1 HBD HBS HBR
 by_cases hr:r=0
 case neg =>
  have hne:(r != 0)=true:=by simpa using hr
  clear hr
  have qd:=four HBD1.out (zb _ _)
  have hth:=Blk.there (o:=0) (n:=4) HBR1.out (by simp)
  obtain ⟨B9,hg9⟩:=lay4 HBR1.out [.slice A1 n1 c1,.slice A2 0 c2,.slice A3 n3 c3,.slice A4 n4 c4] rfl
  have HF:=zh (AnyD.mk (r:=r) (HD0.out _ HW1.out) hg9 (HW1.out) HGO.out.2.2.2.1 HFI.out (HX.out.mono (k:=m+1) (by omega)))
  clear hg9
  go_wp2_with ((with_reducible refine sS 4 ?_);(refine wpList_store_mid rfl 38 _ _ rfl gr 0 #[.slice A1 n1 c1,.slice A2 0 c2,.slice A3 n3 c3,.slice A4 n4 c4] rfl rfl ?zs ?zt (all_oneCell_toArray (eDB.one (HD0.out _ HW1.out))) ?_))
  case zs=>exact hth
  case zt=>kernel_rfl
  clear hth qd
  generalize w1.setCells gr 0 [.slice A1 n1 c1,.slice A2 0 c2,.slice A3 n3 c3,.slice A4 n4 c4]=wz at *
  go_wp2
  exact bodyPost_ret (v:=.tuple #[.agg #[.slice A1 n1 c1,.slice A2 0 c2,.slice A3 n3 c3,.slice A4 n4 c4],.int .i64 r]) (qbe rfl _ _ gr _ _ (0,0) _ rfl B9 Tryz.underlying38 rfl (by kernel_rfl) rfl) rfl HF.out
 subst hr
 have HF:=zh (find13_ (nm:=n0) (HD0.out _ HW1.out) (by have:=HX.out.len;omega))
 have qd:=four HBD1.out (zb _ _)
 have qs:=HBS1.out.cell 0
 go_wp2_with fail
 refine HF.out.mono ?_
 rintro e w2 ⟨⟨r,rfl⟩,hb2⟩
 have HW2:=zh (HW1.out.tr hb2)
 have HBD2:=zh (HBD1.out.ext hb2)
 have HBS2:=zh (HBS1.out.ext hb2)
 have HBR2:=zh (HBR1.out.ext hb2)
 clear HF qs qd hb2 HW1 HBD1 HBS1 HBR1
 rcases Int.lt_or_le r 0 with hr|hr
 case inr =>
  have hne:decide (0<=r)=true:=by simpa using hr
  clear hr
  have qd:=four HBD2.out (zb _ _)
  have hth:=Blk.there (o:=0) (n:=4) HBR2.out (by simp)
  obtain ⟨B9,hg9⟩:=lay4 HBR2.out [.slice A1 n1 c1,.slice A2 0 c2,.slice A3 n3 c3,.slice A4 n4 c4] rfl
  have HF:=zh (AnyD.mk (r:=7) (HD0.out _ HW2.out) hg9 (HW2.out) HGO.out.2.2.2.1 HFI.out (HX.out.mono (k:=m+1) (by omega)))
  clear hg9
  go_wp2_with ((with_reducible refine sS 4 ?_);(refine wpList_store_mid rfl 38 _ _ rfl gr 0 #[.slice A1 n1 c1,.slice A2 0 c2,.slice A3 n3 c3,.slice A4 n4 c4] rfl rfl ?zs ?zt (all_oneCell_toArray (eDB.one (HD0.out _ HW2.out))) ?_))
  case zs=>exact hth
  case zt=>kernel_rfl
  clear hth qd
  generalize w2.setCells gr 0 [.slice A1 n1 c1,.slice A2 0 c2,.slice A3 n3 c3,.slice A4 n4 c4]=wz at *
  go_wp2
  exact bodyPost_ret (v:=.tuple #[.agg #[.slice A1 n1 c1,.slice A2 0 c2,.slice A3 n3 c3,.slice A4 n4 c4],.int .i64 7]) (qbe rfl _ _ gr _ _ (0,0) _ rfl B9 Tryz.underlying38 rfl (by kernel_rfl) rfl) rfl HF.out
 have hne:decide (0<=r)=false:=by simpa using hr
 have hl8:decide ((8:Int)<=(n1:Int))=false:=by simp;omega
 clear hr
 have qd:=four HBD2.out (zb _ _)
 go_upto_block 1 with fail
 clear hne hl8 qd
 go_cut [7] from 35 to 54 (fun sv wx=>∃ k:Nat,sv=.int .i64 k/\k<=n1/\Below w2.heap.size w2 wx)
 case first =>
  go_wp2_with fail
  go_loopw [7] (fun i wr=>∃ k:Nat,i=.int .i64 k/\k<=n1/\Below w2.heap.size w2 wr) (fun i _=>n1 - (intOf i).toNat)
  case atStart=>exact ⟨0,rfl,Nat.zero_le _,zb _ _⟩
  case round =>
   obtain ⟨k,rfl,hk,hbr⟩:=hrel
   have HBDr:=zh (HBD2.out.ext hbr)
   have HBSr:=zh (HBS2.out.ext hbr)
   rcases Nat.lt_or_ge k n1 with hlt|hge
   ·have hd:decide ((k:Int)<(n1:Int))=true:=by simp;omega
    have hkn:(k:Int)<(n1:Int):=by omega
    obtain ⟨b,off,rfl,_,_,hbl⟩:=H1.out.some_ (by omega)
    obtain ⟨y,hy⟩:∃ y,x.1[k]? = some y:=⟨_,List.getElem?_eq_getElem (by rw [H1.out.len];omega)⟩
    have hyz:=HX.out.nm y (List.mem_of_getElem? hy)
    obtain ⟨cs,hcs,hcell⟩:=H1.out.at_ hy
    obtain ⟨At,nt,ct,At2,nt2,ct2,rfl,_,_⟩:=qbo hcs
    have hc0:=hcell 0 _ rfl
    have hbw:=(HW2.out.tr hbr)
    have D:=fun w' (h:Below wr.heap.size wr.drew w')=>za ((HBDr.out.ext ((zb _ _).drew.trans h)).cell 0) (za ((HBSr.out.ext ((zb _ _).drew.trans h)).cell 0) (show w'.cell? ⟨b,off+k * 5,none⟩=some (.string y.1.1) from ((hbw.tr ((zb _ _).drew.trans h)).cell (p:=⟨b,off+k * 5,none⟩) hbl).trans hc0))
    clear hy hcs hcell hc0 hbw
    go_wp2_with fail
    refine r1 [(0,true),(1,true),(2,true),(3,true),(4,true),(5,true),(6,true),(7,true),(8,true),(9,true),(10,true),(11,true),(12,true),(13,true),(14,true),(15,false),(16,true)] ?_
    repeat ((first|refine pT ?_|refine pF ?_);try go_frame)
    clear D
    refine pD fun K hK=>?_;go_simp
    refine (below13_ (by omega) (by omega)).mono ?_
    rintro e w3 ⟨⟨b,rfl⟩,hb3⟩
    refine hK.out _ _ hb3 ?_
    clear hK K
    repeat ((first|refine pT ?_|refine pF ?_);try go_frame)
    refine qad ?_
    have hbr3:=hbr.tr ((zb wr.heap.size wr).drew.trans hb3)
    clear hb3
    cases b with
    | true =>
     go_wp2
     go_roundw
     case rel=>exact ⟨k+1,by go_num,by omega,hbr3⟩
     case measure=>simp [intOf];omega
    | false =>
     go_wp2_with fail
     go_meet
     exact ⟨k,rfl,hk,hbr3⟩
   ·have hd:decide ((k:Int)<(n1:Int))=false:=by simp;omega
    have hdn:decide (k<n1)=false:=by simp;omega
    have D:=fun w' (h:Below wr.heap.size wr.drew w')=>(HBDr.out.ext ((zb _ _).drew.trans h)).cell 0
    go_wp2_with fail
    refine r1 [(0,true),(1,true),(2,true),(3,true),(4,true),(5,true),(6,true),(7,true),(8,true),(9,true),(10,true),(11,true),(12,true),(13,true),(14,true),(15,false),(16,true)] ?_
    repeat ((first|refine pT ?_|refine pF ?_);try go_frame)
    refine pO ?_ (zb _ _)
    try go_frame
    repeat ((first|refine pT ?_|refine pF ?_);try go_frame)
    clear D
    refine qad ?_
    go_wp2_with fail
    go_meet
    exact ⟨k,rfl,hk,hbr.drew⟩
 case rest =>
 obtain ⟨k,rfl,hk,hb3⟩:=hcut
 generalize wc=w3 at *
 clear wc
 have HW3:=zh (HW2.out.tr hb3)
 have HBD3:=zh (HBD2.out.ext hb3)
 have HBS3:=zh (HBS2.out.ext hb3)
 have HBR3:=zh (HBR2.out.ext hb3)
 have HD3:=zh (HD0.out _ HW3.out)
 have HS3:=zh (((HS.out.bound flat_col.bnd).ext HW3.out).mono (G:=fun b=>(F b/\b<w.heap.size)\/w.heap.size+2<b) (fun b h=>.inl h))
 clear hb3 HW2 HBD2 HBS2 HBR2 HD0 HS HD H1
 obtain ⟨h1,h2,h3,h4⟩:=eDB_at HD3.out
 obtain ⟨css,hrow,hels,hlen⟩:=h1
 have hr0:=hrow.row
 have hcl:=hels.flen
 have HR0:=zh hr0
 have HEL:=zh hels
 have HLN:=zh hlen
 have HCL:=zh (show css.flatten.length=n1 * 5 by rw [hcl,hlen];rfl)
 have H234:=zh (za h2 (za h3 h4))
 obtain ⟨X1,hX1⟩:∃ l,(css.take k).flatten=l:=⟨_,rfl⟩
 obtain ⟨X2,hX2⟩:∃ l,(css.drop k).flatten=l:=⟨_,rfl⟩
 have HTK:=zh (show X1.length=k * 5 by rw [<-hX1,(hels.take k).flen,List.length_take,hlen,Nat.min_eq_left hk];rfl)
 have HDK:=zh (show X2.length=(n1 - k) * 5 by rw [<-hX2,(hels.drop k).flen,List.length_drop,hlen];rfl)
 have HTO:=za (hels.take k).ones (hels.drop k).ones
 have HTF:=za (qnm (k:=5) css k hels.klen) (qjl (k:=5) css k hels.klen)
 rw [hX1,hX2] at HTO HTF
 have HTO:=zh HTO
 have HTF:=zh HTF
 have HX12:=zh (za hX1 hX2)
 clear hX1 hX2
 have hnc:=hr0.le_
 obtain ⟨i0,hi,hy0,hy1,hy2⟩:=ip Tryz.prog 118 (.agg #[.string ⟨#[]⟩,.slice none 0 0,.int .i64 0,.bool false,.slice none 0 0]) 5 80
 have hfine:=HFI.out.fine
 clear hrow hels hlen hr0 hcl h2 h3 h4
 have HN0:=zh (show A1=none->n1=0/\c1=0/\css.flatten=[] from fun e=>by
  rcases HR0.out with h|⟨_,h,_⟩|⟨_,_,h,_⟩
  ·exact h.2
  ·rw [e] at h;cases h
  ·rw [e] at h;cases h)
 have hgc:gr<w3.heap.size:=HBR3.out.lt
 go_upto_region 13 with fail
 go_cut [8] from 54 to 60 (fun sv wx=>∃ A8 c8,sv=.slice A8 k c8/\wx.ownsRow w3.heap.size 118 5 (.slice A8 k c8) k X1/\Below w3.heap.size w3 wx)
 case first =>
  have q0:=fun o=>(HBD3.out.ext ((zb _ _).alloc (zl _) o)).cell 0
  rcases hfine with rfl|⟨b,off,rfl⟩
  ·obtain ⟨rfl,rfl,hcs⟩:=HN0.out rfl
   obtain rfl:k=0:=by omega
   go_wp2_with (at_builtin;refine qcd rfl (.tmp 54) (.tmp 58) 32 rfl w3.heap.size 118 i0 _ 5 80 Tryz.underlying32 hi hy0 hy1 hy2 rfl (by decide) _ _ _ rfl (World.ownsRow_made w3 #[] 0 (zl _) (Nat.zero_le _) rfl) _ _ _ 0 [] rfl (Row.nil _ _) ?an1 ?an2 ?an3 ?an4 ?an5 ?_)
   intro v7 w7 hown7 hgrow7
   obtain ⟨A7,c7,rfl⟩:=qan hown7
   clear q0
   go_wp2_with fail
   go_meet
   exact ⟨A7,c7,rfl,(by rw [show X1=[] from List.length_eq_zero_iff.1 HTK.out];simpa using hown7),((zb _ _).alloc (zl _) _).grown hgrow7 (by simp) (fun k hk=>by simp [Value.ownBlock] at hk;omega)⟩
  ·have hk1:(k:Int)<=(c1:Int):=by omega
   have hk2:k<=c1:=by omega
   go_wp2_with (at_builtin;refine qcd rfl (.tmp 54) (.tmp 58) 32 rfl w3.heap.size 118 i0 _ 5 80 Tryz.underlying32 hi hy0 hy1 hy2 rfl (by decide) _ _ _ rfl (World.ownsRow_made w3 #[] 0 (zl _) (Nat.zero_le _) rfl) _ _ _ 0 X1 rfl ?bn0 ?bn1 ?bn2 ?bn3 ?bn4 ?bn5 ?_)
   case bn0=>rw [<-HTF.out.1];exact (HR0.out.ext ((zb _ _).alloc (zl _) _)).take k c1 (k * 5) hk2 hk
   case bn1=>exact HTK.out
   case bn2=>exact HTO.out.1
   case bn3=>unfold maxLen;omega
   case bn4=>omega
   case bn5=>simp
   intro v7 w7 hown7 hgrow7
   obtain ⟨A7,c7,rfl⟩:=qan hown7
   clear q0
   go_wp2_with fail
   go_meet
   exact ⟨A7,c7,by simp,by simpa using hown7,((zb _ _).alloc (zl _) _).grown hgrow7 (by simp) (fun k hk=>by simp [Value.ownBlock] at hk;omega)⟩
 case rest =>
 obtain ⟨A8,c8,rfl,hown8,hb8⟩:=hcut
 generalize wc=w8 at *
 clear wc
 have HO8:=zh hown8
 have HB8:=zh hb8
 have qs:=four (HBS3.out.ext hb8) (zb _ _)
 clear hown8 hb8
 go_wp2_with (at_builtin;refine wpList_append_own _ rfl (.tmp 60) (.tmp 63) 32 rfl w3.heap.size 118 i0 _ 5 80 Tryz.underlying32 hi hy0 hy1 hy2 rfl (by decide) _ k _ rfl (HO8.out.alloc _) ⟨w8.heap.size,0,none⟩ 1 1 [.string n0,.slice A n c,.int .i64 0,.bool only,.slice none 0 0] rfl rfl ?cn1 ?cn2 ?cn3 ?cn4 ?cn5 ?_)
 case cn1=>exact (Row.of_blk (Blk.new w8 _ _) (Nat.zero_le _) 1 1 (zl _)).src
 case cn2=>intro u hu;simp at hu;rcases hu with rfl|rfl|rfl|rfl|rfl <;> rfl
 case cn3=>unfold maxLen;omega
 case cn4=>omega
 case cn5=>simp;have:=HB8.out.size;omega
 intro v9 w9 hown9 hgrow9 _
 have hba:=(zb w8.heap.size w8).alloc (zl _) (.cells #[.string n0,.slice A n c,.int .i64 0,.bool only,.slice none 0 0] 118)
 have hlt8:=fun b h=>(HO8.out.lt b h).1
 have hb9:Below w3.heap.size w3 w9:=(HB8.out.tr hba).grown hgrow9 (HB8.out.tr hba).size (fun b hb=>hlt8 b hb)
 obtain ⟨A9,c9,rfl⟩:=qan hown9
 have HO9:=zh hown9
 have HB9:=zh hb9
 clear hba hlt8 hown9 hgrow9 hb9 HO8 HB8 qs
 go_upto_region 15 with fail
 have hgdl:gd<w3.heap.size:=HBD3.out.lt
 go_cut [] from 65 to 72 (fun wx=>∃ A10 c10,Blk wx gd 38 #[.slice A10 (n1+1) c10,.slice A2 0 c2,.slice A3 n3 c3,.slice A4 n4 c4]/\wx.ownsRow w3.heap.size 118 5 (.slice A10 (n1+1) c10) (n1+1) (X1++.string n0::.slice A n c::.int .i64 0::.bool only::.slice none 0 0::X2)/\w3.grownBy wx (some gd))
 case first =>
  have hlt9:∀ v:Value,v=.slice A9 (k+1) c9->v.ownBlock≠some gd:=fun v e h=>by rw [e] at h;have:=(HO9.out.lt gd h).1;omega
  have BD9:=HBD3.out.ext HB9.out
  have q0:=BD9.cell 0
  have hg9:=qcw HB9.out (some gd)
  rcases hfine with rfl|⟨b,off,rfl⟩
  ·obtain ⟨rfl,rfl,_⟩:=HN0.out rfl
   obtain rfl:k=0:=by omega
   have HZ2:=zh (show X2.length=0 * 5 from HDK.out)
   have HZ3:=zh (List.length_eq_zero_iff.1 HZ2.out)
   go_wp2_with (at_builtin;refine qcd rfl (.tmp 65) (.tmp 69) 32 rfl w3.heap.size 118 i0 _ 5 80 Tryz.underlying32 hi hy0 hy1 hy2 rfl (by decide) _ _ _ rfl HO9.out _ 0 _ 0 X2 rfl ?dn0 ?dn1 ?dn2 ?dn3 ?dn4 ?dn5 ?_)
   case dn0=>exact (show Row w9 0 none 0 0 X2 by rw [HZ3.out];exact Row.nil _ _)
   case dn1=>first|exact HZ2.out|exact HZ3.out
   case dn2=>exact HTO.out.2
   all_goals try (case dn3=>unfold maxLen;omega)
   all_goals try (case dn4=>omega)
   all_goals try (case dn5=>exact HB9.out.size)
   intro v10 w10 hown10 hgrow10
   try rw [show 0+1+0=0+1 by omega] at hown10
   try simp only [List.append_assoc,List.cons_append,List.nil_append] at hown10
   have BD10:=BD9.grown hgrow10 (fun e=>hlt9 _ rfl e.symm)
   obtain ⟨A10,c10,rfl⟩:=qan hown10
   have hne:some gd≠(Value.slice A10 (0+1) c10).ownBlock:=fun e=>by
    have:=(hown10.lt gd e.symm).1
    omega
   have hg10:=hg9.andThen hgrow10 (fun k hk=>.inl (by have:=(HO9.out.lt k hk).1;omega))
   have f0:=BD10.frozen 0
   have q1:=BD10.cell 0
   have HO10:=zh hown10
   clear q0 hown10 hgrow10 BD9 hg9
   go_wp2_with fail
   go_meet
   exact ⟨A10,c10,by simpa using BD10.set_ 0 (.slice A10 (0+1) c10),HO10.out.kept (qac w10 gd 0 _) (by
    cases ho:(Value.slice A10 (0+1) c10).ownBlock with
    | none=>exact .inl rfl
    | some b=>exact .inr (fun e=>hne (by rw [ho,e]))),qah hg10 (qac w10 gd 0 _)⟩
  ·by_cases hck:c1=k
   ·subst hck
    obtain rfl:n1=c1:=by omega
    have HZ2:=zh (show X2.length=0 * 5 by rw [HDK.out,Nat.sub_self])
    have HZ3:=zh (List.length_eq_zero_iff.1 (HZ2.out.trans (Nat.zero_mul _)))
    go_wp2_with (at_builtin;refine qcd rfl (.tmp 65) (.tmp 69) 32 rfl w3.heap.size 118 i0 _ 5 80 Tryz.underlying32 hi hy0 hy1 hy2 rfl (by decide) _ _ _ rfl HO9.out _ 0 _ 0 X2 rfl ?en0 ?en1 ?en2 ?en3 ?en4 ?en5 ?_)
    case en0=>exact (show Row w9 0 _ 0 _ X2 by rw [HZ3.out];exact Row.empty _ _ _ _)
    case en1=>first|exact HZ2.out|exact HZ3.out
    case en2=>exact HTO.out.2
    all_goals try (case en3=>unfold maxLen;omega)
    all_goals try (case en4=>omega)
    all_goals try (case en5=>exact HB9.out.size)
    intro v10 w10 hown10 hgrow10
    try rw [show n1+1+0=n1+1 by omega] at hown10
    try simp only [List.append_assoc,List.cons_append,List.nil_append] at hown10
    have BD10:=BD9.grown hgrow10 (fun e=>hlt9 _ rfl e.symm)
    obtain ⟨A10,c10,rfl⟩:=qan hown10
    have hne:some gd≠(Value.slice A10 (n1+1) c10).ownBlock:=fun e=>by
     have:=(hown10.lt gd e.symm).1
     omega
    have hg10:=hg9.andThen hgrow10 (fun k hk=>.inl (by have:=(HO9.out.lt k hk).1;omega))
    have f0:=BD10.frozen 0
    have q1:=BD10.cell 0
    have HO10:=zh hown10
    clear q0 hown10 hgrow10 BD9 hg9
    go_wp2_with fail
    go_meet
    exact ⟨A10,c10,by simpa using BD10.set_ 0 (.slice A10 (n1+1) c10),HO10.out.kept (qac w10 gd 0 _) (by
     cases ho:(Value.slice A10 (n1+1) c10).ownBlock with
     | none=>exact .inl rfl
     | some b=>exact .inr (fun e=>hne (by rw [ho,e]))),qah hg10 (qac w10 gd 0 _)⟩
   ·have HZ2:=HDK
    have HZ3:=HDK
    have HRD:=zh (show ∀ m',n1 - k<=m'->Row w9 0 (some ⟨b,off+k * 5,none⟩) (n1 - k) m' X2 from fun m' h=>by rw [<-HTF.out.2];exact (HR0.out.ext HB9.out).drop (n1 - k) m' (k * 5) h (by omega))
    have hk1:(k:Int)<=(n1:Int):=by omega
    have hk2:(n1:Int)<=(c1:Int):=by omega
    go_wp2_with (at_builtin;refine qcd rfl (.tmp 65) (.tmp 69) 32 rfl w3.heap.size 118 i0 _ 5 80 Tryz.underlying32 hi hy0 hy1 hy2 rfl (by decide) _ _ _ rfl HO9.out _ (n1 - k) _ 0 X2 rfl ?fn0 ?fn1 ?fn2 ?fn3 ?fn4 ?fn5 ?_)
    case fn0=>exact HRD.out _ (by omega)
    case fn1=>first|exact HZ2.out|exact HZ3.out
    case fn2=>exact HTO.out.2
    all_goals try (case fn3=>unfold maxLen;omega)
    all_goals try (case fn4=>omega)
    all_goals try (case fn5=>exact HB9.out.size)
    intro v10 w10 hown10 hgrow10
    try rw [show k+1+(n1 - k)=n1+1 by omega] at hown10
    try simp only [List.append_assoc,List.cons_append,List.nil_append] at hown10
    have BD10:=BD9.grown hgrow10 (fun e=>hlt9 _ rfl e.symm)
    obtain ⟨A10,c10,rfl⟩:=qan hown10
    have hne:some gd≠(Value.slice A10 (n1+1) c10).ownBlock:=fun e=>by
     have:=(hown10.lt gd e.symm).1
     omega
    have hg10:=hg9.andThen hgrow10 (fun k hk=>.inl (by have:=(HO9.out.lt k hk).1;omega))
    have f0:=BD10.frozen 0
    have q1:=BD10.cell 0
    have HO10:=zh hown10
    clear q0 hown10 hgrow10 BD9 hg9
    go_wp2_with fail
    go_meet
    exact ⟨A10,c10,by simpa using BD10.set_ 0 (.slice A10 (n1+1) c10),HO10.out.kept (qac w10 gd 0 _) (by
     cases ho:(Value.slice A10 (n1+1) c10).ownBlock with
     | none=>exact .inl rfl
     | some b=>exact .inr (fun e=>hne (by rw [ho,e]))),qah hg10 (qac w10 gd 0 _)⟩
 case rest =>
 obtain ⟨A10,c10,BD10,hown10,hg10⟩:=hcut
 generalize wc=w10 at *
 clear wc
 have hbw10:=HW3.out.grown hg10 HW3.out.size (fun k hk=>by injection hk with hk;have:=HGO.out.1;omega)
 have BR10:=HBR3.out.grown hg10 (fun e=>by injection e with e;have:=HGO.out;omega)
 have hkF:Keep (fun b=>(F b/\b<w.heap.size)\/w.heap.size+2<b) w3 w10:=Keep.grown hg10 (fun g hg h=>by have h:=h.imp_left And.right;injection hg with hg;have:=HGO.out;omega)
 have hel:=HEL.out.keep hkF
 have hnew:=qho (x:=((n0,cols,0,only),[])) (HS3.out.keep hkF) (Sl.nil w10 _) (.inl rfl)
 have hx10:eDB.rel w10 (fun b=>(F b/\b<w.heap.size)\/w.heap.size+2<b) [.slice A10 (n1+1) c10,.slice A2 0 c2,.slice A3 n3 c3,.slice A4 n4 c4] (x.1.take k++((n0,cols,0,only),[])::x.1.drop k,x.2) :=
  qeg (x:=(x.1.take k++((n0,cols,0,only),[])::x.1.drop k,x.2)) ⟨css.take k++[[.string n0,.slice A n c,.int .i64 0,.bool only,.slice none 0 0]]++css.drop k,by
   rw [List.flatten_append,List.flatten_append,HX12.out.1,HX12.out.2,List.flatten_cons,List.flatten_nil,List.append_nil]
   simp only [List.append_assoc,List.cons_append,List.nil_append]
   exact RowF.of_row (Row.of_own hown10) (fun b h1 h2=>.inr (by have:=HGO.out;omega)),by
   have:=((hel.take k).append (Els.one_ hnew)).append (hel.drop k)
   simpa using this,by simp [HLN.out];omega⟩ (H234.out.1.keep hkF) (H234.out.2.1.keep hkF) (H234.out.2.2.keep hkF)
 have HX10:=zh hx10
 have HW10:=zh hbw10
 have HFI10:=zh (show FineT [.slice A10 (n1+1) c10,.slice A2 0 c2,.slice A3 n3 c3,.slice A4 n4 c4] from ⟨_,_,_,_,rfl,by
  rcases hown10.2 with ⟨z,_⟩|⟨g',cap,cur,z,_⟩
  ·injection z with z;exact .inl z
  ·injection z with z;exact .inr ⟨g',0,z⟩⟩)
 have HOK10:=zh (show OkD (m+1) (x.1.take k++((n0,cols,0,only),[])::x.1.drop k,x.2) from ⟨by simp [HLN.out];omega,fun t ht=>by
  rcases List.mem_append.1 ht with ht|ht
  ·exact HX.out.nm t (List.mem_of_mem_take ht)
  ·rcases List.mem_cons.1 ht with rfl|ht
   ·exact h0
   ·exact HX.out.nm t (List.mem_of_mem_drop ht),HX.out.wk⟩)
 have HBD10:=zh BD10
 have HBR10:=zh BR10
 clear hx10 hbw10 hown10 hg10 BR10 BD10 hkF hel hnew
 have qd:=four HBD10.out (zb _ _)
 have hth:=Blk.there (o:=0) (n:=4) HBR10.out (by simp)
 obtain ⟨B9,hg9⟩:=lay4 HBR10.out [.slice A10 (n1+1) c10,.slice A2 0 c2,.slice A3 n3 c3,.slice A4 n4 c4] rfl
 have HF:=zh (AnyD.mk (r:=0) (HX10.out) hg9 (HW10.out) HGO.out.2.2.2.1 HFI10.out HOK10.out)
 clear hg9
 go_wp2_with ((with_reducible refine sS 4 ?_);(refine wpList_store_mid rfl 38 _ _ rfl gr 0 #[.slice A10 (n1+1) c10,.slice A2 0 c2,.slice A3 n3 c3,.slice A4 n4 c4] rfl rfl ?zs ?zt (all_oneCell_toArray (eDB.one (HX10.out))) ?_))
 case zs=>exact hth
 case zt=>kernel_rfl
 clear hth qd
 generalize w10.setCells gr 0 [.slice A10 (n1+1) c10,.slice A2 0 c2,.slice A3 n3 c3,.slice A4 n4 c4]=wz at *
 go_wp2
 exact bodyPost_ret (v:=.tuple #[.agg #[.slice A10 (n1+1) c10,.slice A2 0 c2,.slice A3 n3 c3,.slice A4 n4 c4],.int .i64 0]) (qbe rfl _ _ gr _ _ (0,0) _ rfl B9 Tryz.underlying38 rfl (by kernel_rfl) rfl) rfl HF.out
def nmT (t:Nat):List UInt8:=match t with
 | 0=>[116,97]
 | 1=>[116,98]
 | _=>[116,99]
def colsT:List pg.Cl:=[⟨[97],2,false⟩,⟨[98],3,true⟩]
def tabT (t:Nat):Tab:=(qbj (nmT t) colsT 0 (t == 2),[])
def ShapeR (t:Nat) (w:World) (e:Ending) (w':World):Prop:=∃ g,e=.returned (.agg #[.string ⟨(nmT t).toArray⟩,.slice (some ⟨g,0,none⟩) 2 2,.int .i64 0,.bool (t == 2)])/\Sl eCol w' (fun b=>w.heap.size<=b) (some ⟨g,0,none⟩) 2 2 (colsT.map qdf)/\Below w.heap.size w w'
theorem qlj {t:TypeId} (h:Blk w g t #[.string ⟨#[97]⟩,.int .i64 2,.bool false,.string ⟨#[98]⟩,.int .i64 3,.bool true]) (hF:F g):Sl eCol w F (some ⟨g,0,none⟩) 2 2 (colsT.map qdf):=by
 refine ⟨[[.string ⟨#[97]⟩,.int .i64 2,.bool false],[.string ⟨#[98]⟩,.int .i64 3,.bool true]],.inr (.inr ⟨g,0,rfl,zl _,hF,h.lt,fun i u hu=>?_⟩),?_,rfl⟩
 ·rw [Nat.zero_add,h.cell]
  simpa using hu
 ·have h1:eCol.rel w F [.string ⟨#[97]⟩,.int .i64 2,.bool false] (⟨#[97]⟩,2,false):=⟨[_],_,rfl,rfl,[_],[_],rfl,rfl,rfl⟩
  have h2:eCol.rel w F [.string ⟨#[98]⟩,.int .i64 3,.bool true] (⟨#[98]⟩,3,true):=⟨[_],_,rfl,rfl,[_],[_],rfl,rfl,rfl⟩
  exact (Els.one_ h1).append (Els.one_ h2)
theorem shape_ (t:Nat) (ht:t<3):Calls Tryz.prog 22 #[.int .i64 t] w (ShapeR t w):=by
 have h3:t=0\/t=1\/t=2:=by omega
 clear ht
 rcases h3 with rfl|rfl|rfl
 ·go_enter Tryz.func22,Tryz.ntmps22
  go_wp2
  obtain ⟨W,hW_,hb,B1,B2,B3⟩:=al3 w 66 63 9 #[.string ⟨#[116,97]⟩,.slice (some ⟨w.heap.size+1,0,none⟩) 2 2,.int .i64 0,.bool false] #[.string ⟨#[97]⟩,.int .i64 2,.bool false,.string ⟨#[98]⟩,.int .i64 3,.bool true] #[.string ⟨#[116,97]⟩,.string ⟨#[116,98]⟩,.string ⟨#[116,99]⟩]
  rw [<-hW_]
  clear hW_
  exact bodyPost_ret (v:=.agg #[.string ⟨#[116,97]⟩,.slice (some ⟨w.heap.size+1,0,none⟩) 2 2,.int .i64 0,.bool false]) (results_cell_row rfl _ _ w.heap.size _ _ (0,0) _ rfl B1 Tryz.underlying66 rfl rfl) rfl ⟨_,rfl,qlj B2 (by omega),hb⟩
 ·go_enter Tryz.func22,Tryz.ntmps22
  go_wp2
  obtain ⟨W,hW_,hb,B1,B2,B3⟩:=al3 w 66 63 9 #[.string ⟨#[116,98]⟩,.slice (some ⟨w.heap.size+1,0,none⟩) 2 2,.int .i64 0,.bool false] #[.string ⟨#[97]⟩,.int .i64 2,.bool false,.string ⟨#[98]⟩,.int .i64 3,.bool true] #[.string ⟨#[116,97]⟩,.string ⟨#[116,98]⟩,.string ⟨#[116,99]⟩]
  rw [<-hW_]
  clear hW_
  exact bodyPost_ret (v:=.agg #[.string ⟨#[116,98]⟩,.slice (some ⟨w.heap.size+1,0,none⟩) 2 2,.int .i64 0,.bool false]) (results_cell_row rfl _ _ w.heap.size _ _ (0,0) _ rfl B1 Tryz.underlying66 rfl rfl) rfl ⟨_,rfl,qlj B2 (by omega),hb⟩
 ·go_enter Tryz.func22,Tryz.ntmps22
  go_wp2
  obtain ⟨W,hW_,hb,B1,B2,B3⟩:=al3 w 66 63 9 #[.string ⟨#[116,99]⟩,.slice (some ⟨w.heap.size+1,0,none⟩) 2 2,.int .i64 0,.bool true] #[.string ⟨#[97]⟩,.int .i64 2,.bool false,.string ⟨#[98]⟩,.int .i64 3,.bool true] #[.string ⟨#[116,97]⟩,.string ⟨#[116,98]⟩,.string ⟨#[116,99]⟩]
  rw [<-hW_]
  clear hW_
  exact bodyPost_ret (v:=.agg #[.string ⟨#[116,99]⟩,.slice (some ⟨w.heap.size+1,0,none⟩) 2 2,.int .i64 0,.bool true]) (results_cell_row rfl _ _ w.heap.size _ _ (0,0) _ rfl B1 Tryz.underlying66 rfl rfl) rfl ⟨_,rfl,qlj B2 (by omega),hb⟩
end Go.Proofs.YtdjbpcnhnkemiaaGreat.tp
namespace Go.Proofs.YtdjbpcnhnkemiaaGreat.tp
open Go.Proofs.YtdjbpcnhnkemiaaGreat.lk
variable {w w':World}
variable {n c g B b off i j k m n2 n3 c2 c3 c4 c5 c6 gs gn np lo gr gd id b2 off2:Nat}
variable {A A2 A3 A4 A5 A6:Option Addr}
variable {cs:List Value}
variable {l r:List UInt8}
variable {rs:List (List UInt8)}
variable {s o e:Int}
variable {nm:ByteArray}
variable {F G:qab}
variable {x:DBd}
def edg (L:Lk) (z:Int):List Int:=(L.ws.filter fun o=>o.s == z).flatMap fun o=>(L.hs.filter (agB o)).map Hd.s
def Steps (F:Int->List Int):Nat->Int->Int->Prop
 | 0,a,b=>a=b
 | n+1,a,b=>∃ c,c∈F a/\Steps F n c b
structure PInv (S:List Int) (L:Lk):Prop where
 hs:∀ o∈L.hs,o.s∈S
 ws:∀ o∈L.ws,o.s∈S
 nd:(L.ws.map Hd.s).Nodup
theorem woL_mem {l:List Hd} {o:Hd}:o∈woL l s↔o∈l/\o.s≠s:=by simp [woL]
theorem woL_nd {l:List Hd} (h:(l.map Hd.s).Nodup):((woL l s).map Hd.s).Nodup:=(List.filter_sublist.map Hd.s).nodup h
theorem qlu (L:Lk) (h:Hd):(askL L h).ws=if freeB L h=false then woL L.ws h.s++[h] else woL L.ws h.s:=by
 unfold askL
 split
 ·simp [*]
 ·split
  ·rfl
  ·split <;> rfl
theorem qqd (L:Lk) (h:Hd):∀ o∈(askL L h).hs,o∈L.hs\/o=h:=by
 unfold askL
 split
 ·exact fun o ho=>.inl ho
 ·split
  ·exact fun o ho=>.inl ho
  ·split
   ·exact fun o ho=>(List.mem_or_eq_of_mem_set ho)
   ·intro o ho
    simpa using ho
theorem qft (L:Lk) (h:Hd) (hf:freeB L h=false):(askL L h).hs=L.hs:=by unfold askL;rw [if_pos hf]
theorem qlw (L:Lk) (h:Hd):(askL L h).hs.length<=L.hs.length+1:=by
 unfold askL
 split
 ·exact Nat.le_succ _
 ·split
  ·exact Nat.le_succ _
  ·split <;> simp
theorem PInv.ask {S:List Int} {L:Lk} {h:Hd} (hi:PInv S L) (hs:h.s∈S):PInv S (askL L h):=by
 refine ⟨fun o ho=>?_,fun o ho=>?_,?_⟩
 ·rcases qqd L h o ho with h1|h1
  ·exact hi.hs o h1
  ·rw [h1];exact hs
 ·rw [qlu] at ho
  split at ho
  ·rcases List.mem_append.1 ho with h1|h1
   ·exact hi.ws o (woL_mem.1 h1).1
   ·rw [List.mem_singleton.1 h1];exact hs
  ·exact hi.ws o (woL_mem.1 ho).1
 ·rw [qlu]
  split
  ·rw [List.map_append,List.nodup_append]
   refine ⟨woL_nd hi.nd,by simp,fun a ha b hb=>?_⟩
   obtain ⟨o,ho,rfl⟩:=List.mem_map.1 ha
   simp at hb
   rw [hb]
   exact (woL_mem.1 ho).2
  ·exact woL_nd hi.nd
theorem PInv.free {S:List Int} {L:Lk} (k:Int) (hi:PInv S L):PInv (S.filter fun z=>z != k) (freeL L k) :=
 ⟨fun o ho=>by have:=woL_mem.1 ho;simp [hi.hs o this.1,this.2],fun o ho=>by have:=woL_mem.1 ho;simp [hi.ws o this.1,this.2],woL_nd hi.nd⟩
theorem PInv.start (S:List Int):PInv S ⟨[],[]⟩:=⟨fun o h=>(by cases h),fun o h=>(by cases h),.nil⟩
theorem PInv.done {L:Lk} (hi:PInv [] L):L.hs=[]/\L.ws=[]:=by
 constructor
 ·cases h:L.hs with
  | nil=>rfl
  | cons o r=>exact absurd (hi.hs o (by rw [h];exact List.mem_cons_self ..)) (by simp)
 ·cases h:L.ws with
  | nil=>rfl
  | cons o r=>exact absurd (hi.ws o (by rw [h];exact List.mem_cons_self ..)) (by simp)
theorem qep:∀ (l S:List Int),l.Nodup->(∀ z∈l,z∈S)->l.length<=S.length
 | [],_,_,_=>Nat.zero_le _
 | z::l,S,hn,hm=>by
  have hz:=hm z (List.mem_cons_self ..)
  have hn:=List.nodup_cons.1 hn
  have ih:=qep l (S.erase z) hn.2 (fun y hy=>(List.mem_erase_of_ne (fun e:y=z=>hn.1 (by rw [<-e];exact hy))).2 (hm y (List.mem_cons_of_mem _ hy)))
  rw [List.length_erase_of_mem hz] at ih
  have:=List.length_pos_of_mem hz
  simp only [List.length_cons]
  omega
theorem PInv.wlen {S:List Int} {L:Lk} (hi:PInv S L):L.ws.length<=S.length:=by
 have:=qep (L.ws.map Hd.s) S hi.nd (fun z hz=>by obtain ⟨o,ho,rfl⟩:=List.mem_map.1 hz;exact hi.ws o ho)
 simpa using this
theorem qkd {S:List Int} {L:Lk} (hi:PInv S L) {z k:Int} (h:k∈edg L z):k∈S/\k≠z:=by
 simp only [edg,List.mem_flatMap,List.mem_filter,List.mem_map,beq_iff_eq] at h
 obtain ⟨o,⟨ho,rfl⟩,q,⟨hq,ha⟩,rfl⟩:=h
 refine ⟨hi.hs q hq,fun e=>?_⟩
 simp [agB,e] at ha
theorem edg_far {L:Lk} {h:Hd} {z:Int} (hf:freeB L h=false) (hz:z≠h.s):edg (askL L h) z=edg L z:=by
 unfold edg
 rw [qft L h hf,qlu,if_pos hf]
 congr 1
 rw [List.filter_append,List.filter_cons_of_neg (by simpa using Ne.symm hz),List.filter_nil,List.append_nil]
 unfold woL
 rw [List.filter_filter]
 exact List.filter_congr (fun o _=>by by_cases e:o.s=z <;> simp [e,hz])
theorem edg_own {L:Lk} {h:Hd} (hf:freeB L h=false):∃ k,k∈edg (askL L h) h.s:=by
 have ha:∃ q∈L.hs,agB h q=true:=by
  unfold freeB at hf
  simp only [Bool.or_eq_false_iff,Bool.not_eq_false'] at hf
  simpa using List.any_eq_true.1 hf.2
 obtain ⟨q,hq,ha⟩:=ha
 refine ⟨q.s,?_⟩
 simp only [edg,List.mem_flatMap,List.mem_filter,List.mem_map,beq_iff_eq]
 exact ⟨h,⟨by rw [qlu,if_pos hf];simp,rfl⟩,q,⟨by rw [qft L h hf];exact hq,ha⟩,rfl⟩
theorem Steps.mono {F G:Int->List Int} (hFG:∀ a b,b∈F a->b∈G a):∀ {n:Nat} {a b:Int},Steps F n a b->Steps G n a b
 | 0,_,_,h=>h
 | n+1,_,_,⟨c,h1,h2⟩=>⟨c,hFG _ _ h1,Steps.mono hFG h2⟩
structure TI (S:List Int) (L:Lk) (j:Int):Prop where
 inv:PInv S L
 e:∀ s∈S,s<j->(∃ k,k∈edg L s)/\∀ n,¬Steps (fun z=>if z<=s then edg L z else []) (n+1) s s
theorem TI.step {S:List Int} {L:Lk} {j:Int} {q:Hd} (h:TI S L j) (hj:j∈S) (hq:q.s=j) (hf:freeB L q=false) (hc:∀ n,¬Steps (edg (askL L q)) (n+1) j j):TI S (askL L q) (j+1):=by
 refine ⟨h.inv.ask (hq ▸ hj),fun s hs hlt=>?_⟩
 by_cases e:s=j
 ·subst e
  refine ⟨hq ▸ edg_own hf,fun n hn=>hc n (hn.mono fun a b hb=>?_)⟩
  split at hb
  ·exact hb
  ·cases hb
 ·obtain ⟨⟨k,hk⟩,h2⟩:=h.e s hs (by omega)
  refine ⟨⟨k,by rw [edg_far hf (by omega)];exact hk⟩,fun n hn=>h2 n (hn.mono fun a b hb=>?_)⟩
  split at hb
  ·rename_i ha
   rw [edg_far hf (by omega)] at hb
   rw [if_pos ha];exact hb
  ·cases hb
theorem TI.skip {S:List Int} {L:Lk} {j:Int} (h:TI S L j) (hj:j∉S):TI S L (j+1) :=
 ⟨h.inv,fun s hs hlt=>h.e s hs (by
  by_cases e:s=j
  ·exact absurd (e ▸ hs) hj
  ·omega)⟩
theorem TI.start {S:List Int} {L:Lk} (h:PInv S L) (hS:∀ s∈S,0<=s):TI S L 0:=⟨h,fun s hs hlt=>absurd (hS s hs) (by omega)⟩
def pick (a b c d:Fin 4) (i:Fin 4):Fin 4:=match i with|0=>a|1=>b|2=>c|3=>d
def inB (p q r s:Bool) (i:Fin 4):Bool:=match i with|0=>p|1=>q|2=>r|3=>s
def back (f:Fin 4->Fin 4) (i:Fin 4):Nat->Fin 4->Bool
 | 0,_=>false
 | n+1,k=>decide (k<=i) && (decide (f k=i) || back f i n (f k))
theorem four_ring:∀ (p q r s:Bool) (a b c d:Fin 4),(p || q || r || s)=true->(∀ i:Fin 4,inB p q r s i=true->inB p q r s (pick a b c d i)=true/\pick a b c d i≠i) ->
  ∃ i:Fin 4,inB p q r s i=true/\back (pick a b c d) i 4 i=true:=by decide +kernel
theorem qmb {F:Int->List Int} {f:Fin 4->Fin 4} {A:Fin 4->Bool} {i:Fin 4} (hF:∀ k:Fin 4,A k=true->(((f k).val:Nat):Int)∈F ((k.val:Nat):Int)/\A (f k)=true):∀ (n:Nat) (k:Fin 4),A k=true->back f i n k=true ->
  ∃ m,Steps (fun z=>if z<=((i.val:Nat):Int) then F z else []) (m+1) ((k.val:Nat):Int) ((i.val:Nat):Int)
 | 0,k,_,h=>by cases h
 | n+1,k,hA,h=>by
  simp only [back,Bool.and_eq_true,Bool.or_eq_true,decide_eq_true_eq] at h
  have hk:((k.val:Nat):Int)<=((i.val:Nat):Int):=Int.ofNat_le.2 h.1
  rcases h.2 with h2|h2
  ·exact ⟨0,_,show _∈(if _<=_ then _ else _) by rw [if_pos hk];exact (hF k hA).1,congrArg (fun z:Fin 4=>((z.val:Nat):Int)) h2⟩
  ·obtain ⟨m,hm⟩:=qmb hF n (f k) (hF k hA).2 h2
   exact ⟨m+1,_,show _∈(if _<=_ then _ else _) by rw [if_pos hk];exact (hF k hA).1,hm⟩
theorem TI.none {S:List Int} {L:Lk} (h:TI S L 4) (hS:∀ s∈S,0<=s/\s<4):S=[]:=by
 have hch:∀ k:Fin 4,∃ y:Fin 4,((k.val:Nat):Int)∈S->((y.val:Nat):Int)∈edg L ((k.val:Nat):Int):=fun k=>by
  by_cases hk:((k.val:Nat):Int)∈S
  ·obtain ⟨⟨y,hy⟩,_⟩:=h.e _ hk (hS _ hk).2
   have hb:=hS y (qkd h.inv hy).1
   exact ⟨⟨y.toNat,by omega⟩,fun _=>by rw [show ((y.toNat:Nat):Int)=y by omega];exact hy⟩
  ·exact ⟨0,fun h=>absurd h hk⟩
 let A:Fin 4->Bool:=fun k=>decide (((k.val:Nat):Int)∈S)
 obtain ⟨a,ha⟩:=hch 0
 obtain ⟨b,hb⟩:=hch 1
 obtain ⟨c,hc⟩:=hch 2
 obtain ⟨d,hd⟩:=hch 3
 have hA:∀ k,A k=inB (A 0) (A 1) (A 2) (A 3) k:=fun k=>by
  match k with
  | 0=>rfl
  | 1=>rfl
  | 2=>rfl
  | 3=>rfl
 have hf:∀ k:Fin 4,A k=true->(((pick a b c d k).val:Nat):Int)∈edg L ((k.val:Nat):Int):=fun k hk=>by
  have hk:((k.val:Nat):Int)∈S:=by simpa [A] using hk
  match k with
  | 0=>exact ha hk
  | 1=>exact hb hk
  | 2=>exact hc hk
  | 3=>exact hd hk
 have hf2:∀ k:Fin 4,A k=true->A (pick a b c d k)=true/\pick a b c d k≠k:=fun k hk=>by
  have h1:=qkd h.inv (hf k hk)
  exact ⟨by simpa [A] using h1.1,fun e=>h1.2 (by rw [e])⟩
 cases hn:(A 0 || A 1 || A 2 || A 3) with
 | true =>
  obtain ⟨i,hi,hb⟩:=four_ring (A 0) (A 1) (A 2) (A 3) a b c d hn (fun k hk=>by
   have hk:A k=true:=by rw [hA];exact hk
   exact ⟨by rw [<-hA];exact (hf2 k hk).1,(hf2 k hk).2⟩)
  have hi:A i=true:=by rw [hA];exact hi
  obtain ⟨m,hm⟩:=qmb (A:=A) (F:=edg L) (fun k hk=>⟨hf k hk,(hf2 k hk).1⟩) 4 i hi hb
  have hiS:((i.val:Nat):Int)∈S:=by simpa [A] using hi
  exact absurd hm ((h.e _ hiS (hS _ hiS).2).2 m)
 | false =>
  simp only [Bool.or_eq_false_iff] at hn
  obtain ⟨⟨⟨h0,h1⟩,h2⟩,h3⟩:=hn
  have h0:(0:Int)∉S:=by simpa [A] using h0
  have h1:(1:Int)∉S:=by simpa [A] using h1
  have h2:(2:Int)∉S:=by simpa [A] using h2
  have h3:(3:Int)∉S:=fun hm=>absurd (show A 3=true from decide_eq_true (show (((3:Fin 4).val:Nat):Int)∈S from hm)) (by rw [h3];simp)
  cases S with
  | nil=>rfl
  | cons z r =>
   exfalso
   have hz:=hS z (List.mem_cons_self ..)
   have hzm:=List.mem_cons_self (a:=z) (l:=r)
   have:z=0\/z=1\/z=2\/z=3:=by omega
   rcases this with e|e|e|e <;> subst e
   ·exact h0 hzm
   ·exact h1 hzm
   ·exact h2 hzm
   ·exact h3 hzm
end Go.Proofs.YtdjbpcnhnkemiaaGreat.tp
namespace Go.Proofs.YtdjbpcnhnkemiaaGreat.tp
open Go.ChangeShapes Go.WideShapes Go.ChangeAt Go.RowKit Go.Proofs.YtdjbpcnhnkemiaaGreat.lib
variable {w w':World}
variable {n c g B b off i j k m n2 n3 c2 c3 c4 c5 c6 gs gn np lo gr gd id b2 off2:Nat}
variable {A A2 A3 A4 A5 A6:Option Addr}
variable {cs:List Value}
variable {l r:List UInt8}
variable {rs:List (List UInt8)}
variable {s o e:Int}
variable {nm:ByteArray}
variable {F G:qab}
variable {x:DBd}
theorem qku {P:Program} {fn:Func} {p q u:Tmp} {ty ty2:TypeId} (h:fn.results=#[.cell p ty,.cell q ty2,.tmp u]) (tmps:Array Value) (w:World) (g g2:Nat) (t t2:TypeId) (cs cs2:Array Value) (fr fr2:Nat × Nat) (d d2:TypeDesc)
  (hp:tmps.getD p undef=.pointer (some ⟨g,0,none⟩)) (hg:w.heap[g]? = some (.cells cs t fr)) (hu:P.underlying ty=some d) (hd:(match d with | .struct _ | .array _ _=>true|_=>false)=true) (hi:(P.info? ty).map (·.size)=some cs.size)
  (hp2:tmps.getD q undef=.pointer (some ⟨g2,0,none⟩)) (hg2:w.heap[g2]? = some (.cells cs2 t2 fr2)) (hu2:P.underlying ty2=some d2) (hd2:(match d2 with | .struct _ | .array _ _=>true|_=>false)=true) (hi2:(P.info? ty2).map (·.size)=some cs2.size)
  {y:Value} (hy:tmps.getD u undef=y):(results fn tmps).run P w=.ok (.tuple #[.agg cs,.agg cs2,y]) w:=by
 subst hy
 have hp':tmps[p]?.getD undef=.pointer (some ⟨g,0,none⟩):=by simpa using hp
 have hp2':tmps[q]?.getD undef=.pointer (some ⟨g2,0,none⟩):=by simpa using hp2
 simp [results,h,hp',hp2',asAddr,run_loadVar_row w g t ty cs fr d hg hu hd hi,run_loadVar_row w g2 t2 ty2 cs2 fr2 d2 hg2 hu2 hd2 hi2]
theorem put1_ {S:tb.Sch} {rows:List (List val.V)} {r:List val.V} {br:Nat} (h:eTab.rel w F cs (qaz S rows)) (hbr:Blk w br 71 #[.slice A n c]) (hr:Sl eVal w G A n c (qbf r)) (hs:tb.Small r) (hOk:tb.Ok S.cols S.key rows) (hn:S.cols.length<=100) (hrows:rows.length<=1000) (hm:n<=1000):
  Calls Tryz.prog 41 #[.agg cs.toArray,.pointer (some ⟨br,0,none⟩)] w fun e w'=>∃ ct cc:List Value,e=.returned (.tuple #[.agg ct.toArray,.agg cc.toArray,.int .i64 (tb.putL S.cols S.key rows r).1])/\eTab.rel w' (fun b=>w.heap.size<=b) ct (qaz S (tb.putL S.cols S.key rows r).2)/\eChg.rel w' (fun b=>w.heap.size<=b) cc (⟨#[]⟩,1,qbf r)/\Below w.heap.size w w':=by
 have HT:=zh h
 obtain ⟨A1,n1,c1,A2,n2,c2,rfl,h1,h2⟩:=qbo h
 obtain ⟨p,hp⟩:∃ p,tb.putL S.cols S.key rows r=p:=⟨_,rfl⟩
 obtain ⟨er,rows'⟩:=p
 have HP:=zh (fun (w':World) (hb:Below w.heap.size w w')=>tput_ (eTab.ext HT.out hb) (hr.ext hb) hs hOk hn hrows (by omega))
 have HP:=HP.out
 rw [hp] at HP ⊢
 have HP:=zh HP
 have HR:=zh hr
 have HBR:=zh hbr
 have HRL:=zh hr.len
 have hbrl:=hbr.lt
 simp only
 clear h h1 h2 hp hbr hr
 go_enter Tryz.func41,Tryz.ntmps41
 go_upto_region 1 with fail
 obtain ⟨W,hW_,hb1,B0,B1,B2⟩:=al3 w 120 120 126 #[.string (qaz S rows).1.1,.slice A1 n1 c1,.int .i64 (qaz S rows).1.2.2.1,.bool (qaz S rows).1.2.2.2,.slice A2 n2 c2] #[.string ⟨#[]⟩,.slice none 0 0,.int .i64 0,.bool false,.slice none 0 0] #[.string ⟨#[]⟩,.int .i64 0,.slice none 0 0]
 rw [<-hW_]
 clear hW_
 obtain ⟨g0,hg0⟩:∃ g,w.heap.size=g:=⟨_,rfl⟩
 obtain ⟨g1,hg1⟩:∃ g,w.heap.size+1=g:=⟨_,rfl⟩
 obtain ⟨g2,hg2⟩:∃ g,w.heap.size+1+1=g:=⟨_,rfl⟩
 have HGS:=zh (show w.heap.size<=g1/\w.heap.size<=g2/\g1<g2 by omega)
 rw [hg2] at B2 ⊢
 rw [hg1] at B1 ⊢
 rw [hg0] at B0 ⊢
 clear hg0 hg1 hg2
 have HBR1:=zh (HBR.out.ext hb1)
 have HGW:=zh (za B1.lt B2.lt)
 have HB1:=zh (za B1 B2)
 have HF1:=zh hb1
 have HPW:=zh (HP.out W hb1)
 have q0:=five B0 (zb _ _)
 have qr:=HBR1.out.cell 0
 clear B0 B1 B2 hb1 HP HBR
 go_wp2_with fail
 refine HPW.out.mono ?_
 rintro e w1 ⟨ct,rfl,hrt,hb2⟩
 have HRT:=zh hrt
 obtain ⟨A3,n3,c3,A4,n4,c4,rfl,_,_⟩:=qbo hrt
 have HBR2:=zh (HBR1.out.ext hb2)
 have HB2:=zh (za (HB1.out.1.ext hb2) (HB1.out.2.ext hb2))
 have HF2:=zh ((HF1.out.tr hb2))
 have hs1:=HF1.out.size
 have hs2:=hb2.size
 clear q0 qr hrt HPW HBR1 HB1 hb2 HF1 HT
 go_upto_region 2 with fail
 obtain ⟨W2,hW_,hb3,B6⟩:=al1 w1 120 #[.string (qaz S rows').1.1,.slice A3 n3 c3,.int .i64 (qaz S rows').1.2.2.1,.bool (qaz S rows').1.2.2.2,.slice A4 n4 c4]
 rw [<-hW_]
 clear hW_
 obtain ⟨g6,hg6⟩:∃ g,w1.heap.size=g:=⟨_,rfl⟩
 have hB2l:g2<w1.heap.size:=HB2.out.2.lt
 have HB2l_:=zh (show g1<W.heap.size/\g2<W.heap.size/\W.heap.size<=w1.heap.size from ⟨HGW.out.1,HGW.out.2,hs2⟩)
 have HG6:=zh (show g1<g6/\g2<g6 by have:=HGS.out;omega)
 rw [hg6] at B6 ⊢
 clear hg6 hB2l
 have HB3:=zh (za (HB2.out.1.ext hb3) (HB2.out.2.ext hb3))
 have HBR3:=zh (HBR2.out.ext hb3)
 have HF3:=zh ((HF2.out.tr hb3))
 have HRT3:=zh (eTab.ext HRT.out hb3)
 have hs3:=hb3.size
 have HSB:=zh (show ∀ w',Below W2.heap.size W2 w'->(Blk w' g6 120 #[.string (qaz S rows').1.1,.slice A3 n3 c3,.int .i64 (qaz S rows').1.2.2.1,.bool (qaz S rows').1.2.2.2,.slice A4 n4 c4]/\Blk w' br 71 #[.slice A n c]) from fun w' q=>⟨B6.ext q,HBR3.out.ext q⟩)
 have HNE:=zh (show br≠g1/\br≠g2 from ⟨by have:=HGS.out;omega,by have:=HGS.out;omega⟩)
 clear B6 HB2 HBR2 HF2 HRT hb3
 have D:=fun w' (hS:Blk w' g6 120 #[.string (qaz S rows').1.1,.slice A3 n3 c3,.int .i64 (qaz S rows').1.2.2.1,.bool (qaz S rows').1.2.2.2,.slice A4 n4 c4]/\Blk w' br 71 #[.slice A n c])=>za (five hS.1 (zb _ _)) (hS.2.cell 0)
 refine r2 (S:=fun w'=>Blk w' g6 120 #[.string (qaz S rows').1.1,.slice A3 n3 c3,.int .i64 (qaz S rows').1.2.2.1,.bool (qaz S rows').1.2.2.2,.slice A4 n4 c4]/\Blk w' br 71 #[.slice A n c]) [(0,true),(1,true),(4,true),(2,false),(3,true),(5,false),(6,false),(7,true)] (HSB.out _ (zb _ _).drew) ?_
 repeat ((first|refine pT ?_|refine pF ?_);try go_frame)
 have HOR:=zh (qlg (HR.out.ext HF3.out.drew) (show qdp (qbf r) by unfold qdp;have:=HRL.out;omega))
 refine pD fun K hK=>?_;go_simp
 refine HOR.out.mono ?_
 rintro e w4 ⟨A5,c5,rfl,ho5,hb4⟩
 have hbw4:=zt (zb W2.heap.size W2).drew hb4
 refine hK.out _ _ (HSB.out _ hbw4) ?_
 clear hK K HOR
 repeat ((first|refine pT ?_|refine pF ?_);try go_frame)
 have HO5:=zh (ho5.sl (G:=fun b=>W2.heap.size<=b) (fun b h _=>h) (fun b h=>h.1))
 have HRT4:=zh (eTab.ext HRT3.out hbw4)
 have HB4:=zh (za (HB3.out.1.ext hbw4) (HB3.out.2.ext hbw4))
 have HF4:=zh ((HF3.out.tr hbw4))
 have HS4:=zh (HSB.out _ hbw4)
 have hs4:=hbw4.size
 clear hb4 hbw4 ho5 HB3 HF3 HRT3
 obtain ⟨cz,hcz⟩:∃ z,z=([.string (qaz S rows').1.1,.slice A3 n3 c3,.int .i64 (qaz S rows').1.2.2.1,.bool (qaz S rows').1.2.2.2,.slice A4 n4 c4]:List Value):=⟨_,rfl⟩
 have hczl:cz.length=5:=by rw [hcz];rfl
 have honz:∀ u∈cz,u.oneCell'=true:=by rw [hcz];exact eTab.one HRT4.out
 have hszz:(Tryz.prog.info? 120).map (·.size)=some cz.length:=by rw [hczl];kernel_rfl
 have hth:=Blk.there (o:=0) (n:=5) HB4.out.1 (by simp)
 refine qaj rfl (qae rfl) (fun K hK=>?_)
 refine qao 120 (.tmp 3) (.tmp 14) rfl rfl g1 0 cz rfl (by rw [hcz];rfl) (by rw [hczl];exact hth) hszz honz ?_
 obtain ⟨B7,hg7⟩:=Blk.lay cz 0 HB4.out.1 (by rw [hczl];simp)
 rw [qai _ _ (by rw [hczl];rfl)] at B7
 have hk7:=Keep.grown (F:=fun b=>b≠g1) hg7 (fun g' h1 h2=>by injection h1 with h1;exact h2 h1.symm)
 have hS7:=za (Blk.keep HS4.out.1 hk7 (by have:=HG6.out;omega)) (Blk.keep HS4.out.2 hk7 HNE.out.1)
 refine hK.out _ _ hS7 ?_
 clear hK K
 have B27:=Blk.keep HB4.out.2 hk7 (by have:=HGS.out;omega)
 have hbw7:=HF4.out.grown hg7 HF4.out.size (fun k hk=>by injection hk with hk;have:=HGS.out;omega)
 have HRT7:=zh (eTab.keep (eTab.mono HRT4.out (G:=fun b=>W.heap.size<=b) (fun b h=>h)) (hk7.mono (fun b h=>by have:=HB2l_.out;omega)))
 have HO7:=zh (HO5.out.keep (hk7.mono (fun b h=>by have:=HB2l_.out;omega)))
 generalize w4.setCells g1 0 cz=w7 at *
 obtain ⟨cc,hcc⟩:∃ z,z=([.string ⟨#[]⟩,.int .i64 1,.slice A5 (qbf r).length c5]:List Value):=⟨_,rfl⟩
 have hccl:cc.length=3:=by rw [hcc];rfl
 have honc:∀ u∈cc,u.oneCell'=true:=by rw [hcc];exact eChg.one (qfi (x:=(⟨#[]⟩,1,qbf r)) HO7.out)
 have hszc:(Tryz.prog.info? 126).map (·.size)=some cc.length:=by rw [hccl];kernel_rfl
 have hth2:=Blk.there (o:=0) (n:=3) B27 (by simp)
 refine qaj rfl (qae rfl) (fun K hK=>?_)
 refine qao 126 (.tmp 4) (.tmp 17) rfl rfl g2 0 cc rfl (by rw [hcc];rfl) (by rw [hccl];exact hth2) hszc honc ?_
 obtain ⟨B8,hg8⟩:=Blk.lay cc 0 B27 (by rw [hccl];simp)
 rw [qai _ _ (by rw [hccl];rfl)] at B8
 have hk8:=Keep.grown (F:=fun b=>b≠g2) hg8 (fun g' h1 h2=>by injection h1 with h1;exact h2 h1.symm)
 refine hK.out _ _ ⟨Blk.keep hS7.1 hk8 (by have:=HG6.out;omega),Blk.keep hS7.2 hk8 HNE.out.2⟩ ?_
 clear hK K
 have B18:=Blk.keep B7 hk8 (by have:=HGS.out;omega)
 have hbw8:=hbw7.grown hg8 hbw7.size (fun k hk=>by injection hk with hk;have:=HGS.out;omega)
 have HRT8:=zh (eTab.keep HRT7.out (hk8.mono (fun b h=>by have:=HB2l_.out;omega)))
 have HO8:=zh (HO7.out.keep (hk8.mono (fun b h=>by have:=HB2l_.out;omega)))
 generalize w7.setCells g2 0 cc=w8 at *
 clear hS7 hk7 hk8 hg7 hg8 HS4 HB4 hth hth2 B27 B7 HRT7 HRT4 HO7 HO5 HF4 hbw7 D HSB HBR3
 repeat ((first|refine pT ?_|refine pF ?_);try go_frame)
 refine qad ?_
 go_wp2
 refine bodyPost_ret (v:=.tuple #[.agg cz.toArray,.agg cc.toArray,.int .i64 er]) (qku rfl _ _ g1 g2 _ _ _ _ (0,0) (0,0) _ _ rfl B18 Tryz.underlying120 rfl (by rw [List.size_toArray];exact hszz) rfl B8 Tryz.underlying126 rfl (by rw [List.size_toArray];exact hszc) rfl) rfl ⟨cz,cc,rfl,?_,?_,hbw8⟩
 ·rw [hcz]
  exact eTab.mono HRT8.out (fun b h=>Nat.le_trans hs1 h)
 ·rw [hcc]
  exact qfi (x:=(⟨#[]⟩,1,qbf r)) (HO8.out.mono (fun b h=>by omega))
def putD (x:DBd) (k at_:Nat) (t:Tab) (y:Wrk) (L:lk.Lk):DBd:=(x.1.set k t,x.2.1.set at_ y,L.hs.map ofHd,L.ws.map ofHd)
structure PutOk (x:DBd) (s:Int) (nm:ByteArray) (S:tb.Sch) (rows rows':List (List val.V)) (r:List val.V) (log:List Chg) (marks:List Mrk) (s':Int):Prop where
 ok:okDB x
 ses:qex x
 s1:-1000<=s/\s<=1000
 mt:Mono (cmpT nm) x.1
 mw:Mono (cmpW s) x.2.1
 isw:isG (cmpW s) x.2.1=true
 ist:isG (cmpT nm) x.1=true
 free:lk.freeB (lkOf x) ⟨s,nm,true⟩=true
 tab:x.1[posG (cmpT nm) x.1]? = some (qaz S rows)
 wrk:x.2.1[posG (cmpW s) x.2.1]? = some (s',log,marks)
 few:log.length<60
 put:tb.putL S.cols S.key rows r=(0,rows')
 small:tb.Small r
 tok:tb.Ok S.cols S.key rows
 cols:S.cols.length<=100
 rows_:rows.length<999
 row_:r.length<=1000
 rows2:rows'.length<=rows.length+1
 rows3:∀ y∈rows',y.length<=1000
 lks:(lk.askL (lkOf x) ⟨s,nm,true⟩).hs.length<=1000/\(lk.askL (lkOf x) ⟨s,nm,true⟩).ws.length<=1000
theorem change_ {s':Int} {S:tb.Sch} {rows rows':List (List val.V)} {r:List val.V} {log:List Chg} {marks:List Mrk} {br:Nat}
  (h:eDB.rel w F cs x) (hP:PutOk x s nm S rows rows' r log marks s') (hbr:Blk w br 71 #[.slice A n c]) (hr:Sl eVal w G A n c (qbf r)) :
  Calls Tryz.prog 44 #[.agg cs.toArray,.int .i64 s,.string nm,.func (.func 41) #[] #[.pointer (some ⟨br,0,none⟩)]] w (DBE (putD x (posG (cmpT nm) x.1) (posG (cmpW s) x.2.1) (qaz S rows') (s',log++[(nm,1,qbf r)],marks) (lk.askL (lkOf x) ⟨s,nm,true⟩)) 0 w):=by
 have HS:=zh h
 have HP:=zh hP
 have HBR0:=zh hbr
 have HRW:=zh hr
 have hbrl:=hbr.lt
 obtain ⟨L,hL⟩:∃ L,lk.askL (lkOf x) ⟨s,nm,true⟩=L:=⟨_,rfl⟩
 have HL:=zh hL
 obtain ⟨k,hk⟩:∃ k,posG (cmpT nm) x.1=k:=⟨_,rfl⟩
 have HK:=zh hk
 obtain ⟨at_,hat⟩:∃ k,posG (cmpW s) x.2.1=k:=⟨_,rfl⟩
 have HAT:=zh hat
 have HTAB:=zh (show x.1[k]? = some (qaz S rows) from hk ▸ hP.tab)
 have HWRK:=zh (show x.2.1[at_]? = some (s',log,marks) from hat ▸ hP.wrk)
 obtain ⟨nt,hnt⟩:∃ n,x.1.length=n:=⟨_,rfl⟩
 obtain ⟨nk,hnk⟩:∃ n,x.2.1.length=n:=⟨_,rfl⟩
 have hkn:k<nt:=by rw [<-hnt];exact (List.getElem?_eq_some_iff.1 HTAB.out).1
 have hatn:at_<nk:=by rw [<-hnk];exact (List.getElem?_eq_some_iff.1 HWRK.out).1
 have hntb:nt<=1000:=by rw [<-hnt];exact hP.ok.1
 have hnkb:nk<=1000:=by rw [<-hnk];exact hP.ok.2.2.1
 have HNT:=zh hnt
 have HNK:=zh hnk
 have hs1:=hP.s1
 rw [hk,hat,hL]
 obtain ⟨A1,n1,c1,A2,n2,c2,A3,n3,c3,A4,n4,c4,rfl,h1,h2,h3,h4⟩:=qav h
 clear h hP hbr hr h1 h2 h3 h4 hL hk hat hnt hnk
 go_enter Tryz.func44,Tryz.ntmps44
 go_upto_region 1 with fail
 obtain ⟨W,hW_,hb1,BD,BR⟩:=al2 w 31 31 #[.slice A1 n1 c1,.slice A2 n2 c2,.slice A3 n3 c3,.slice A4 n4 c4] #[.slice none 0 0,.slice none 0 0,.slice none 0 0,.slice none 0 0]
 rw [<-hW_]
 clear hW_
 obtain ⟨gd,hgd⟩:∃ g,w.heap.size=g:=⟨_,rfl⟩
 obtain ⟨gr,hgr⟩:∃ g,w.heap.size+1=g:=⟨_,rfl⟩
 have HGS:=zh (show w.heap.size<=gd/\w.heap.size<=gr/\gd<gr by omega)
 rw [hgr] at BR ⊢
 rw [hgd] at BD ⊢
 have HF:=zh (qhq (eDB.ext HS.out hb1) HP.out.ok)
 have HGW:=zh (za BR.lt hb1.size)
 have HBR:=zh (za BR (HBR0.out.ext hb1))
 have HB1:=zh hb1
 have HRW1:=zh (HRW.out.ext hb1)
 have qd:=four BD (zb _ _)
 clear hgd hgr BD BR hb1 HRW HBR0
 go_wp2_with fail
 refine HF.out.mono ?_
 rintro e w1 ⟨g,rfl,⟨A5,c5,A6,c6,A7,c7,A8,c8,hC⟩,hb2⟩
 have hgW:W.heap.size<=g:=hC.lo
 have HGG:=zh (show gr≠g/\br≠g by have:=HGW.out;omega)
 have HC:=zh hC
 have HBR1:=zh (za (HBR.out.1.ext hb2) (HBR.out.2.ext hb2))
 have HB2:=zh ((HB1.out.tr hb2))
 have HRW2:=zh (((HRW1.out.bound flat_val.bnd)).ext hb2)
 clear qd hC hb2 HF HBR HB1 HRW1
 have HH:=hold_free HC.out HP.out.ok HP.out.ses HP.out.s1 HP.out.mt HP.out.mw HP.out.isw HP.out.ist HP.out.free
 rw [HL.out] at HH
 have HH:=zh HH
 go_wp2_with fail
 refine HH.out.mono ?_
 rintro e w2 ⟨rfl,⟨A9,c9,A10,c10,hC2⟩,hf2⟩
 have HC2:=zh hC2
 have HBR2:=zh (za (hf2.blk HBR1.out.1 HGG.out.1) (hf2.blk HBR1.out.2 HGG.out.2))
 have HB3:=zh ((Frm.below HB2.out).trans (hf2.mono (H:=fun b=>b=g) (fun b h=>h)) |>.to_below (zl _) (fun k hk h=>by have:=HGW.out;omega))
 have HRW3:=zh (HRW2.out.keep (hf2.keep (F:=fun b=>G b/\b<W.heap.size) (fun b h _=>by omega)))
 clear hC2 hf2 HH HC HBR1 HB2 HRW2
 have HT:=qme HC2.out nm HP.out.ok.1 HP.out.mt
 rw [show posG (cmpT nm) (qbv x L).1=k from HK.out,show isG (cmpT nm) (qbv x L).1=true from HP.out.ist] at HT
 have HT:=zh HT
 go_wp2_with fail
 refine HT.out.mono ?_
 rintro e w3 ⟨rfl,hb4⟩
 have HC3:=zh (HC2.out.ext hb4)
 have HBR3:=zh (za (HBR2.out.1.ext hb4) (HBR2.out.2.ext hb4))
 have HB4:=zh ((HB3.out.tr hb4))
 have HRW4:=zh (HRW3.out.ext hb4)
 clear hb4 HC2 HBR2 HB3 HRW3 HT
 have HT:=qgo HC3.out s HP.out.ok.2.2.1 HP.out.mw ⟨by omega,by omega⟩ HP.out.ses
 rw [show posG (cmpW s) (qbv x L).2.1=at_ from HAT.out,show isG (cmpW s) (qbv x L).2.1=true from HP.out.isw] at HT
 have HT:=zh HT
 go_wp2_with fail
 refine HT.out.mono ?_
 rintro e w4 ⟨rfl,hb5⟩
 have HC4:=zh (HC3.out.ext hb5)
 have HBR4:=zh (za (HBR3.out.1.ext hb5) (HBR3.out.2.ext hb5))
 have HB5:=zh ((HB4.out.tr hb5))
 have HRW5:=zh (HRW4.out.ext hb5)
 clear hb5 HC3 HBR3 HB4 HRW4 HT
 obtain ⟨b2,hA6⟩:∃ b,A6=some ⟨b,0,none⟩:=by
  obtain ⟨dss,k1,_,_⟩:=HC4.out.wrk
  obtain ⟨g',e,_⟩:=qcb k1 (by rw [show (qbv x L).2.1.length=nk from HNK.out];omega)
  exact ⟨_,e⟩
 obtain ⟨b1,hA5⟩:∃ b,A5=some ⟨b,0,none⟩:=by
  obtain ⟨dss,k1,_,_⟩:=HC4.out.tab
  obtain ⟨g',e,_⟩:=qcb k1 (by rw [show (qbv x L).1.length=nt from HNT.out];omega)
  exact ⟨_,e⟩
 subst hA6 hA5
 obtain ⟨ct0,hct0,hcell0⟩:=HC4.out.tab.at_ (show (qbv x L).1[k]? = some (qaz S rows) from HTAB.out)
 obtain ⟨cw0,hcw0,hcell1⟩:=HC4.out.wrk.at_ (show (qbv x L).2.1[at_]? = some (s',log,marks) from HWRK.out)
 obtain ⟨A11,n11,c11,A12,n12,c12,rfl,_,_⟩:=qbo hct0
 obtain ⟨AL,nl,AM,nm_,cm,rfl,hlog,_⟩:=qgw hcw0
 have PT:=zh (HC4.out.tab.bound qdm)
 have PW:=zh (HC4.out.wrk.loose.bound qhz)
 have PH:=zh (show Hh w4 W.heap.size (fun b=>NC W.heap.size g (some ⟨b1,0,none⟩) (some ⟨b2,0,none⟩) b/\b<w4.heap.size) A9 _ c9 _ from ⟨HC4.out.hld.1.bound flat_hld.bnd,fun b e=>⟨HC4.out.hld.2 b e,(HC4.out.hld.1.lt e).2⟩⟩)
 have PQ:=zh (show Hh w4 W.heap.size (fun b=>NC W.heap.size g (some ⟨b1,0,none⟩) (some ⟨b2,0,none⟩) b/\b<w4.heap.size) A10 _ c10 _ from ⟨HC4.out.wai.1.bound flat_hld.bnd,fun b e=>⟨HC4.out.wai.2 b e,(HC4.out.wai.1.lt e).2⟩⟩)
 have PB:=zh HC4.out.blk
 have PL:=zh (hlog.bound qhj)
 have HNE:=zh (show b1≠g/\b2≠g/\b1≠b2 from ⟨(HC4.out.ne b1 rfl).2,HC4.out.ne2 b2 rfl,fun e=>(HC4.out.ne b1 rfl).1 (by rw [e])⟩)
 have hnl:nl<60:=by have h9:log.length=nl:=hlog.len;have:=HP.out.few;omega
 simp only [show eTab.k=5 from rfl] at hcell0
 simp only [show eWrkT.k=3 from rfl] at hcell1
 have p0:=hcell0 0 _ rfl
 have p1:=hcell0 1 _ rfl
 have p2:=hcell0 2 _ rfl
 have p3:=hcell0 3 _ rfl
 have p4:=hcell0 4 _ rfl
 have u1:=hcell1 1 _ rfl
 simp only [Nat.add_zero] at p0
 have BG4:=HC4.out.blk
 rw [show (qbv x L).1.length=nt from HNT.out,show (qbv x L).2.1.length=nk from HNK.out] at BG4
 have q0:=BG4.cell 0
 have q1:=BG4.cell 1
 have HCT:=zh (eTab.mono hct0 (G:=fun _=>True) (fun _ _=>trivial))
 have HPT:=put1_ HCT.out HBR4.out.2 HRW5.out HP.out.small HP.out.tok HP.out.cols (by have:=HP.out.rows_;omega) (by have h8:(qbf r).length=n:=HRW5.out.len;have h9:(qbf r).length=r.length:=List.length_map ..;have:=HP.out.row_;omega)
 rw [HP.out.put] at HPT
 have HPT:=zh HPT
 have hki:(k:Int)<(nt:Int):=by omega
 have hai:(at_:Int)<(nk:Int):=by omega
 clear hcell0 hcell1 hct0
 have HU1:=zh u1
 clear u1 hcw0 hlog BG4
 go_wp2_with fail
 refine HPT.out.mono ?_
 rintro e w5 ⟨ct,cc,rfl,hrt,hrc,hb6⟩
 clear p0 p1 p2 p3 p4 q0 q1
 have HRT:=zh (qdm hrt)
 have HRC:=zh (qhj hrc)
 obtain ⟨A13,n13,c13,A14,n14,c14,rfl,_,_⟩:=qbo hrt
 obtain ⟨A15,n15,c15,rfl,_⟩:=qdh hrc
 have hb2l:b2<w4.heap.size:=(HC4.out.wrk.lt rfl).2
 have HU5:=zh ((hb6.cell (p:=⟨b2,at_ * 3+1,none⟩) hb2l).trans HU1.out)
 have HC5:=zh (HC4.out.ext hb6)
 have HBR5:=zh (HBR4.out.1.ext hb6)
 have HB6:=zh ((HB5.out.tr hb6))
 have HZ:=zh (show W.heap.size<=w4.heap.size/\w4.heap.size<=w5.heap.size/\g<w4.heap.size/\b1<w4.heap.size/\b2<w4.heap.size/\W.heap.size<=b1/\W.heap.size<=b2 from ⟨by have:=HC4.out.blk.lt;omega,hb6.size,HC4.out.blk.lt,(HC4.out.tab.lt rfl).2,hb2l,(HC4.out.tab.lt rfl).1,(HC4.out.wrk.lt rfl).1⟩)
 have H45:=zh hb6
 clear hrt hrc hb6 hb2l HU1 HC4 HBR4 HB5 HPT HCT HRW5
 go_upto_region 9 with fail
 obtain ⟨W6,hW_,hb7,B17,B18⟩:=al2 w5 120 126 #[.string (qaz S rows').1.1,.slice A13 n13 c13,.int .i64 (qaz S rows').1.2.2.1,.bool (qaz S rows').1.2.2.2,.slice A14 n14 c14] #[.string ⟨#[]⟩,.int .i64 1,.slice A15 n15 c15]
 rw [<-hW_]
 clear hW_
 obtain ⟨g17,hg17⟩:∃ g,w5.heap.size=g:=⟨_,rfl⟩
 obtain ⟨g18,hg18⟩:∃ g,w5.heap.size+1=g:=⟨_,rfl⟩
 rw [hg18] at B18 ⊢
 rw [hg17] at B17 ⊢
 have HG17:=zh (show w5.heap.size<=g17/\g17<g18 by omega)
 have HU6:=zh ((hb7.cell (p:=⟨b2,at_ * 3+1,none⟩) (by have:=HZ.out;show b2<_;omega)).trans HU5.out)
 have HC6:=zh (HC5.out.ext hb7)
 have H46:=zh ((H45.out.tr hb7))
 have HBR6:=zh (HBR5.out.ext hb7)
 have HB7:=zh ((HB6.out.tr hb7))
 have HRT6:=zh (eTab.ext HRT.out hb7)
 have HRC6:=zh (eChg.ext HRC.out hb7)
 clear hg17 hg18 hb7 HU5 HC5 HBR5 HB6 HRT HRC
 have u1:=HU6.out
 have d60:decide ((60:Int)<=(nl:Int))=false:=by simp;omega
 have f0:=B18.frozen 0
 have v0:=B18.cell 0
 go_upto_region 13 with fail
 clear u1 d60 f0 v0
 obtain ⟨F5,hF5⟩:∃ F5:qab,F5=fun b=>W.heap.size<=b/\b≠g/\b≠b1/\b≠b2/\b≠g17/\b≠g18:=⟨_,rfl⟩
 have hz:=HZ.out
 have hz17:=HG17.out
 have hz18:=B18.lt
 have m4:∀ b,(NC W.heap.size g (some ⟨b1,0,none⟩) (some ⟨b2,0,none⟩) b/\b<w4.heap.size)->F5 b:=fun b h=>by rw [hF5];exact ⟨h.1.1,h.1.2.1,fun e=>h.1.2.2.1 (by rw [e]),fun e=>h.1.2.2.2 (by rw [e]),by omega,by omega⟩
 have m5:∀ b,(w4.heap.size<=b/\b<w5.heap.size)->F5 b:=fun b h=>by rw [hF5];exact ⟨by omega,by omega,by omega,by omega,by omega,by omega⟩
 have mf:∀ b,W6.heap.size<=b->F5 b:=fun b h=>by rw [hF5];exact ⟨by omega,by omega,by omega,by omega,by omega,by omega⟩
 have HF5:=zh (show (∀ b,F5 b->W.heap.size<=b/\b≠g/\b≠b1/\b≠b2/\b≠g17/\b≠g18)/\(∀ b,W6.heap.size<=b->F5 b) from ⟨fun b h=>by rw [hF5] at h;exact h,mf⟩)
 have PT6:=zh ((PT.out.ext H46.out).mono m4)
 have PW6:=zh ((PW.out.ext H46.out).mono m4)
 have PH6:=zh ((PH.out.ext H46.out).mono m4)
 have PQ6:=zh ((PQ.out.ext H46.out).mono m4)
 have PB6:=zh (PB.out.ext H46.out)
 have PL6:=zh ((PL.out.ext H46.out).mono m4)
 have RT6:=zh (eTab.mono HRT6.out m5)
 have RC6:=zh (eChg.mono HRC6.out m5)
 have HSZ:=zh (show g<W6.heap.size/\b1<W6.heap.size/\b2<W6.heap.size/\g17<W6.heap.size/\g18<W6.heap.size/\gr<W6.heap.size/\W.heap.size<=W6.heap.size by have:=HGW.out;omega)
 have HNX:=zh (show g17≠g/\g18≠g/\g17≠g18/\g17≠b1/\g18≠b1/\g17≠b2/\g18≠b2/\gr≠g/\gr≠b1/\gr≠b2/\gr≠g17/\gr≠g18 by have:=HGW.out;omega)
 clear hF5 m4 m5 mf hz hz17 hz18 PT PW PH PQ PB PL HRT6 HRC6 H46 HC6
 have hg7:=qac W6 g18 0 (.string nm)
 have hk7:=Keep.grown (F:=fun b=>b≠g18) hg7 (fun g' h1 h2=>by injection h1 with h1;exact h2 h1.symm)
 have hkF7:Keep F5 W6 (W6.setCell ⟨g18,0,none⟩ (.string nm)):=hk7.mono (fun b h=>(HF5.out.1 b h).2.2.2.2.2)
 have B18:=B18.set_ 0 (.string nm)
 have B17:=Blk.keep B17 hk7 HNX.out.2.2.1
 have PT7:=zh (PT6.out.keep hk7 (fun b e=>by injection e with e;injection e with e;have:=HNX.out;omega) (fun b h=>(HF5.out.1 b h).2.2.2.2.2))
 have PW7:=zh (PW6.out.keep hk7 (fun b e=>by injection e with e;injection e with e;have:=HNX.out;omega) (fun b h=>(HF5.out.1 b h).2.2.2.2.2))
 have PH7:=zh (PH6.out.keep hkF7)
 have PQ7:=zh (PQ6.out.keep hkF7)
 have PB7:=zh (Blk.keep PB6.out hk7 (Ne.symm HNX.out.2.1))
 have PL7:=zh (PL6.out.keep hkF7)
 have RT7:=zh (eTab.keep RT6.out hkF7)
 have RC7:=zh (show eChg.rel _ F5 [.string nm,.int .i64 1,.slice A15 n15 c15] (nm,1,qbf r) from by
  obtain ⟨A0,m0,d0,e0,hs0⟩:=qdh (eChg.keep RC6.out hkF7)
  injection e0 with _ e0
  injection e0 with _ e0
  injection e0 with e0 _
  injection e0 with e0 e1 e2
  rw [e0,e1,e2]
  exact qfi (x:=(nm,1,qbf r)) hs0)
 have BR7:=zh (Blk.keep HBR6.out hk7 (by have:=HNX.out;omega))
 have HB8:=zh (HB7.out.grown hg7 HB7.out.size (fun k hk=>by injection hk with hk;have:=HGS.out;have:=HG17.out;have:=HZ.out;have:=HGW.out;omega))
 have HU7:=zh ((hk7.block b2 (by have:=HNX.out;omega) HSZ.out.2.2.1) |> fun h=>(World.cell?_of_block h).trans HU6.out)
 have hsz7:=hk7.size
 clear hk7 hkF7 hg7 PT6 PW6 PH6 PQ6 PB6 PL6 RT6 RC6 HBR6 HB7 HU6
 generalize W6.setCell ⟨g18,0,none⟩ (.string nm)=W7 at *
 have BG7:=PB7.out
 rw [show (qbv x L).1.length=nt from HNT.out] at BG7
 have D:=fun w' (h:Below W7.heap.size W7.drew w')=>za ((BG7.ext (zt (zb _ _).drew h)).cell 0) (five B17 (zt (zb _ _).drew h))
 have hthT:=PT7.out.there (i:=k) (by rw [show (qbv x L).1.length=nt from HNT.out];exact hkn)
 refine r3 (S:=fun w'=>Below W7.heap.size W7.drew w') [(0,true),(1,true),(2,true),(3,true),(4,true),(5,true),(6,true),(7,true)] [(8,false)] (zb _ _) ?_
 repeat ((first|refine pT ?_|refine pF ?_);try go_frame)
 refine qak ?_
 clear D BG7
 obtain ⟨cz,hcz⟩:∃ z,z=([.string (qaz S rows').1.1,.slice A13 n13 c13,.int .i64 (qaz S rows').1.2.2.1,.bool (qaz S rows').1.2.2.2,.slice A14 n14 c14]:List Value):=⟨_,rfl⟩
 have hczl:cz.length=5:=by rw [hcz];rfl
 have honz:∀ u∈cz,u.oneCell'=true:=by rw [hcz];exact eTab.one RT7.out
 have hszz:(Tryz.prog.info? 120).map (·.size)=some cz.length:=by rw [hczl];kernel_rfl
 refine qaj rfl (qae rfl) (fun K hK=>?_)
 refine qao 120 (.tmp 87) (.tmp 86) rfl rfl b1 (k * 5) cz rfl (by rw [hcz];rfl) (by rw [hczl];exact hthT) hszz honz ?_
 refine hK.out _ _ trivial (qad ?_)
 clear hK K
 have hgs:W7.drew.grownBy (W7.drew.setCells b1 (k * 5) cz) (some b1):=by
  obtain ⟨cur,hcur⟩:=PT7.out.blk
  obtain ⟨_,_,_,h⟩:=Blk.setCells cz (k * 5) (Blk.drew hcur)
  exact h
 have hg8:W7.grownBy (W7.drew.setCells b1 (k * 5) cz) (some b1):=qah (qez W7 (some b1)) hgs
 have hk8:=Keep.grown (F:=fun b=>b≠b1) hg8 (fun g' h1 h2=>by injection h1 with h1;exact h2 h1.symm)
 have hkF8:Keep F5 W7 (W7.drew.setCells b1 (k * 5) cz):=hk8.mono (fun b h=>(HF5.out.1 b h).2.2.1)
 have RTz:=RT7.out
 rw [<-hcz] at RTz
 have PT8:=zh ((PT7.out.ext ((zb _ _).drew)).laid_ (i:=k) (cs:=cz) (x:=qaz S rows') (w':=W7.drew.setCells b1 (k * 5) cz) (by rw [show (qbv x L).1.length=nt from HNT.out];exact hkn) (eTab.keep RTz hkF8) (Keep.grown hgs (fun g' h1 h2=>by injection h1 with h1;subst h1;exact (HF5.out.1 _ h2).2.2.1 rfl)) rfl)
 have PW8:=zh (PW7.out.keep hk8 (fun b e=>by injection e with e;injection e with e;have:=HNE.out;omega) (fun b h=>(HF5.out.1 b h).2.2.1))
 have PH8:=zh (PH7.out.keep hkF8)
 have PQ8:=zh (PQ7.out.keep hkF8)
 have PL8:=zh (PL7.out.keep hkF8)
 have PB8:=zh (Blk.keep PB7.out hk8 (Ne.symm HNE.out.1))
 have RC8:=zh (eChg.keep RC7.out hkF8)
 have B18:=Blk.keep B18 hk8 (by have:=HNX.out;omega)
 have BR8:=zh (Blk.keep BR7.out hk8 (by have:=HNX.out;omega))
 have HB9:=zh (HB8.out.grown hg8 HB8.out.size (fun k hk=>by injection hk with hk;have:=HZ.out;have:=HGW.out;omega))
 have HU8:=zh ((hk8.block b2 (by have:=HNE.out;omega) (by have:=HSZ.out;omega)) |> fun h=>(World.cell?_of_block h).trans HU7.out)
 have hsz8:=hk8.size
 clear hk8 hkF8 hg8 hgs PT7 PW7 PH7 PQ7 PL7 PB7 RT7 RC7 RTz BR7 HB8 HU7 hthT honz hszz B17
 generalize W7.drew.setCells b1 (k * 5) cz=W8 at *
 clear hcz hczl
 go_upto_region 14 with fail
 have u8:=HU8.out
 have D:=fun w' (h:Below W8.heap.size W8.drew w')=>za ((((zb W8.heap.size W8).drew.trans h).cell (p:=⟨b2,at_ * 3+1,none⟩) (show b2<W8.heap.size by have:=HSZ.out;omega)).trans HU8.out) (B18.three ((zb _ _).drew.trans h))
 refine r3 (S:=fun w'=>Below W8.heap.size W8.drew w') [(0,true),(1,true),(2,true),(3,true),(4,true),(5,true),(6,false),(7,false),(8,true),(9,true)] [(10,false)] (zb _ _) ?_
 clear u8
 repeat ((first|refine pT ?_|refine pF ?_);try go_frame)
 refine pD fun K hK=>?_;go_simp
 have hba:Below W8.heap.size W8 (W8.alloc (.cells #[.string nm,.int .i64 1,.slice A15 n15 c15] 126)).drew:=((zb _ _).alloc (zl _) _).drew
 have BV:Blk (W8.alloc (.cells #[.string nm,.int .i64 1,.slice A15 n15 c15] 126)).drew W8.heap.size 126 #[.string nm,.int .i64 1,.slice A15 n15 c15]:=Blk.new _ _ _
 obtain ⟨gv,hgv⟩:∃ g,W8.heap.size=g:=⟨_,rfl⟩
 have HGV:=zh hgv
 obtain ⟨Wa,hWa⟩:∃ W,W=(W8.alloc (.cells #[.string nm,.int .i64 1,.slice A15 n15 c15] 126)).drew:=⟨_,rfl⟩
 rw [<-hWa] at hba BV ⊢
 rw [hgv] at BV ⊢
 have hda:Below W8.heap.size W8.drew Wa:=by rw [hWa];exact show Below W8.heap.size W8.drew (W8.drew.alloc _) from (zb W8.heap.size W8.drew).alloc (zl _) _
 refine hK.out _ _ hda ?_
 clear hK K hWa hgv
 obtain ⟨i0,hi0,hy0,hy1,hy2⟩:=ip Tryz.prog 126 (.agg #[.string ⟨#[]⟩,.int .i64 0,.slice none 0 0]) 3 48
 have PLa:=zh (PL8.out.ext hba)
 obtain ⟨css,hcs,hcl,hcn,hcc⟩:=PLa.out.src
 have RCa:=zh (eChg.ext RC8.out hba)
 refine qaj rfl (qae rfl) (fun K hK=>?_)
 refine qbm 95 (.tmp 92) (.tmp 94) 51 rfl rfl 126 i0 _ 3 48 Tryz.underlying51 hi0 hy0 hy1 hy2 rfl (by decide) AL nl nl css.flatten rfl hcn hcl hcc ⟨gv,0,none⟩ 1 1 [.string nm,.int .i64 1,.slice A15 n15 c15] rfl rfl (lk.three_at BV) (eChg.one RCa.out) (by omega) (by unfold maxLen;omega) (by omega) ?_
 intro A' c' Wc hown hgr
 have hbc:Below Wa.heap.size Wa Wc:=(zb _ _).grown hgr (zl _) (fun k hk=>by cases hk)
 have hdc:=(hda.tr hbc)
 refine hK.out _ _ hdc ?_
 clear hK K D
 have hbac:=(hba.tr hbc)
 have hsza:=hba.size
 have HLN:=zh (show OwnE eChg 126 Wc Wa.heap.size F5 A' (nl+1) c' (log++[(nm,1,qbf r)]) from ⟨css++[[.string nm,.int .i64 1,.slice A15 n15 c15]],by rw [List.flatten_append,List.flatten_singleton];exact hown,Els.append (hcs.ext hbc) (Els.one_ (eChg.ext RCa.out hbc)),by have:=PLa.out.len;simp [this]⟩)
 have PT9:=zh (PT8.out.ext hbac)
 have PW9:=zh (PW8.out.ext hbac)
 have PH9:=zh (PH8.out.ext hbac)
 have PQ9:=zh (PQ8.out.ext hbac)
 have PB9:=zh (PB8.out.ext hbac)
 have BR9:=zh (BR8.out.ext hbac)
 have HB10:=zh ((HB9.out.tr hbac))
 have HUc:=zh ((hbac.cell (p:=⟨b2,at_ * 3+1,none⟩) (show b2<W8.heap.size by have:=HSZ.out;omega)).trans HU8.out)
 have hszc:=hbac.size
 clear hown hgr hbc hdc hbac hcs hcl hcn hcc PLa RCa BV hba hda PT8 PW8 PH8 PQ8 PB8 PL8 BR8 HB9 HU8 RC8 hi0 hy0 hy1 hy2 B18
 repeat ((first|refine pT ?_|refine pF ?_);try go_frame)
 refine qak ?_
 have hthW:=PW9.out.there (i:=at_) (by rw [show (qbv x L).2.1.length=nk from HNK.out];exact hatn)
 have fW:=(hthW 1 (by decide)).2
 simp only [show eWrk.k=3 from rfl] at fW
 have uc:=HUc.out
 refine pD fun K hK=>?_;go_simp
 refine hK.out _ _ trivial (qad ?_)
 clear hK K uc fW hthW
 obtain ⟨u,hu⟩:∃ u,u=Value.slice A' (nl+1) c':=⟨_,rfl⟩
 rw [<-hu]
 have hg10:=qac Wc b2 (at_ * 3+1) u
 have hk10:=Keep.grown (F:=fun b=>b≠b2) hg10 (fun g' h1 h2=>by injection h1 with h1;exact h2 h1.symm)
 have hkF10:Keep F5 Wc (Wc.setCell ⟨b2,at_ * 3+1,none⟩ u):=hk10.mono (fun b h=>(HF5.out.1 b h).2.2.2.1)
 have hsl:=(HLN.out.sl (G:=F5) (fun b h _=>HF5.out.2 b (by omega)) (fun b h=>h)).keep hkF10
 have PW10:=zh (PW9.out.set1 (E:=eWrk) (i:=at_) (j:=1) (u:=u) (x:=(s',log++[(nm,1,qbf r)],marks)) HWRK.out (by decide) (fun cs0 h=>by
  obtain ⟨Az,nz,cz,Ay,ny,cy,rfl,_,hy⟩:=qdc h
  have hm:=qkf (x:=(s',log++[(nm,1,qbf r)],marks)) hsl hy
  rw [<-hu] at hm
  exact hm) hkF10 rfl)
 have PT10:=zh (PT9.out.keep hk10 (fun b e=>by injection e with e;injection e with e;have:=HNE.out;omega) (fun b h=>(HF5.out.1 b h).2.2.2.1))
 have PH10:=zh (PH9.out.keep hkF10)
 have PQ10:=zh (PQ9.out.keep hkF10)
 have BG10:=Blk.keep PB9.out hk10 (by have:=HNE.out;omega)
 have BR10:=Blk.keep BR9.out hk10 (by have:=HNX.out;omega)
 have hbw10:=HB10.out.grown hg10 HB10.out.size (fun k hk=>by injection hk with hk;have:=HZ.out;have:=HGW.out;omega)
 have hgl10:=BR10.lt
 clear hg10 hk10 hkF10 hsl PT9 PW9 PH9 PQ9 PB9 BR9 HB10 HUc HLN
 generalize Wc.setCell ⟨b2,at_ * 3+1,none⟩ u=W10 at *
 clear hu
 have HDB:=zh (show eDB.rel W10 (fun _=>True) [.slice (some ⟨b1,0,none⟩) x.1.length c5,.slice (some ⟨b2,0,none⟩) x.2.1.length c6,.slice A9 (L.hs.map ofHd).length c9,.slice A10 (L.ws.map ofHd).length c10] (putD x k at_ (qaz S rows') (s',log++[(nm,1,qbf r)],marks) L) from
  qeg (x:=putD x k at_ (qaz S rows') (s',log++[(nm,1,qbf r)],marks) L) (PT10.out.sl (fun _ _ _=>trivial) (fun _ _=>trivial)) (PW10.out.sl (fun _ _ _=>trivial) (fun _ _=>trivial)) (PH10.out.sl.mono (fun _ _=>trivial)) (PQ10.out.sl.mono (fun _ _=>trivial)))
 have HOK':=zh (show okDB (putD x k at_ (qaz S rows') (s',log++[(nm,1,qbf r)],marks) L) from by
  refine ⟨by show (x.1.set k _).length<=1000;rw [List.length_set];exact HP.out.ok.1,fun t ht=>?_,by show (x.2.1.set at_ _).length<=1000;rw [List.length_set];exact HP.out.ok.2.2.1,fun y hy=>?_,by show (L.hs.map ofHd).length<=1000;rw [List.length_map,<-HL.out];exact HP.out.lks.1,by show (L.ws.map ofHd).length<=1000;rw [List.length_map,<-HL.out];exact HP.out.lks.2⟩
  ·rcases List.mem_or_eq_of_mem_set (show t∈x.1.set k (qaz S rows') from ht) with ht|rfl
   ·exact HP.out.ok.2.1 t ht
   ·refine ⟨by show (S.cols.map qkb).length<=1000;rw [List.length_map];have:=HP.out.cols;omega,by show (rows'.map qbf).length<=1000;rw [List.length_map];have:=HP.out.rows_;have:=HP.out.rows2;omega,fun y hy=>?_⟩
    obtain ⟨z,hz,rfl⟩:=List.mem_map.1 (show y∈rows'.map qbf from hy)
    show (z.map valTo).length<=1000
    rw [List.length_map]
    exact HP.out.rows3 z hz
  ·rcases List.mem_or_eq_of_mem_set (show y∈x.2.1.set at_ (s',log++[(nm,1,qbf r)],marks) from hy) with hy|rfl
   ·exact HP.out.ok.2.2.2.1 y hy
   ·have hw:=HP.out.ok.2.2.2.1 _ (List.mem_of_getElem? HWRK.out)
    refine ⟨by show (log++[(nm,1,qbf r)]).length<=1000;have:=HP.out.few;simp;omega,fun c hc=>?_,hw.2.2⟩
    rcases List.mem_append.1 (show c∈log++[(nm,1,qbf r)] from hc) with hc|hc
    ·exact hw.2.1 c hc
    ·simp at hc
     subst hc
     show (r.map valTo).length<=1000
     rw [List.length_map]
     exact HP.out.row_)
 have q:=four_ BG10
 clear PT10 PW10 PH10 PQ10 BG10
 go_wp2_with fail
 refine (qjy HDB.out HOK'.out).mono ?_
 rintro e9 w9 hO
 obtain ⟨cz,rfl,hr9,hb9⟩:=hO.owned
 clear hO
 have hczl:cz.length=4:=eDB.len hr9
 have hone:=eDB.one hr9
 have hsz9:(Tryz.prog.info? 31).map (·.size)=some cz.length:=by rw [hczl];kernel_rfl
 have BR9:=BR10.ext hb9
 have hth:=Blk.there (o:=0) (n:=4) BR9 (by simp)
 have hrl:gr<W10.heap.size:=hgl10
 have hwr:w.heap.size<=gr:=HGS.out.2.1
 have hbz8:=(hbw10.tr hb9)
 have hws:w.heap.size<=W10.heap.size:=hbw10.size
 obtain ⟨B9,hg9⟩:=Blk.lay cz 0 BR9 (by rw [hczl];simp)
 rw [qai _ _ (by rw [hczl];rfl)] at B9
 have hbw9:=(hbz8.gw hg9)
 have HR9:=zh (eDB.mono (eDB.keep hr9 (Keep.grown hg9 (fun g hg h=>by injection hg with hg;omega))) (G:=fun b=>w.heap.size<=b) (fun b h=>Nat.le_trans hws h))
 clear hr9 hg9 hbz8
 go_wp2_with ((with_reducible refine sS 8 ?_);(refine wpList_store_mid rfl 31 _ _ rfl gr 0 cz.toArray rfl rfl ?zs1 ?zt1 (all_oneCell_toArray hone) ?_))
 case zs1=>exact (show cz.toArray.size=4 by simp [hczl]) ▸ hth
 case zt1=>rw [List.size_toArray];exact hsz9
 clear hth BR9
 generalize w9.setCells gr 0 cz=wz at *
 go_wp2
 refine bodyPost_ret (v:=.tuple #[.agg cz.toArray,.int .i64 0]) (qbe rfl _ _ gr _ _ (0,0) _ rfl B9 Tryz.underlying31 rfl (by rw [List.size_toArray];exact hsz9) rfl) rfl ⟨cz,rfl,HR9.out,hbw9⟩
theorem xput_ {s':Int} {S:tb.Sch} {rows rows':List (List val.V)} {r:List val.V} {log:List Chg} {marks:List Mrk}
  (h:eDB.rel w F cs x) (hP:PutOk x s nm S rows rows' r log marks s') (hr:Sl eVal w G A n c (qbf r)) :
  Calls Tryz.prog 16 #[.agg cs.toArray,.int .i64 s,.string nm,.slice A n c] w (DBE (putD x (posG (cmpT nm) x.1) (posG (cmpW s) x.2.1) (qaz S rows') (s',log++[(nm,1,qbf r)],marks) (lk.askL (lkOf x) ⟨s,nm,true⟩)) 0 w):=by
 obtain ⟨X,hX⟩:∃ X,putD x (posG (cmpT nm) x.1) (posG (cmpW s) x.2.1) (qaz S rows') (s',log++[(nm,1,qbf r)],marks) (lk.askL (lkOf x) ⟨s,nm,true⟩)=X:=⟨_,rfl⟩
 have HK:=fun (w':World) (br:Nat) (hb:Below w.heap.size w w') (hbr:Blk w' br 71 #[.slice A n c])=>change_ (eDB.ext h hb) hP hbr (hr.ext hb)
 rw [hX] at HK ⊢
 have HK:=zh HK
 have hmf:∀ (fn:Fn) (first cap:Array Value) (w:World),(Instr.makeFunc fn first cap).run Tryz.prog w=.ok (.func fn first cap) w:=fun _ _ _ _=>rfl
 obtain ⟨A1,n1,c1,A2,n2,c2,A3,n3,c3,A4,n4,c4,rfl,h1,h2,h3,h4⟩:=qav h
 clear h hP hr hX h1 h2 h3 h4
 go_enter Tryz.func16,Tryz.ntmps16
 go_upto_region 1 with fail
 obtain ⟨W,hW_,hb1,BD,BV,BR⟩:=al3 w 31 71 31 #[.slice A1 n1 c1,.slice A2 n2 c2,.slice A3 n3 c3,.slice A4 n4 c4] #[.slice A n c] #[.slice none 0 0,.slice none 0 0,.slice none 0 0,.slice none 0 0]
 rw [<-hW_]
 clear hW_
 obtain ⟨gd,hgd⟩:∃ g,w.heap.size=g:=⟨_,rfl⟩
 obtain ⟨gv,hgv⟩:∃ g,w.heap.size+1=g:=⟨_,rfl⟩
 obtain ⟨gr,hgr⟩:∃ g,w.heap.size+1+1=g:=⟨_,rfl⟩
 have HGS:=zh (show w.heap.size<=gr by omega)
 rw [hgr] at BR ⊢
 rw [hgv] at BV ⊢
 rw [hgd] at BD ⊢
 have HF:=zh (HK.out W gv hb1 BV)
 have hgrW:gr<W.heap.size:=BR.lt
 have qd:=four BD (zb _ _)
 have hwW:=hb1.size
 clear hgd hgv hgr BD BV HK
 go_wp2_with fail
 refine HF.out.mono ?_
 rintro e w1 ⟨cz,rfl,hr9,hb2⟩
 clear qd HF
 have hczl:cz.length=4:=eDB.len hr9
 have hone:=eDB.one hr9
 have hsz9:(Tryz.prog.info? 31).map (·.size)=some cz.length:=by rw [hczl];kernel_rfl
 have BR9:=BR.ext hb2
 have hth:=Blk.there (o:=0) (n:=4) BR9 (by simp)
 have hbw8:=(hb1.tr hb2)
 obtain ⟨B9,hg9⟩:=Blk.lay cz 0 BR9 (by rw [hczl];simp)
 rw [qai _ _ (by rw [hczl];rfl)] at B9
 have hbw9:=hbw8.grown hg9 hbw8.size (fun k hk=>by injection hk with hk;have:=HGS.out;omega)
 have HR9:=zh (eDB.mono (eDB.keep hr9 (Keep.grown hg9 (fun g hg h=>by injection hg with hg;omega))) (G:=fun b=>w.heap.size<=b) (fun b h=>Nat.le_trans hwW h))
 clear hr9 hg9 hbw8 BR
 go_wp2_with ((with_reducible refine sS 8 ?_);(refine wpList_store_mid rfl 31 _ _ rfl gr 0 cz.toArray rfl rfl ?zs ?zt (all_oneCell_toArray hone) ?_))
 case zs=>exact (show cz.toArray.size=4 by simp [hczl]) ▸ hth
 case zt=>rw [List.size_toArray];exact hsz9
 clear hth BR9
 generalize w1.setCells gr 0 cz=wz at *
 go_wp2
 refine bodyPost_ret (v:=.tuple #[.agg cz.toArray,.int .i64 0]) (qbe rfl _ _ gr _ _ (0,0) _ rfl B9 Tryz.underlying31 rfl (by rw [List.size_toArray];exact hsz9) rfl) rfl ⟨cz,rfl,HR9.out,hbw9⟩
def withW (x:DBd) (l:List Wrk):DBd:=(x.1,l,x.2.2)
def endD (x:DBd) (s:Int):DBd:=qbv (withW x (x.2.1.take (posG (cmpW s) x.2.1)++x.2.1.drop (posG (cmpW s) x.2.1+1))) (lk.freeL (lkOf x) s)
theorem isG_lt {α:Type} {f:α->Int} {x:List α} (h:isG f x=true):posG f x<x.length:=by
 unfold isG at h
 cases hx:x[posG f x]? with
 | none=>rw [hx] at h;cases h
 | some r=>exact (List.getElem?_eq_some_iff.1 hx).1
theorem qnw {um:FrameMode}
  (h:CallW w g B o e x A c (some ⟨b2,0,none⟩) c2 A3 c3 A4 c4) (hok:okDB x) (hse:qex x) (hs:-1000<=s/\s<=1000) (hmw:Mono (cmpW s) x.2.1) (his:isG (cmpW s) x.2.1=true) :
  (Calls Tryz.prog 33 #[.pointer (some ⟨g,0,none⟩),.int .i64 s] w fun e' w' =>
   e'=.returned (.tuple #[])/\(∃ A5 c5 A6 c6,CallW w' g B o e (endD x s) A c (some ⟨b2,0,none⟩) c2 A5 c5 A6 c6)/\Frm (fun b=>b=g\/b=b2) w w') /\
  CallsD Tryz.prog 33 #[.pointer (some ⟨g,0,none⟩),.int .i64 s] um w fun e' u' w'=>u'=um/\e'=.returned (.tuple #[])/\(∃ A5 c5 A6 c6,CallW w' g B o e (endD x s) A c (some ⟨b2,0,none⟩) c2 A5 c5 A6 c6)/\Frm (fun b=>b=g\/b=b2) w w':=by
 have HC:=zh h
 have hin:=isG_lt his
 obtain ⟨p,hp⟩:∃ p,posG (cmpW s) x.2.1=p:=⟨_,rfl⟩
 rw [hp] at hin
 obtain ⟨n,hn⟩:∃ n,x.2.1.length=n+1:=⟨x.2.1.length - 1,by omega⟩
 have hpn:p<=n:=by omega
 have hnb:n<=999:=by have:=hok.2.2.1;omega
 have HN:=zh hn
 have HT:=qgo h s hok.2.2.1 hmw ⟨by omega,by omega⟩ hse
 rw [hp,his] at HT
 have HT:=zh HT
 have HE:=zh (show endD x s=qbv (withW x (x.2.1.take p++x.2.1.drop (p+1))) (lk.freeL (lkOf x) s) from by rw [<-hp];rfl)
 have HLB:=zh (za hok.2.2.2.2.1 hok.2.2.2.2.2)
 rw [HE.out]
 clear h hok hse hmw his hp hn hin
 refine ⟨?_,?_⟩
 rotate_left
 go_enter_d Tryz.func33,Tryz.ntmps33
 rotate_left
 go_enter Tryz.func33,Tryz.ntmps33
 all_goals
  go_wp2_with fail
  refine HT.out.mono ?_
  rintro e' w1 ⟨rfl,hb1⟩
  have HC1:=zh (HC.out.ext hb1)
  have HB1:=zh hb1
  clear HC hb1 HT
  have hd:=delW (i:=p) (n:=n) (show OwnE eWrkT 96 w1 B (NC B g A (some ⟨b2,0,none⟩)) (some ⟨b2,0,none⟩) (n+1) c2 x.2.1 from HN.out ▸ HC1.out.wrk) (fun hf=>hf.2.2.2 rfl) hpn (by omega)
  have HD:=zh hd
  have BG:=HC1.out.blk
  rw [HN.out] at BG
  have q1:=BG.cell 1
  have hw1:IntKind.i64.wrap ((p:Int)+1)=(p:Int)+1:=IntWalk.i64_in _ ⟨by omega,by omega⟩
  clear hd
  go_wp2_with fail
  refine HD.out.mono ?_
  rintro e' w2 ⟨rfl,ho,hg⟩
  have HO:=zh ho
  have hkA:=Keep.grown (F:=fun b=>b≠b2) hg (fun g' h1 h2=>by injection h1 with h1;exact h2 h1.symm)
  have hne:=HC1.out.ne2 b2 rfl
  have BG2:=Blk.keep BG hkA (Ne.symm hne)
  have f1:=BG2.frozen 1
  have q1':=BG2.cell 1
  have HF2:=zh ((Frm.below (G:=fun b=>b=g\/b=b2) HB1.out).trans (Frm.grown hg (fun g' h=>by injection h with h;exact .inr h.symm)))
  clear ho hg q1 HD BG
  go_upto_region 3 with fail
  clear f1 q1'
  have hg3:=qac w2 g 1 (.slice (some ⟨b2,0,none⟩) n c2)
  have hkT:=KeepT.blk hg3 BG2
  have hk3:=Keep.grown (F:=fun b=>b≠g) hg3 (fun g' h1 h2=>by injection h1 with h1;exact h2 h1.symm)
  have BG3:=BG2.set_ 1 (.slice (some ⟨b2,0,none⟩) n c2)
  have hlen:(x.2.1.take p++x.2.1.drop (p+1)).length=n:=by simp [HN.out];omega
  have HC3:=zh (show CallW (w2.setCell ⟨g,1,none⟩ (.slice (some ⟨b2,0,none⟩) n c2)) g B o e (withW x (x.2.1.take p++x.2.1.drop (p+1))) A c (some ⟨b2,0,none⟩) c2 A3 c3 A4 c4 from by
   refine ⟨?_,(HC1.out.tab.keep hkA (fun b q=>fun e2=>(HC1.out.ne b q).1 (by rw [e2])) (fun b q=>fun e2=>q.2.2.2 (by rw [e2]))).keep hk3 (fun b q=>(HC1.out.ne b q).2) (fun b q=>q.2.1),?_,(HC1.out.hld.keep (hkA.mono (fun b q=>fun e2=>q.2.2.2 (by rw [e2])))).keep (hk3.mono (fun b q=>q.2.1)),(HC1.out.wai.keep (hkA.mono (fun b q=>fun e2=>q.2.2.2 (by rw [e2])))).keep (hk3.mono (fun b q=>q.2.1)),HC1.out.ne,HC1.out.ne2,HC1.out.lo⟩
   ·show Blk _ g _ #[_,.slice (some ⟨b2,0,none⟩) (x.2.1.take p++x.2.1.drop (p+1)).length c2,_,_,_,_,_,_]
    rw [hlen]
    exact BG3
   ·show OwnE _ _ _ _ _ _ (x.2.1.take p++x.2.1.drop (p+1)).length c2 _
    rw [hlen]
    exact HO.out.keepX hkT (by decide) (hk3.mono (fun b q=>q.2.1)))
  have HF3:=zh (HF2.out.trans (Frm.grown hg3 (fun g' h=>by injection h with h;exact .inl h.symm)))
  clear HO HC1 hkA BG2 hg3 hkT hk3 BG3 hlen HF2 HB1
  generalize w2.setCell ⟨g,1,none⟩ (.slice (some ⟨b2,0,none⟩) n c2)=w3 at *
  have HK:=zh (lk.FreeG_ (lkOf x) s _ w3 (HC3.out.lkr) (by show (x.2.2.1.map hdOf).length<=_;rw [List.length_map];have:=HLB.out.1;omega) (by show (x.2.2.2.map hdOf).length<=_;rw [List.length_map];have:=HLB.out.2;omega))
  have q2:=HC3.out.blk.cell 2
  have q3:=HC3.out.blk.cell 3
  go_wp2_with fail
  refine HK.out.mono ?_
  rintro e' w4 ⟨A5,c5,A6,c6,rfl,hO,hb4⟩
  obtain ⟨HN4,hgr⟩:=HC3.out.locks hb4 hO
  have HN4:=zh HN4
  have HF4:=zh ((HF3.out.trans (Frm.below hb4)).trans (Frm.grown hgr (fun g' h=>by injection h with h;exact .inl h.symm)))
  have BG4:=HC3.out.blk.ext hb4
  have f2:=BG4.frozen 2
  have f3:=BG4.frozen 3
  have q2':=BG4.cell 2
  have q3':=BG4.cell 3
  clear q2 q3 hO hb4 HK HC3 HF3 BG4 hgr
  go_wp2
  go_end0
  first|exact ⟨rfl,⟨A5,c5,A6,c6,HN4.out⟩,HF4.out⟩|exact ⟨rfl,rfl,⟨A5,c5,A6,c6,HN4.out⟩,HF4.out⟩
theorem end_
  (h:CallW w g B o e x A c (some ⟨b2,0,none⟩) c2 A3 c3 A4 c4) (hok:okDB x) (hse:qex x) (hs:-1000<=s/\s<=1000) (hmw:Mono (cmpW s) x.2.1) (his:isG (cmpW s) x.2.1=true) :
  Calls Tryz.prog 33 #[.pointer (some ⟨g,0,none⟩),.int .i64 s] w fun e' w' =>
   e'=.returned (.tuple #[])/\(∃ A5 c5 A6 c6,CallW w' g B o e (endD x s) A c (some ⟨b2,0,none⟩) c2 A5 c5 A6 c6)/\Frm (fun b=>b=g\/b=b2) w w':=(qnw (um:=.returning) h hok hse hs hmw his).1
theorem endd_ {um:FrameMode}
  (h:CallW w g B o e x A c (some ⟨b2,0,none⟩) c2 A3 c3 A4 c4) (hok:okDB x) (hse:qex x) (hs:-1000<=s/\s<=1000) (hmw:Mono (cmpW s) x.2.1) (his:isG (cmpW s) x.2.1=true) :
  CallsD Tryz.prog 33 #[.pointer (some ⟨g,0,none⟩),.int .i64 s] um w fun e' u' w'=>u'=um/\e'=.returned (.tuple #[])/\(∃ A5 c5 A6 c6,CallW w' g B o e (endD x s) A c (some ⟨b2,0,none⟩) c2 A5 c5 A6 c6)/\Frm (fun b=>b=g\/b=b2) w w':=(qnw h hok hse hs hmw his).2
def DBLE (x:DBd) (l:List Chg) (er:Int) (w:World) (e:Ending) (w':World):Prop:=∃ (cs:List Value) (A:Option Addr) (c:Nat),e=.returned (.tuple #[.agg cs.toArray,.slice A l.length c,.int .i64 er])/\eDB.rel w' (fun b=>w.heap.size<=b) cs x/\Sl eChg w' (fun b=>w.heap.size<=b) A l.length c l/\Below w.heap.size w w'
theorem commit_ {s':Int} {log:List Chg} {marks:List Mrk}
  (h:eDB.rel w F cs x) (hok:okDB x) (hse:qex x) (hs:-1000<=s/\s<=1000) (hmw:Mono (cmpW s) x.2.1) (his:isG (cmpW s) x.2.1=true) (hw:x.2.1[posG (cmpW s) x.2.1]? = some (s',log,marks)) (hok2:okDB (endD x s)) :
  Calls Tryz.prog 11 #[.agg cs.toArray,.int .i64 s] w (DBLE (endD x s) log 0 w):=by
 have HS:=zh h
 have HOK:=zh hok
 have HSE:=zh hse
 have HMW:=zh hmw
 have HIS:=zh his
 have HOK':=zh hok2
 obtain ⟨at_,hat⟩:∃ k,posG (cmpW s) x.2.1=k:=⟨_,rfl⟩
 have HAT:=zh hat
 have HWRK:=zh (show x.2.1[at_]? = some (s',log,marks) from hat ▸ hw)
 obtain ⟨nk,hnk⟩:∃ n,x.2.1.length=n:=⟨_,rfl⟩
 have hatn:at_<nk:=by rw [<-hnk];exact (List.getElem?_eq_some_iff.1 HWRK.out).1
 have hnkb:nk<=1000:=by rw [<-hnk];exact hok.2.2.1
 have HNK:=zh hnk
 have hmf:∀ (fn:Fn) (first cap:Array Value) (w:World),(Instr.makeFunc fn first cap).run Tryz.prog w=.ok (.func fn first cap) w:=fun _ _ _ _=>rfl
 obtain ⟨A1,n1,c1,A2,n2,c2,A3,n3,c3,A4,n4,c4,rfl,h1,h2,h3,h4⟩:=qav h
 clear h hok hse hmw his hw hok2 hat hnk h1 h2 h3 h4
 go_enter Tryz.func11,Tryz.ntmps11
 go_upto_region 1 with fail
 obtain ⟨W,hW_,hb1,BD,BR⟩:=al2 w 31 31 #[.slice A1 n1 c1,.slice A2 n2 c2,.slice A3 n3 c3,.slice A4 n4 c4] #[.slice none 0 0,.slice none 0 0,.slice none 0 0,.slice none 0 0]
 rw [<-hW_]
 clear hW_
 obtain ⟨gd,hgd⟩:∃ g,w.heap.size=g:=⟨_,rfl⟩
 obtain ⟨gr,hgr⟩:∃ g,w.heap.size+1=g:=⟨_,rfl⟩
 have HGS:=zh (show w.heap.size<=gr by omega)
 rw [hgr] at BR ⊢
 rw [hgd] at BD ⊢
 have HF:=zh (qhq (eDB.ext HS.out hb1) HOK.out)
 have HGW:=zh (za BR.lt hb1.size)
 have HBR:=zh BR
 have HB1:=zh hb1
 have qd:=four BD (zb _ _)
 clear hgd hgr BD BR hb1
 go_wp2_with fail
 refine HF.out.mono ?_
 rintro e w1 ⟨g,rfl,⟨A5,c5,A6,c6,A7,c7,A8,c8,hC⟩,hb2⟩
 have hgW:W.heap.size<=g:=hC.lo
 have HC:=zh hC
 have HBR1:=zh (HBR.out.ext hb2)
 have HB2:=zh ((HB1.out.tr hb2))
 clear qd hC hb2 HF HBR HB1
 have HT:=qgo HC.out s HOK.out.2.2.1 HMW.out ⟨by omega,by omega⟩ HSE.out
 rw [HIS.out,HAT.out] at HT
 have HT:=zh HT
 go_wp2_with fail
 refine HT.out.mono ?_
 rintro e w4 ⟨rfl,hb5⟩
 have HC4:=zh (HC.out.ext hb5)
 have HBR4:=zh (HBR1.out.ext hb5)
 have HB5:=zh ((HB2.out.tr hb5))
 clear hb5 HC HBR1 HB2 HT
 obtain ⟨b2,hA6⟩:∃ b,A6=some ⟨b,0,none⟩:=by
  obtain ⟨dss,k1,_,_⟩:=HC4.out.wrk
  obtain ⟨g',e,_⟩:=qcb k1 (by rw [HNK.out];omega)
  exact ⟨_,e⟩
 subst hA6
 obtain ⟨cw0,hcw0,hcell1⟩:=HC4.out.wrk.at_ HWRK.out
 obtain ⟨AL,nl,AM,nm_,cm,rfl,hlog,_⟩:=qgw hcw0
 simp only [show eWrkT.k=3 from rfl] at hcell1
 have u1:=hcell1 1 _ rfl
 have hwok:=HOK.out.2.2.2.1 _ (List.mem_of_getElem? HWRK.out)
 have HEA:=zh (teachChg hlog (show log.length<=1000 from hwok.1) (show ∀ y∈log,qgn y from hwok.2.1))
 have BG4:=HC4.out.blk
 rw [HNK.out] at BG4
 have q1:=BG4.cell 1
 have hai:(at_:Int)<(nk:Int):=by omega
 clear hcell1 hcw0 hlog hwok BG4
 go_wp2_with fail
 refine HEA.out.mono ?_
 rintro e w5 ⟨A9,c9,rfl,ho9,hb6⟩
 have HL9:=zh (ho9.sl (G:=fun b=>w4.heap.size<=b) (fun b h _=>h) (fun b h=>h.1))
 have HC5:=zh (HC4.out.ext hb6)
 have HBR5:=zh (HBR4.out.ext hb6)
 have HB6:=zh ((HB5.out.tr hb6))
 have HZ:=zh (show g<w4.heap.size/\b2<w4.heap.size/\W.heap.size<=b2/\w4.heap.size<=w5.heap.size from ⟨HC4.out.blk.lt,(HC4.out.wrk.lt rfl).2,(HC4.out.wrk.lt rfl).1,hb6.size⟩)
 have HEN:=zh (end_ HC5.out HOK.out HSE.out hs HMW.out HIS.out)
 clear u1 q1 ho9 hb6 HEA HC4 HBR4 HB5
 go_wp2_with fail
 refine HEN.out.mono ?_
 rintro e w6 ⟨rfl,⟨A10,c10,A11,c11,hC6⟩,hf6⟩
 have HC6:=zh hC6
 have hkl:Keep (fun b=>w4.heap.size<=b) w5 w6:=hf6.keep (fun b h _=>by have:=HZ.out;omega)
 have HL10:=zh (HL9.out.keep hkl)
 have BR6:=hf6.blk HBR5.out (by have:=HZ.out;have:=HGW.out;omega)
 have hbw6:Below w.heap.size w w6:=(Frm.below (G:=fun b=>b=g\/b=b2) HB6.out).trans hf6 |>.to_below (zl _) (fun k hk h=>by have:=HZ.out;have:=HGW.out;omega)
 have hrl6:gr<w6.heap.size:=BR6.lt
 have hw4w:w.heap.size<=w4.heap.size:=by have:=HZ.out;have:=HGW.out;omega
 have q:=four_ HC6.out.blk
 clear HC5 HBR5 HB6 HEN hC6 hf6 hkl HL9
 go_wp2_with fail
 refine (qjy HC6.out.db HOK'.out).mono ?_
 rintro e9 w9 hO
 obtain ⟨cz,rfl,hr9,hb9⟩:=hO.owned
 clear hO
 have hczl:cz.length=4:=eDB.len hr9
 have hone:=eDB.one hr9
 have hsz9:(Tryz.prog.info? 31).map (·.size)=some cz.length:=by rw [hczl];kernel_rfl
 have BR9:=BR6.ext hb9
 have hth:=Blk.there (o:=0) (n:=4) BR9 (by simp)
 have hrl:gr<w6.heap.size:=hrl6
 have hwr:w.heap.size<=gr:=HGS.out
 have hbz8:=(hbw6.tr hb9)
 have hws:w.heap.size<=w6.heap.size:=hbw6.size
 obtain ⟨B9,hg9⟩:=Blk.lay cz 0 BR9 (by rw [hczl];simp)
 rw [qai _ _ (by rw [hczl];rfl)] at B9
 have hbw9:=(hbz8.gw hg9)
 have HR9:=zh (eDB.mono (eDB.keep hr9 (Keep.grown hg9 (fun g hg h=>by injection hg with hg;omega))) (G:=fun b=>w.heap.size<=b) (fun b h=>Nat.le_trans hws h))
 have hg9':=hg9
 clear hr9 hg9 hbz8
 have HL11:=zh ((((HL10.out.ext hb9).keep (Keep.grown hg9' (fun g hg h=>by injection hg with hg;have:=HGW.out;have:=HZ.out;omega))).mono (fun b h=>Nat.le_trans hw4w h)))
 clear hg9'
 go_wp2_with ((with_reducible refine sS 4 ?_);(refine wpList_store_mid rfl 31 _ _ rfl gr 0 cz.toArray rfl rfl ?zs1 ?zt1 (all_oneCell_toArray hone) ?_))
 case zs1=>exact (show cz.toArray.size=4 by simp [hczl]) ▸ hth
 case zt1=>rw [List.size_toArray];exact hsz9
 clear hth BR9
 generalize w9.setCells gr 0 cz=wz at *
 go_wp2
 refine bodyPost_ret (v:=.tuple #[.agg cz.toArray,.slice A9 log.length c9,.int .i64 0]) (qky rfl _ _ gr _ _ (0,0) _ rfl B9 Tryz.underlying31 rfl (by rw [List.size_toArray];exact hsz9) rfl rfl) rfl ⟨cz,A9,c9,rfl,HR9.out,HL11.out,hbw9⟩
end Go.Proofs.YtdjbpcnhnkemiaaGreat.tp
