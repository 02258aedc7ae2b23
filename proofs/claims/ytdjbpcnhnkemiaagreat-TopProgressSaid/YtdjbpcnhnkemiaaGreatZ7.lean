/- Laws of its own that the claim's proof needs; no condition beyond those that each states. -/
import Derived.Test.YtdjbpcnhnkemiaaGreatZ6
import Derived.Test.YtdjbpcnhnkemiaaGreatZ3
import Derived.Test.YtdjbpcnhnkemiaaGreatZ2
import Derived.Test.YtdjbpcnhnkemiaaGreatZ5
import Derived.Lib.Builder
set_option linter.unusedVariables false
set_option maxRecDepth 1000000
set_option maxHeartbeats 16000000
namespace Go.Proofs.YtdjbpcnhnkemiaaGreat.tp
open Go.ChangeShapes Go.WideShapes Go.ChangeAt Go.RowKit Go.Proofs.YtdjbpcnhnkemiaaGreat.lib
variable {w w':World}
variable {n c g B b off i j k m n2 n3 c2 c3 c4 c5 c6 gs gn np lo gr gd id b2 off2:Nat}
variable {A A2 A3 A4 A5 A6:Option Addr}
variable {cs:List Value}
variable {l r:List UInt8}
variable {rs:List (List UInt8)}
variable {s o e:Int}
variable {nm:ByteArray}
variable {F G:qab}
variable {x:DBd}
def w0 (s:Int):Wrk:=(s,[],[])
def dbG (T:List Tab) (S:List Int) (L:lk.Lk):DBd:=(T,S.map w0,L.hs.map ofHd,L.ws.map ofHd)
theorem lk_dbG (T:List Tab) (S:List Int) (L:lk.Lk):lkOf (dbG T S L)=L:=lk_with (T,S.map w0,[],[]) L
def Srt (S:List Int):Prop:=S.Pairwise (· < ·)
theorem qgd {S:List Int} (h:Srt S) (s:Int):Mono (cmpW s) (S.map w0):=fun i j r r' hij h1 h2 h3=>by
 simp only [List.getElem?_map,Option.map_eq_some_iff] at h1 h2
 obtain ⟨a,ha,rfl⟩:=h1
 obtain ⟨b,hb,rfl⟩:=h2
 obtain ⟨hi,ha⟩:=List.getElem?_eq_some_iff.1 ha
 obtain ⟨hj,hb⟩:=List.getElem?_eq_some_iff.1 hb
 simp only [cmpW,w0] at h3 ⊢
 rcases Nat.lt_or_ge i j with hlt|hge
 ·have:=List.pairwise_iff_getElem.1 h i j hi hj hlt
  omega
 ·have e:i=j:=by omega
  subst e
  omega
theorem qij {S:List Int} (h:Srt S) (p:Int->Bool):Srt (S.filter p):=h.filter p
theorem qgp {S:List Int} (h:Srt S):S.Nodup:=h.imp (fun hab=>by omega)
theorem qfl:∀ {S:List Int},Srt S->∀ s:Int,isG (cmpW s) (S.map w0)=decide (s∈S)/\(s∈S->(S.map w0)[posG (cmpW s) (S.map w0)]? = some (w0 s) /\
  (S.map w0).take (posG (cmpW s) (S.map w0))++(S.map w0).drop (posG (cmpW s) (S.map w0)+1)=(S.filter fun z=>z != s).map w0)
 | [],_,s=>⟨rfl,fun h=>by cases h⟩
 | z::S,h,s=>by
  have hz:=(List.pairwise_cons.1 h).1
  have ih:=qfl (List.pairwise_cons.1 h).2 s
  rcases Int.lt_trichotomy z s with hlt|heq|hgt
  ·have hp:posG (cmpW s) ((z::S).map w0)=posG (cmpW s) (S.map w0)+1:=by
    unfold posG
    rw [List.map_cons,List.takeWhile_cons_of_pos (p:=fun r=>decide (cmpW s r<0)) (a:=w0 z) (decide_eq_true (show z - s<0 by omega)),List.length_cons]
   have hne:z≠s:=by omega
   refine ⟨?_,fun hm=>?_⟩
   ·have h1:=ih.1
    unfold isG at h1 ⊢
    rw [hp,List.map_cons,List.getElem?_cons_succ,h1]
    simp [Ne.symm hne]
   ·have hm:s∈S:=by simpa [Ne.symm hne] using hm
    obtain ⟨h1,h2⟩:=ih.2 hm
    rw [hp,List.map_cons,List.getElem?_cons_succ,List.take_succ_cons,List.drop_succ_cons,List.cons_append,h2]
    exact ⟨h1,by simp [hne]⟩
  ·subst heq
   have hp:posG (cmpW z) ((z::S).map w0)=0:=by
    unfold posG
    rw [List.map_cons,List.takeWhile_cons_of_neg (by simp [cmpW,w0])]
    rfl
   have hf:S.filter (fun y=>y != z)=S:=List.filter_eq_self.2 (fun y hy=>by have:=hz y hy;simp;omega)
   refine ⟨by unfold isG;rw [hp];simp [cmpW,w0],fun _=>?_⟩
   rw [hp]
   exact ⟨rfl,by simp [hf]⟩
  ·have hp:posG (cmpW s) ((z::S).map w0)=0:=by
    unfold posG
    rw [List.map_cons,List.takeWhile_cons_of_neg (p:=fun r=>decide (cmpW s r<0)) (a:=w0 z) (fun h=>absurd (of_decide_eq_true h) (show ¬z - s<0 by omega))]
    rfl
   have hn:s∉z::S:=fun hm=>by
    rcases List.mem_cons.1 hm with e|e
    ·omega
    ·have:=hz s e;omega
   refine ⟨?_,fun hm=>absurd hm hn⟩
   unfold isG
   rw [hp]
   simp only [List.map_cons,List.getElem?_cons_zero,hn,decide_false]
   simp [cmpW,w0]
   omega
theorem qms {T:List Tab} {S:List Int} {L:lk.Lk} (h:Srt S) (hs:s∈S):endD (dbG T S L) s=dbG T (S.filter fun z=>z != s) (lk.freeL L s):=by
 have hp:=((qfl h s).2 hs).2
 unfold endD qbv withW
 rw [lk_dbG]
 show (T,_,_,_)=(T,_,_,_)
 rw [show (dbG T S L).2.1=S.map w0 from rfl,hp]
theorem ok_dbG {T:List Tab} {S:List Int} {L:lk.Lk} (hT:T.length<=1000) (hT2:∀ t∈T,qeh t) (hS:S.length<=1000) (h1:L.hs.length<=1000) (h2:L.ws.length<=1000):okDB (dbG T S L) :=
 ⟨hT,hT2,by simpa [dbG] using hS,fun k hk=>by
  simp only [dbG,List.mem_map] at hk
  obtain ⟨s,_,rfl⟩:=hk
  exact ⟨Nat.zero_le _,fun c hc=>(by cases hc),Nat.zero_le _⟩,by simpa [dbG] using h1,by simpa [dbG] using h2⟩
theorem qhm {T:List Tab} {S:List Int} {L:lk.Lk} (hS:∀ s∈S,0<=s/\s<4):qex (dbG T S L):=fun y hy=>by
 simp only [dbG,List.mem_map] at hy
 obtain ⟨s,hs,rfl⟩:=hy
 have:=hS s hs
 exact ⟨by simp only [w0];omega,by simp only [w0];omega⟩
theorem qfe {α:Type} {f:α->Int} {x:List α} (h:∀ i j:Fin x.length,i<=j->f x[j]<0->f x[i]<0):Mono f x:=fun i j r r' hij h1 h2 h3=>by
 obtain ⟨hi,rfl⟩:=List.getElem?_eq_some_iff.1 h1
 obtain ⟨hj,rfl⟩:=List.getElem?_eq_some_iff.1 h2
 exact h ⟨i,hi⟩ ⟨j,hj⟩ hij h3
def TT (k:Nat):List Tab:=(List.range k).map tabT
def nmB (t:Nat):ByteArray:=⟨(nmT t).toArray⟩
theorem okTT (k:Nat) (hk:k<=3):okDB (TT k,[],[],[]):=by
 refine ⟨by simp [TT];omega,fun t ht=>?_,by simp,fun _ h=>by simp at h,by simp,by simp⟩
 simp only [TT,List.mem_map] at ht
 obtain ⟨i,_,rfl⟩:=ht
 exact ⟨by show colsT.length<=1000;decide,by show ([]:List RowD).length<=1000;decide,fun r hr=>by cases hr⟩
theorem goodT (t:Nat) (ht:t<3):GoodS (nmT t) colsT 0:=by
 have h3:t=0\/t=1\/t=2:=by omega
 have hcol:∀ (i:Nat) x,colsT[i]? = some x->pg.nameOk x.nm=true/\x.nm.length<=1000/\pg.findC colsT x.nm=((i:Int),true)/\1<=x.k/\x.k<=3:=fun i x hx=>by
  match i,hx with
  | 0,hx=>injection hx with hx;subst hx;exact ⟨by decide +kernel,by decide,by decide +kernel,by decide,by decide⟩
  | 1,hx=>injection hx with hx;subst hx;exact ⟨by decide +kernel,by decide,by decide +kernel,by decide,by decide⟩
 refine ⟨?_,?_,by decide,by decide,hcol,⟨_,rfl,rfl⟩⟩
 ·rcases h3 with rfl|rfl|rfl <;> decide +kernel
 ·rcases h3 with rfl|rfl|rfl <;> decide
theorem nextT (t:Nat) (ht:t<3):Mono (cmpT ⟨(nmT t).toArray⟩) (TT t)/\isG (cmpT ⟨(nmT t).toArray⟩) (TT t)=false/\posG (cmpT ⟨(nmT t).toArray⟩) (TT t)=t:=by
 have h3:t=0\/t=1\/t=2:=by omega
 rcases h3 with rfl|rfl|rfl
 ·exact ⟨qfe (by decide +kernel),by decide +kernel,by decide +kernel⟩
 ·exact ⟨qfe (by decide +kernel),by decide +kernel,by decide +kernel⟩
 ·exact ⟨qfe (by decide +kernel),by decide +kernel,by decide +kernel⟩
theorem hereT (t:Nat) (ht:t<3):Mono (cmpT (nmB t)) (TT 3)/\isG (cmpT (nmB t)) (TT 3)=true:=by
 have h3:t=0\/t=1\/t=2:=by omega
 rcases h3 with rfl|rfl|rfl
 ·exact ⟨qfe (by decide +kernel),by decide +kernel⟩
 ·exact ⟨qfe (by decide +kernel),by decide +kernel⟩
 ·exact ⟨qfe (by decide +kernel),by decide +kernel⟩
theorem TT_snoc (t:Nat):TT t++[(qbj (nmT t) colsT 0 (t == 2),[])]=TT (t+1):=by
 unfold TT
 rw [List.range_succ,List.map_append]
 rfl
theorem qhs (t:Nat):(TT t).length=t:=by simp [TT]
def valB (v:Val):List UInt8:=[b8 v.1.toNat]++(if v.1=1 then [b8 v.2.1.toNat] else if v.1=2 then le 8 v.2.1.toNat else if v.1=3 then le 2 v.2.2.size++v.2.2.data.toList else [])
def rowB (r:RowD):List UInt8:=[b8 r.length]++r.flatMap valB
structure OkV (v:Val):Prop where
 k0:0<=v.1
 k3:v.1<=3
 n0:0<=v.2.1
 n1:v.2.1<9223372036854775808
 sz:v.2.2.size<=60
theorem valB_len (v:Val) (h:OkV v):(valB v).length<=63:=by
 unfold valB
 have:=h.sz
 rw [List.length_append]
 split
 ·simp
 split
 ·simp [le]
 split
 ·simp [le];omega
 ·simp
theorem qkp:∀ (l:List Val),(∀ v∈l,OkV v)->(l.flatMap valB).length<=l.length * 63
 | [],_=>by simp
 | v::l,h=>by
  have ih:=qkp l (fun v hv=>h v (List.mem_cons_of_mem _ hv))
  have:=valB_len v (h v (List.mem_cons_self ..))
  rw [List.flatMap_cons,List.length_append,List.length_cons]
  omega
def Ob (w:World) (B:Nat) (A:Option Addr) (c:Nat) (l:List UInt8):Prop:=w.ownsRow B 5 1 (.slice A l.length c) l.length (qaa l)
theorem Ob.by (h:Ob w B A c l):By w A l.length c l:=By.of_own h
theorem Ob.ext (h:Ob w B A c l) (hb:Below w.heap.size w w'):Ob w' B A c l:=qay h hb
theorem Ob.base {B':Nat} (h:Ob w B A c l) (hb:B'<=B):Ob w B' A c l:=qat h hb
theorem qnf {x:RowD} (h:Sl eVal w F A n c x) (hok:∀ v∈x,OkV v) (hn:n<=1000):Calls Tryz.prog 114 #[.slice A n c] w (OwnB (rowB x) w):=by
 have HS:=zh h
 have HL:=zh h.len
 have HOK:=zh hok
 clear h hok
 have HB0:=zh (qdr [] n none 0 0 w (By.nil _) (by omega) (by omega))
 go_enter Tryz.func114,Tryz.ntmps114
 go_wp2_with fail
 refine HB0.out.mono ?_
 rintro e w1 ⟨A1,c1,rfl,ho1,hb1⟩
 have HO1:=zh (show Ob w1 w.heap.size A1 c1 [b8 n] from ho1)
 have HW1:=zh hb1
 have hl1:([]++[b8 n]:List UInt8).length=1:=rfl
 rw [hl1]
 clear ho1 hb1 HB0 hl1
 go_wp2_with fail
 go_loopw [3,11] (fun b i wr=>∃ (k:Nat) (A':Option Addr) (c' m:Nat),b=.slice A' m c'/\i=.int .i64 k/\k<=n/\Hid (m=([b8 n]++(x.take k).flatMap valB).length/\Ob wr w.heap.size A' c' ([b8 n]++(x.take k).flatMap valB))/\Hid (Below w.heap.size w wr)) (fun _ i _=>n - (intOf i).toNat)
 case atStart=>exact ⟨0,A1,c1,1,rfl,rfl,Nat.zero_le _,zh ⟨by simp,by simpa using HO1.out⟩,HW1⟩
 case round =>
  clear HO1 HW1
  obtain ⟨k,A',c',m,rfl,rfl,hk,HO,HW⟩:=hrel
  rcases Nat.lt_or_ge k n with hlt|hge
  ·have hd:decide ((k:Int)<(n:Int))=true:=by simp;omega
   have hkn:(k:Int)<(n:Int):=by omega
   obtain ⟨v,hv⟩:∃ v,x[k]? = some v:=⟨_,List.getElem?_eq_getElem (by have:=HL.out;omega)⟩
   have HV:=zh hv
   have hvk:=HOK.out v (List.mem_of_getElem? hv)
   obtain ⟨L,hL⟩:∃ L,L=[b8 n]++(x.take k).flatMap valB:=⟨_,rfl⟩
   have HLK:=zh (show [b8 n]++(x.take (k+1)).flatMap valB=L++valB v from by rw [qda hv,List.flatMap_append,hL];simp)
   have HLL:=zh (show L.length<=1+63 * 1000 from by
    have h1:=qkp (x.take k) (fun v hv=>HOK.out v (List.mem_of_mem_take hv))
    have h2:(x.take k).length<=1000:=by rw [List.length_take];omega
    rw [hL,List.length_append,List.length_singleton]
    omega)
   obtain ⟨hm0,hO⟩:=HO.out
   rw [<-hL] at hm0 hO
   subst hm0
   have HO:=zh hO
   obtain ⟨b0,off,rfl,_,_,_⟩:=HS.out.some_ (by omega)
   have hS:=HS.out.ext HW.out
   obtain ⟨cs,hcs,hcell⟩:=hS.at_ hv
   obtain ⟨kd,N,s⟩:=v
   obtain ⟨hk0,hk3,hn0,hn1,hsz⟩:=hvk
   simp only at hk0 hk3 hn0 hn1 hsz
   obtain ⟨kN,rfl⟩:∃ q:Nat,kd=(q:Int):=⟨kd.toNat,by omega⟩
   obtain ⟨nN,rfl⟩:∃ q:Nat,N=(q:Int):=⟨N.toNat,by omega⟩
   obtain ⟨_,_,e1,e2,_,_,e3,e4,e5⟩:=hcs
   rw [e2,e3,e4,e5] at e1
   subst e1
   simp only [show eVal.k=3 from rfl] at hcell
   have q0:=hcell 0 _ rfl
   have q1:=hcell 1 _ rfl
   have q2:=hcell 2 _ rfl
   simp only [Nat.add_zero] at q0
   clear hcell hS hv hO hL e2 e3 e4 e5
   go_upto_region 5 with fail
   clear q0 q1 q2
   obtain ⟨W2,hW_,hb2,BV⟩:=al1 wr 70 #[.int .i64 (kN:Int),.int .i64 (nN:Int),.string s]
   rw [<-hW_]
   clear hW_
   obtain ⟨gv,hgv⟩:∃ g,wr.heap.size=g:=⟨_,rfl⟩
   rw [hgv] at BV ⊢
   clear hgv
   have HW2:=zh ((HW.out.tr hb2))
   have HB1:=zh (qdr L kN A' L.length c' W2 (HO.out.ext hb2).by (by have:=HLL.out;omega) (by omega))
   have qv:=BV.three (zb _ _)
   clear hb2 HW HO
   go_wp2_with fail
   refine HB1.out.mono ?_
   rintro e w3 ⟨A3,c3,rfl,ho3,hb3⟩
   have HO3:=zh (show Ob w3 w.heap.size A3 c3 (L++[b8 kN]) from qat ho3 HW2.out.size)
   have HW3:=zh ((HW2.out.tr hb3))
   have BV3:=BV.ext hb3
   clear ho3 hb3 qv BV HB1 HW2
   have qv:=BV3.three (zb _ _)
   obtain ⟨m3,hm3⟩:∃ m,(L++[b8 kN]).length=m:=⟨_,rfl⟩
   have HM3:=zh hm3
   rw [hm3]
   clear hm3
   have hk4:kN=0\/kN=1\/kN=2\/kN=3:=by omega
   rcases hk4 with rfl|rfl|rfl|rfl
   ·go_wp2
    go_roundw
    case rel=>exact ⟨k+1,A3,c3,m3,rfl,by go_num,by omega,zh (by rw [HLK.out];exact ⟨by rw [<-HM3.out];simp [valB],by simpa [valB] using HO3.out⟩),HW3⟩
    case measure=>simp [intOf];omega
   ·have HB2:=qdr (L++[b8 1]) nN A3 _ c3 w3 HO3.out.by (by have:=HLL.out;simp;omega) (by omega)
    rw [HM3.out] at HB2
    have HB2:=zh HB2
    clear BV3
    go_wp2_with fail
    refine HB2.out.mono ?_
    rintro e w4 ⟨A4,c4,rfl,ho4,hb4⟩
    have HO4:=zh (show Ob w4 w.heap.size A4 c4 (L++[b8 1]++[b8 nN]) from qat ho4 HW3.out.size)
    have HW4:=zh ((HW3.out.tr hb4))
    obtain ⟨m4,hm4⟩:∃ m,(L++[b8 1]++[b8 nN]).length=m:=⟨_,rfl⟩
    have HM4:=zh hm4
    rw [hm4]
    clear hm4 ho4 hb4 qv HB2
    go_wp2
    go_roundw
    case rel =>
     have e:L++valB (((1:Nat):Int),(nN:Int),s)=L++[b8 1]++[b8 nN]:=by simp [valB]
     exact ⟨k+1,A4,c4,m4,rfl,by go_num,by omega,zh (by rw [HLK.out,e];exact ⟨HM4.out.symm,HO4.out⟩),HW4⟩
    case measure=>simp [intOf];omega
   ·have HB2:=int_ (L++[b8 2]) nN A3 _ c3 w3 HO3.out.by (by have:=HLL.out;simp;omega) (by omega)
    rw [HM3.out] at HB2
    have HB2:=zh HB2
    clear BV3
    go_wp2_with fail
    refine HB2.out.mono ?_
    rintro e w4 ⟨A4,c4,rfl,ho4,hb4⟩
    have HO4:=zh (show Ob w4 w.heap.size A4 c4 (L++[b8 2]++le 8 nN) from qat ho4 HW3.out.size)
    have HW4:=zh ((HW3.out.tr hb4))
    obtain ⟨m4,hm4⟩:∃ m,(L++[b8 2]++le 8 nN).length=m:=⟨_,rfl⟩
    have HM4:=zh hm4
    rw [hm4]
    clear hm4 ho4 hb4 qv HB2
    go_wp2
    go_roundw
    case rel =>
     have e:L++valB (((2:Nat):Int),(nN:Int),s)=L++[b8 2]++le 8 nN:=by simp [valB]
     exact ⟨k+1,A4,c4,m4,rfl,by go_num,by omega,zh (by rw [HLK.out,e];exact ⟨HM4.out.symm,HO4.out⟩),HW4⟩
    case measure=>simp [intOf];omega
   ·have HB2:=qgr (L++[b8 3]) s A3 _ c3 w3 HO3.out.by (by have:=HLL.out;simp;omega) (by omega)
    rw [HM3.out] at HB2
    have HB2:=zh HB2
    clear BV3
    go_wp2_with fail
    refine HB2.out.mono ?_
    rintro e w4 ⟨A4,c4,rfl,ho4,hb4⟩
    have HO4:=zh (show Ob w4 w.heap.size A4 c4 (L++[b8 3]++le 2 s.size++s.data.toList) from qat ho4 HW3.out.size)
    have HW4:=zh ((HW3.out.tr hb4))
    obtain ⟨m4,hm4⟩:∃ m,(L++[b8 3]++le 2 s.size++s.data.toList).length=m:=⟨_,rfl⟩
    have HM4:=zh hm4
    rw [hm4]
    clear hm4 ho4 hb4 qv HB2
    go_wp2
    go_roundw
    case rel =>
     have e:L++valB (((3:Nat):Int),(nN:Int),s)=L++[b8 3]++le 2 s.size++s.data.toList:=by simp [valB]
     exact ⟨k+1,A4,c4,m4,rfl,by go_num,by omega,zh (by rw [HLK.out,e];exact ⟨HM4.out.symm,HO4.out⟩),HW4⟩
    case measure=>simp [intOf];omega
  ·obtain rfl:k=n:=by omega
   have hd:decide ((k:Int)<(k:Int))=false:=by simp
   obtain ⟨hm0,hO⟩:=HO.out
   have hxk:x.length=k:=HL.out
   subst hxk
   rw [List.take_length] at hm0 hO
   have HO9:=zh (za hm0 hO)
   clear hm0 hO HO
   go_wp2
   go_ret
   exact ⟨A',c',by rw [HO9.out.1];rfl,HO9.out.2,HW.out⟩
def qdy (b:Bool):Nat:=if b then 1 else 0
def colB (c:ColD):List UInt8:=le 2 c.1.size++c.1.data.toList++[b8 c.2.1.toNat]++[b8 (qdy c.2.2)]
def schB (s:Sch):List UInt8:=le 2 s.1.size++s.1.data.toList++[b8 s.2.1.length]++s.2.1.flatMap colB++le 8 s.2.2.1.toNat++[b8 (qdy s.2.2.2)]
structure OkS (s:Sch):Prop where
 nm:s.1.size<=100
 few:s.2.1.length<=100
 col:∀ c∈s.2.1,c.1.size<=100/\0<=c.2.1/\c.2.1<1000
 k0:0<=s.2.2.1
 k1:s.2.2.1<1000
theorem colB_len (c:ColD) (h:c.1.size<=100):(colB c).length<=104:=by
 simp [colB,le]
 omega
theorem qld:∀ (l:List ColD),(∀ c∈l,c.1.size<=100)->(l.flatMap colB).length<=l.length * 104
 | [],_=>by simp
 | v::l,h=>by
  have ih:=qld l (fun v hv=>h v (List.mem_cons_of_mem _ hv))
  have:=colB_len v (h v (List.mem_cons_self ..))
  rw [List.flatMap_cons,List.length_append,List.length_cons]
  omega
theorem qlc (s:Sch) (h:OkS s):(schB s).length<=11000:=by
 have h1:=qld s.2.1 (fun c hc=>(h.col c hc).1)
 have h2:=h.few
 have h3:=h.nm
 simp only [schB,List.length_append,qax,List.length_singleton,Array.length_toList]
 have h4:s.1.data.size=s.1.size:=rfl
 omega
theorem sflag_ (b:Bool) (w:World):Calls Tryz.prog 172 #[.bool b] w fun e w'=>e=.returned (.int .i64 (qdy b:Nat))/\w=w':=by
 cases b
 ·go_enter Tryz.func172,Tryz.ntmps172
  go_wp2
  go_ret
  exact ⟨rfl,rfl⟩
 ·go_enter Tryz.func172,Tryz.ntmps172
  go_wp2
  go_ret
  exact ⟨rfl,rfl⟩
theorem Ob.byN (h:Ob w B A c l) (hl:l.length=m):By w A m c l:=hl ▸ h.by
theorem schbytes_ {x:Sch} (h:eSch.rel w F cs x) (hok:OkS x):Calls Tryz.prog 100 #[.agg cs.toArray] w (OwnB (schB x) w):=by
 obtain ⟨A,n,c,rfl,hc⟩:=qli h
 have HS:=zh hc
 have HL:=zh hc.len
 have HOK:=zh hok
 obtain ⟨nm,cols,key,only⟩:=x
 have hk0:=hok.k0
 have hk1:=hok.k1
 have hnb:n<=100:=by have:=hc.len;have:=hok.few;omega
 obtain ⟨kN,rfl⟩:∃ q:Nat,key=(q:Int):=⟨key.toNat,by simp only at hk0;omega⟩
 simp only at hk0 hk1 ⊢
 clear h hc hok
 go_enter Tryz.func100,Tryz.ntmps100
 go_upto_region 1 with fail
 obtain ⟨W,hW_,hb1,BS⟩:=al1 w 66 #[.string nm,.slice A n c,.int .i64 (kN:Int),.bool only]
 rw [<-hW_]
 clear hW_
 obtain ⟨gs,hgs⟩:∃ g,w.heap.size=g:=⟨_,rfl⟩
 have hwg:gs<W.heap.size:=by rw [<-hgs];exact BS.lt
 rw [hgs] at BS ⊢
 have HWG:=zh hgs
 clear hgs
 have HBS:=zh BS
 have HW1:=zh hb1
 have D:=fun w' (h:Below W.heap.size W.drew w')=>four BS (zt (zb _ _).drew h)
 refine r2 (S:=fun w'=>Below W.heap.size W.drew w') [(0,true),(1,true),(3,true),(4,true),(5,true),(2,false),(6,false),(7,true)] (zb _ _) ?_
 repeat ((first|refine pT ?_|refine pF ?_);try go_frame)
 have HT:=zh (qgr [] nm none 0 0 W.drew (By.nil _) (by omega) (by have:=HOK.out.nm;simp only at this;omega))
 refine pD fun K hK=>?_;go_simp
 refine HT.out.mono ?_
 rintro e w2 ⟨A2,c2,rfl,ho2,hb2⟩
 have HO2:=zh (show Ob w2 w.heap.size A2 c2 ([]++le 2 nm.size++nm.data.toList) from qat ho2 (by have:=HW1.out.size;exact this))
 obtain ⟨m2,hm2⟩:∃ m,([]++le 2 nm.size++nm.data.toList).length=m:=⟨_,rfl⟩
 have HM2:=zh hm2
 rw [hm2]
 clear hm2
 refine hK.out _ _ hb2 ?_
 clear hK K HT ho2
 obtain ⟨L2,hL2⟩:∃ L,L=[]++le 2 nm.size++nm.data.toList:=⟨_,rfl⟩
 rw [<-hL2] at HO2 HM2
 have HL2:=zh (show L2.length<=102/\L2=le 2 nm.size++nm.data.toList from ⟨by rw [hL2];have:=HOK.out.nm;simp only at this;have h4:nm.data.size=nm.size:=rfl;simp [le];omega,by rw [hL2];rfl⟩)
 clear hL2
 have HT:=zh (qdr L2 n A2 m2 c2 w2 (HO2.out.byN HM2.out) (by have:=HL2.out.1;have:=HM2.out;omega) (by omega))
 refine pD fun K hK=>?_;go_simp
 refine HT.out.mono ?_
 rintro e w3 ⟨A3,c3,rfl,ho3,hb3⟩
 have hd3:=(hb2.tr hb3)
 have hbw3:=hb1.trans (zm ((zb W.heap.size W).drew.trans hd3) hb1.size)
 have HO3:=zh (show Ob w3 w.heap.size A3 c3 (L2++[b8 n]) from qat ho3 (by have:=HW1.out.size;have h5:W.heap.size<=w2.heap.size:=hb2.size;omega))
 obtain ⟨m3,hm3⟩:∃ m,(L2++[b8 n]).length=m:=⟨_,rfl⟩
 have HM3:=zh hm3
 rw [hm3]
 clear hm3
 refine hK.out _ _ hd3 ?_
 clear hK K HT ho3 HO2 D BS hb1 hb2 hb3
 repeat ((first|refine pT ?_|refine pF ?_);try go_frame)
 refine qad ?_
 have HBS3:=zh (HBS.out.ext ((zb W.heap.size W).drew.trans hd3))
 have HW3:=zh hbw3
 have hs3:W.heap.size<=w3.heap.size:=hd3.size
 clear hbw3 hd3 HBS HW1
 have qs:=four HBS3.out (zb _ _)
 go_wp2_with fail
 clear qs
 go_loopw [3,16] (fun b i wr=>∃ (k:Nat) (A':Option Addr) (c' m:Nat),b=.slice A' m c'/\i=.int .i64 k/\k<=n/\Hid (m=(L2++[b8 n]++(cols.take k).flatMap colB).length/\Ob wr w.heap.size A' c' (L2++[b8 n]++(cols.take k).flatMap colB))/\Hid (Below w.heap.size w wr/\Blk wr gs 66 #[.string nm,.slice A n c,.int .i64 (kN:Int),.bool only])) (fun _ i _=>n - (intOf i).toNat)
 case atStart=>exact ⟨0,A3,c3,m3,rfl,rfl,Nat.zero_le _,zh ⟨by rw [<-HM3.out];simp,by simpa using HO3.out⟩,zh ⟨HW3.out,HBS3.out⟩⟩
 case round =>
  clear HO3 HW3 HBS3
  obtain ⟨k,A',c',m,rfl,rfl,hk,HO,HW⟩:=hrel
  obtain ⟨L,hL⟩:∃ L,L=L2++[b8 n]++(cols.take k).flatMap colB:=⟨_,rfl⟩
  have HLL:=zh (show L.length<=11000 from by
   have h1:=qld (cols.take k) (fun v hv=>(HOK.out.col v (List.mem_of_mem_take hv)).1)
   have h2:(cols.take k).length<=100:=by rw [List.length_take];omega
   have h3:=HL2.out.1
   rw [hL,List.length_append,List.length_append,List.length_singleton]
   omega)
  rcases Nat.lt_or_ge k n with hlt|hge
  ·have hd:decide ((k:Int)<(n:Int))=true:=by simp;omega
   have hkn:(k:Int)<(n:Int):=by omega
   obtain ⟨v,hv⟩:∃ v,cols[k]? = some v:=⟨_,List.getElem?_eq_getElem (by have h:cols.length=n:=HL.out;omega)⟩
   have hvk:=HOK.out.col v (List.mem_of_getElem? hv)
   have HLK:=zh (show L2++[b8 n]++(cols.take (k+1)).flatMap colB=L++colB v from by rw [qda hv,List.flatMap_append,hL];simp)
   obtain ⟨hm0,hO⟩:=HO.out
   rw [<-hL] at hm0 hO
   subst hm0
   have HO:=zh hO
   obtain ⟨b0,off,rfl,_,_,_⟩:=HS.out.some_ (by omega)
   have hS:=HS.out.ext HW.out.1
   obtain ⟨cs,hcs,hcell⟩:=hS.at_ hv
   obtain ⟨cn,kd,nul⟩:=v
   obtain ⟨hsz,hk0',hk1'⟩:=hvk
   simp only at hsz hk0' hk1'
   obtain ⟨dN,rfl⟩:∃ q:Nat,kd=(q:Int):=⟨kd.toNat,by omega⟩
   obtain ⟨_,_,e1,e2,_,_,e3,e4,e5⟩:=hcs
   rw [e2,e3,e4,e5] at e1
   subst e1
   simp only [show eCol.k=3 from rfl] at hcell
   have q0:=hcell 0 _ rfl
   have q1:=hcell 1 _ rfl
   have q2:=hcell 2 _ rfl
   simp only [Nat.add_zero] at q0
   clear hcell hS hv hO hL e2 e3 e4 e5
   go_upto_region 5 with fail
   clear q0 q1 q2
   obtain ⟨W2,hW_,hb2,BV⟩:=al1 wr 63 #[.string cn,.int .i64 (dN:Int),.bool nul]
   rw [<-hW_]
   clear hW_
   obtain ⟨gv,hgv⟩:∃ g,wr.heap.size=g:=⟨_,rfl⟩
   rw [hgv] at BV ⊢
   clear hgv
   have HW2:=zh (za ((HW.out.1.tr hb2)) (HW.out.2.ext hb2))
   have HOx:=zh (HO.out.ext hb2)
   clear hb2 HW HO
   have D:=fun w' (h:Below W2.heap.size W2.drew w')=>BV.three (zt (zb _ _).drew h)
   refine r2 (S:=fun w'=>Below W2.heap.size W2.drew w') [(0,true),(1,true),(2,true),(4,true),(5,true),(7,true),(8,true),(3,false),(6,false),(9,false),(10,false),(11,true)] (zb _ _) ?_
   repeat ((first|refine pT ?_|refine pF ?_);try go_frame)
   have HT:=zh (qgr L cn A' L.length c' W2.drew (HOx.out.ext (zb _ _).drew).by (by have:=HLL.out;omega) (by omega))
   refine pD fun K hK=>?_;go_simp
   refine HT.out.mono ?_
   rintro e w4 ⟨A4,c4,rfl,ho4,hb4⟩
   have HO4:=zh (show Ob w4 w.heap.size A4 c4 (L++le 2 cn.size++cn.data.toList) from qat ho4 HW2.out.1.size)
   obtain ⟨m4,hm4⟩:∃ m,(L++le 2 cn.size++cn.data.toList).length=m:=⟨_,rfl⟩
   have HM4:=zh hm4
   rw [hm4]
   clear hm4
   refine hK.out _ _ hb4 ?_
   clear hK K HT ho4
   have hcl:(L++le 2 cn.size++cn.data.toList).length<=12000:=by have h4:cn.data.size=cn.size:=rfl;have:=HLL.out;simp [le];omega
   have HT:=zh (qdr (L++le 2 cn.size++cn.data.toList) dN A4 m4 c4 w4 (HO4.out.byN HM4.out) (by have:=HM4.out;omega) (by omega))
   refine pD fun K hK=>?_;go_simp
   refine HT.out.mono ?_
   rintro e w5 ⟨A5,c5,rfl,ho5,hb5⟩
   have hs45:w.heap.size<=w4.heap.size:=Nat.le_trans HW2.out.1.size hb4.size
   have HO5:=zh (show Ob w5 w.heap.size A5 c5 (L++le 2 cn.size++cn.data.toList++[b8 dN]) from qat ho5 hs45)
   obtain ⟨m5,hm5⟩:∃ m,(L++le 2 cn.size++cn.data.toList++[b8 dN]).length=m:=⟨_,rfl⟩
   have HM5:=zh hm5
   rw [hm5]
   clear hm5
   have hd5:=(hb4.tr hb5)
   refine hK.out _ _ hd5 ?_
   clear hK K HT ho5
   refine pD fun K hK=>?_;go_simp
   refine (sflag_ nul w5).mono ?_
   rintro e w' ⟨rfl,rfl⟩
   refine hK.out _ _ hd5 ?_
   clear hK K
   have HT:=zh (qdr (L++le 2 cn.size++cn.data.toList++[b8 dN]) (qdy nul) A5 m5 c5 w5 (HO5.out.byN HM5.out) (by have:=HM5.out;rw [List.length_append,List.length_singleton] at this;omega) (by unfold qdy;split <;> omega))
   refine pD fun K hK=>?_;go_simp
   refine HT.out.mono ?_
   rintro e w6 ⟨A6,c6,rfl,ho6,hb6⟩
   have hs56:w.heap.size<=w5.heap.size:=Nat.le_trans hs45 hb5.size
   have HO6:=zh (show Ob w6 w.heap.size A6 c6 (L++le 2 cn.size++cn.data.toList++[b8 dN]++[b8 (qdy nul)]) from qat ho6 hs56)
   obtain ⟨m6,hm6⟩:∃ m,(L++le 2 cn.size++cn.data.toList++[b8 dN]++[b8 (qdy nul)]).length=m:=⟨_,rfl⟩
   have HM6:=zh hm6
   rw [hm6]
   clear hm6
   have hd6:=(hd5.tr hb6)
   refine hK.out _ _ hd6 ?_
   clear hK K HT ho6 D
   repeat ((first|refine pT ?_|refine pF ?_);try go_frame)
   refine qad ?_
   have hbb:=(zb W2.heap.size W2).drew.trans hd6
   have HW6:=zh (za ((HW2.out.1.tr hbb)) (HW2.out.2.ext hbb))
   clear hb4 hb5 hb6 hd5 hd6 hbb HW2 HO4 HO5 HOx BV hcl
   go_wp2
   go_roundw
   case rel =>
    have e:L++colB (cn,(dN:Int),nul)=L++le 2 cn.size++cn.data.toList++[b8 dN]++[b8 (qdy nul)]:=by simp [colB]
    exact ⟨k+1,A6,c6,m6,rfl,by go_num,by omega,zh (by rw [HLK.out,e];exact ⟨HM6.out.symm,HO6.out⟩),HW6⟩
   case measure=>simp [intOf];omega
  ·obtain rfl:k=n:=by omega
   have hd:decide ((k:Int)<(k:Int))=false:=by simp
   obtain ⟨hm0,hO⟩:=HO.out
   rw [<-hL] at hm0 hO
   subst hm0
   have HO:=zh hO
   have HLE:=zh hL
   clear hL hO
   go_wp2_with fail
   have D:=fun w' (h:Below wr.heap.size wr.drew w')=>four HW.out.2 (zt (zb _ _).drew h)
   refine r2 (S:=fun w'=>Below wr.heap.size wr.drew w') [(0,true),(1,true),(2,true),(4,true),(5,true),(3,false),(6,false),(7,false),(8,true)] (zb _ _) ?_
   repeat ((first|refine pT ?_|refine pF ?_);try go_frame)
   have HT:=zh (int_ L kN A' L.length c' wr.drew (HO.out.ext (zb _ _).drew).by (by have:=HLL.out;omega) (by omega))
   refine pD fun K hK=>?_;go_simp
   refine HT.out.mono ?_
   rintro e w4 ⟨A4,c4,rfl,ho4,hb4⟩
   have HO4:=zh (show Ob w4 w.heap.size A4 c4 (L++le 8 kN) from qat ho4 HW.out.1.size)
   obtain ⟨m4,hm4⟩:∃ m,(L++le 8 kN).length=m:=⟨_,rfl⟩
   have HM4:=zh hm4
   rw [hm4]
   clear hm4
   refine hK.out _ _ hb4 ?_
   clear hK K HT ho4
   refine pD fun K hK=>?_;go_simp
   refine (sflag_ only w4).mono ?_
   rintro e w' ⟨rfl,rfl⟩
   refine hK.out _ _ hb4 ?_
   clear hK K
   have HT:=zh (qdr (L++le 8 kN) (qdy only) A4 m4 c4 w4 (HO4.out.byN HM4.out) (by have:=HLL.out;have:=HM4.out;rw [List.length_append,qax] at this;omega) (by unfold qdy;split <;> omega))
   refine pD fun K hK=>?_;go_simp
   refine HT.out.mono ?_
   rintro e w5 ⟨A5,c5,rfl,ho5,hb5⟩
   have hs45:w.heap.size<=w4.heap.size:=Nat.le_trans HW.out.1.size hb4.size
   have HO5:=zh (show Ob w5 w.heap.size A5 c5 (L++le 8 kN++[b8 (qdy only)]) from qat ho5 hs45)
   obtain ⟨m5,hm5⟩:∃ m,(L++le 8 kN++[b8 (qdy only)]).length=m:=⟨_,rfl⟩
   have HM5:=zh hm5
   rw [hm5]
   clear hm5
   have hd5:=(hb4.tr hb5)
   refine hK.out _ _ hd5 ?_
   clear hK K HT ho5 D
   repeat ((first|refine pT ?_|refine pF ?_);try go_frame)
   refine qad ?_
   have hbb:=(zb wr.heap.size wr).drew.trans hd5
   have HW6:=zh ((HW.out.1.tr hbb))
   have hck:cols.length=k:=HL.out
   have HE:=zh (show schB (nm,cols,(kN:Int),only)=L++le 8 kN++[b8 (qdy only)] from by
    rw [HLE.out,<-hck,List.take_length,HL2.out.2]
    simp [schB])
   clear hck hb4 hb5 hd5 hbb
   go_wp2
   go_ret
   rw [HE.out]
   exact ⟨A5,c5,by rw [HM5.out];rfl,HO5.out,HW6.out⟩
theorem leaf_ (h:By w A n c l) (hn:n<=300000):Calls Tryz.prog 186 #[.slice A n c] w fun e w'=>e=.returned (.agg (qaa (shaL (0::l))).toArray)/\Below w.heap.size w w':=by
 have HB:=zh h
 clear h
 have hz:=qcn
 go_enter Tryz.func186,Tryz.ntmps186
 go_upto_region 1 with fail
 have hb1:Below w.heap.size w (w.alloc (.cells (qaa h0).toArray 76)):=(zb _ _).alloc (zl _) _
 have BR:=Blk.new w 76 (qaa h0).toArray
 generalize w.alloc (.cells (qaa h0).toArray 76)=w1 at *
 obtain ⟨gr,hgr0⟩:∃ g,w.heap.size=g:=⟨_,rfl⟩
 have hgrw:w.heap.size<=gr:=by omega
 rw [hgr0] at BR ⊢
 clear hgr0
 go_wp2_with fail
 obtain ⟨W,hW_,hb2,B1,B2⟩:=al2 w1 5 151 #[.int .u8 0] #[.slice (some ⟨w1.heap.size,0,none⟩) 1 1,.slice A n c]
 rw [<-hW_]
 clear hW_
 have hbw2:=(hb1.tr hb2)
 have BR2:=BR.ext hb2
 have hps:=qgy B2 (By.blk (l:=[0]) B1 rfl 1 1 rfl (zl _)) (HB.out.ext hbw2)
 have HS:=zh (sumOf_ W _ (0::l) _ 2 rfl B2.lt hps (by simp [sumN,HB.out.2];omega) (by simp [allC,qaa]) (by simp [HB.out.2];omega) (by omega))
 clear hps B1 B2 hb2 hb1 BR
 refine HS.out.mono ?_
 rintro e w3 ⟨rfl,hb3⟩
 have BR3:=BR2.ext hb3
 have hbw3:=(hbw2.tr hb3)
 clear HS hb3 hbw2 BR2
 obtain ⟨H,hH⟩:∃ H,shaL (0::l)=H:=⟨_,rfl⟩
 have hHl:H.length=32:=by rw [<-hH];exact qbh _
 have HH9:=zh hH
 rw [hH]
 clear hH
 have hsz9:=qbq H hHl
 have hth9:=Blk.there (o:=0) (n:=32) BR3 (by rw [lenB,qaf];omega)
 obtain ⟨B9,hg9⟩:=Blk.lay (qaa H) 0 BR3 (by rw [lenB,lenB,qaf,hHl];omega)
 rw [qai _ _ (by rw [lenB,lenB,qaf,hHl])] at B9
 have hbw9:=(hbw3.gw hg9)
 go_wp2_with ((with_reducible refine sS 2 ?_);(refine wpList_store_mid rfl 76 _ _ rfl gr 0 (qaa H).toArray rfl rfl ?h1 ?h2 (all_oneCell_toArray (oneB _)) ?_))
 case h1=>exact (show (qaa H).toArray.size=32 by simp [lenB,hHl]) ▸ hth9
 case h2=>exact (show (qaa H).toArray.size=(qaa H).length by simp) ▸ hsz9
 clear hth9 hg9 BR3
 generalize w3.setCells gr 0 (qaa H)=w9 at *
 go_wp2
 exact bodyPost_ret (v:=.agg (qaa H).toArray) (results_cell_row rfl _ _ gr _ _ (0,0) _ rfl B9 Tryz.underlying76 rfl (by rw [List.size_toArray];exact hsz9)) rfl ⟨by rw [HH9.out],hbw9⟩
theorem qlr {h:List UInt8} (hl:h.length=32) (hc:w.rangeAt b off (qaa h)) (hbl:b<w.heap.size) (hcc:1<=c):Calls Tryz.prog 131 #[.slice (some ⟨b,off,none⟩) 1 c] w fun e w'=>e=.returned (.agg (qaa h).toArray)/\Below w.heap.size w w':=by
 have HC:=zh hc
 clear hc
 have hz:=qcn
 have hszh:=qbq h hl
 go_enter Tryz.func131,Tryz.ntmps131
 go_upto_region 1 with fail
 have hb1:Below w.heap.size w (w.alloc (.cells (qaa h0).toArray 76)):=(zb _ _).alloc (zl _) _
 have BR:=Blk.new w 76 (qaa h0).toArray
 generalize w.alloc (.cells (qaa h0).toArray 76)=w1 at *
 obtain ⟨gr,hgr0⟩:∃ g,w.heap.size=g:=⟨_,rfl⟩
 have hgrw:w.heap.size<=gr:=by omega
 rw [hgr0] at BR ⊢
 clear hgr0
 have hrg:w1.rangeAt b off (qaa h):=fun j u hu=>(hb1.cell (p:=⟨b,off+j,none⟩) hbl).trans (HC.out j u hu)
 have HRG:=zh hrg
 clear hrg
 go_upto_region 5 with fail
 have hsz9:=qbq h hl
 have hth9:=Blk.there (o:=0) (n:=32) BR (by rw [lenB,qaf];omega)
 obtain ⟨B9,hg9⟩:=Blk.lay (qaa h) 0 BR (by rw [lenB,lenB,qaf,hl];omega)
 rw [qai _ _ (by rw [lenB,lenB,qaf,hl])] at B9
 have hbw9:=(hb1.gw hg9)
 go_wp2_with (first|((with_reducible refine sT 13 ?_);(refine wpList_load_mid rfl 76 _ rfl b off rfl (qaa h) _ HRG.out Tryz.underlying76 rfl hszh ?_)) |
  ((with_reducible refine sS 2 ?_);(refine wpList_store_mid rfl 76 _ _ rfl gr 0 (qaa h).toArray rfl rfl ?h1 ?h2 (all_oneCell_toArray (oneB _)) ?_)))
 case h1=>exact (show (qaa h).toArray.size=32 by simp [lenB,hl]) ▸ hth9
 case h2=>exact (show (qaa h).toArray.size=(qaa h).length by simp) ▸ hsz9
 clear hth9 hg9 BR HRG
 generalize w1.setCells gr 0 (qaa h)=w9 at *
 go_wp2
 exact bodyPost_ret (v:=.agg (qaa h).toArray) (results_cell_row rfl _ _ gr _ _ (0,0) _ rfl B9 Tryz.underlying76 rfl (by rw [List.size_toArray];exact hsz9)) rfl ⟨rfl,hbw9⟩
theorem ints1_ {a:Nat} (hg:Blk w g 3 #[.int .i64 (a:Int)]) (ha:a<9223372036854775808):Calls Tryz.prog 185 #[.slice none 0 0,.slice (some ⟨g,0,none⟩) 1 1] w (OwnB (le 8 a) w):=by
 have HB1:=zh (int_ [] a none 0 0 w (By.nil _) (by omega) ha)
 have q0:=hg.cell 0
 go_enter Tryz.func185,Tryz.ntmps185
 go_wp2_with fail
 refine wp_loop_rounds 2 ?_
 rw [rounds_succ]
 go_wp2_with fail
 refine HB1.out.mono ?_
 rintro e w1 ⟨A1,c1,rfl,ho1,hb1⟩
 obtain ⟨m1,hm1⟩:∃ m,([]++le 8 a).length=m:=⟨_,rfl⟩
 have HM1:=zh hm1
 rw [hm1]
 have HO1:=zh (show Ob w1 w.heap.size A1 c1 ([]++le 8 a) from ho1)
 clear hm1 ho1 HB1 q0
 go_wp2_with fail
 rw [rounds_succ]
 go_wp2
 go_ret
 exact ⟨A1,c1,by rw [show le 8 a=[]++le 8 a from rfl,HM1.out];rfl,HO1.out,hb1⟩
theorem ints2_ {a:Nat} (hg:Blk w g 3 #[.int .i64 (a:Int),.int .i64 (b:Int)]) (ha:a<9223372036854775808) (hb:b<9223372036854775808):Calls Tryz.prog 185 #[.slice none 0 0,.slice (some ⟨g,0,none⟩) 2 2] w (OwnB (le 8 a++le 8 b) w):=by
 have HB1:=zh (int_ [] a none 0 0 w (By.nil _) (by omega) ha)
 have q0:=hg.cell 0
 have q1:=hg.cell 1
 go_enter Tryz.func185,Tryz.ntmps185
 go_wp2_with fail
 refine wp_loop_rounds 3 ?_
 rw [rounds_succ]
 go_wp2_with fail
 refine HB1.out.mono ?_
 rintro e w1 ⟨A1,c1,rfl,ho1,hb1⟩
 obtain ⟨m1,hm1⟩:∃ m,([]++le 8 a).length=m:=⟨_,rfl⟩
 have HM1:=zh hm1
 rw [hm1]
 have HO1:=zh (show Ob w1 w.heap.size A1 c1 ([]++le 8 a) from ho1)
 clear hm1 ho1 HB1 q0 q1
 have hg1:=hg.ext hb1
 have q1:=hg1.cell 1
 have HB2:=zh (int_ ([]++le 8 a) b A1 m1 c1 w1 (HO1.out.byN HM1.out) (by rw [<-HM1.out];simp [le]) hb)
 go_wp2_with fail
 rw [rounds_succ]
 go_wp2_with fail
 refine HB2.out.mono ?_
 rintro e w2 ⟨A2,c2,rfl,ho2,hb2⟩
 obtain ⟨m2,hm2⟩:∃ m,([]++le 8 a++le 8 b).length=m:=⟨_,rfl⟩
 have HM2:=zh hm2
 rw [hm2]
 have HO2:=zh (show Ob w2 w.heap.size A2 c2 ([]++le 8 a++le 8 b) from qat ho2 hb1.size)
 have hbw2:=(hb1.tr hb2)
 clear hm2 ho2 HB2 q1
 go_wp2_with fail
 rw [rounds_succ]
 go_wp2
 go_ret
 exact ⟨A2,c2,by rw [show le 8 a++le 8 b=[]++le 8 a++le 8 b from rfl,HM2.out];rfl,HO2.out,hbw2⟩
def txtB (s:List UInt8):List UInt8:=le 2 s.length++s
def rowT (tx seq:Nat) (c:Chg):List UInt8:=le 8 tx++le 8 seq++[b8 c.2.1.toNat]++txtB c.1.data.toList++txtB (rowB c.2.2)
def rowH (tx seq:Nat) (c:Chg):List UInt8:=shaL (0::rowT tx seq c)
structure OkC (c:Chg):Prop where
 nm:c.1.size<=100
 op0:0<=c.2.1
 op1:c.2.1<256
 row_:∀ v∈c.2.2,OkV v
 few:c.2.2.length<=1000
theorem qif (r:RowD) (h:∀ v∈r,OkV v) (hn:r.length<=1000):(rowB r).length<=63001:=by
 have:=qkp r h
 rw [rowB,List.length_append,List.length_singleton]
 omega
theorem rowT_len (tx seq:Nat) (c:Chg) (h:OkC c):(rowT tx seq c).length<=70000:=by
 have h1:=qif c.2.2 h.row_ h.few
 have h2:=h.nm
 have h4:c.1.data.size=c.1.size:=rfl
 simp only [rowT,txtB,List.length_append,qax,List.length_singleton,Array.length_toList]
 omega
theorem lrow_ {x:Chg} {tx seq:Nat} (h:eChg.rel w F cs x) (hok:OkC x) (htx:tx<9223372036854775808) (hseq:seq<9223372036854775808):
  Calls Tryz.prog 115 #[.int .i64 (tx:Int),.int .i64 (seq:Int),.agg cs.toArray] w fun e w'=>e=.returned (.agg (qaa (rowH tx seq x)).toArray)/\Below w.heap.size w w':=by
 obtain ⟨A,n,c,rfl,hr⟩:=qdh h
 have HR:=zh hr
 have HOK:=zh hok
 obtain ⟨nm,op,row⟩:=x
 have ho0:=hok.op0
 have ho1:=hok.op1
 have hnm:=hok.nm
 simp only at ho0 ho1 hnm hr ⊢
 have hnb:n<=1000:=by have h1:=hr.len;have h2:=hok.few;simp only at h2;omega
 obtain ⟨oN,rfl⟩:∃ q:Nat,op=(q:Int):=⟨op.toNat,by omega⟩
 have HRL:=zh (qif row hok.row_ hok.few)
 have hz:=qcn
 clear h hr hok
 go_enter Tryz.func115,Tryz.ntmps115
 go_upto_region 1 with fail
 obtain ⟨W,hW_,hb1,BC,BR⟩:=al2 w 126 76 #[.string nm,.int .i64 (oN:Int),.slice A n c] ((qaa h0).toArray)
 rw [<-hW_]
 clear hW_
 obtain ⟨gc,hgc⟩:∃ g,w.heap.size=g:=⟨_,rfl⟩
 obtain ⟨gr,hgr⟩:∃ g,w.heap.size+1=g:=⟨_,rfl⟩
 have hgrw:w.heap.size<=gr:=by omega
 rw [hgr] at BR ⊢
 rw [hgc] at BC ⊢
 clear hgc hgr
 have HBC:=zh BC
 have HBR:=zh BR
 have HW1:=zh hb1
 have D:=fun w' (h:Below W.heap.size W.drew w')=>BC.three (zt (zb _ _).drew h)
 refine r2 (S:=fun w'=>Below W.heap.size W.drew w') [(0,true),(1,true),(4,true),(5,true),(2,false),(3,false),(6,false),(7,true)] (zb _ _) ?_
 repeat ((first|refine pT ?_|refine pF ?_);try go_frame)
 refine pD fun K hK=>?_;go_simp
 obtain ⟨Wa,hWa⟩:∃ W',W'=(W.alloc (.cells #[.int .i64 (tx:Int),.int .i64 (seq:Int)] 3)).drew:=⟨_,rfl⟩
 have BI:Blk Wa W.heap.size 3 #[.int .i64 (tx:Int),.int .i64 (seq:Int)]:=by rw [hWa];exact Blk.new _ _ _
 have hda:Below W.heap.size W.drew Wa:=by rw [hWa];exact show Below W.heap.size W.drew (W.drew.alloc _) from (zb W.heap.size W.drew).alloc (zl _) _
 rw [<-hWa]
 clear hWa
 refine hK.out _ _ hda ?_
 clear hK K
 have HI:=zh (ints2_ BI htx hseq)
 refine pD fun K hK=>?_;go_simp
 refine HI.out.mono ?_
 rintro e w2 ⟨A2,c2,rfl,ho2,hb2⟩
 have HO2:=zh (show Ob w2 Wa.heap.size A2 c2 (le 8 tx++le 8 seq) from ho2)
 have hd2:=(hda.tr hb2)
 rw [show (le 8 tx++le 8 seq).length=16 by simp [le]]
 refine hK.out _ _ hd2 ?_
 clear hK K HI ho2 BI
 have HT:=qdr (le 8 tx++le 8 seq) oN A2 16 c2 w2 (HO2.out.byN (by simp [le])) (by omega) (by omega)
 have HT:=zh HT
 refine pD fun K hK=>?_;go_simp
 refine HT.out.mono ?_
 rintro e w3 ⟨A3,c3,rfl,ho3,hb3⟩
 have HO3:=zh (show Ob w3 w2.heap.size A3 c3 (le 8 tx++le 8 seq++[b8 oN]) from ho3)
 have hd3:=(hd2.tr hb3)
 rw [show (le 8 tx++le 8 seq++[b8 oN]).length=17 by simp [le]]
 refine hK.out _ _ hd3 ?_
 clear hK K HT ho3 HO2 D BC BR
 repeat ((first|refine pT ?_|refine pF ?_);try go_frame)
 refine qad ?_
 have hbb:=(zb W.heap.size W).drew.trans hd3
 have BC3:=HBC.out.ext hbb
 have HBR3:=zh (HBR.out.ext hbb)
 have hbw3:=(hb1.tr hbb)
 have HR3:=zh (HR.out.ext hbw3)
 have HW3:=zh hbw3
 clear hda hb2 hd2 hb3 hd3 hbb hb1 HBC HBR HW1 HR
 go_wp2_with fail
 have D:=fun w' (h:Below w3.heap.size w3.drew w')=>BC3.three (zt (zb _ _).drew h)
 refine r3 (S:=fun w'=>Below w3.heap.size w3.drew w') [(0,true),(1,true),(2,true),(4,true),(5,true),(3,false),(6,false),(7,false),(8,false),(9,false)] [(10,false)] (zb _ _) ?_
 repeat ((first|refine pT ?_|refine pF ?_);try go_frame)
 obtain ⟨L3,hL3⟩:∃ L,L=le 8 tx++le 8 seq++[b8 oN]:=⟨_,rfl⟩
 have HL3:=zh hL3
 have hl3:L3.length=17:=by rw [hL3];simp [le]
 rw [<-hL3] at HO3
 have HLL3:=zh hl3
 clear hL3 hl3
 have HT:=zh (qgr L3 nm A3 17 c3 w3.drew ((HO3.out.ext (zb _ _).drew).byN HLL3.out) (by omega) (by omega))
 refine pD fun K hK=>?_;go_simp
 refine HT.out.mono ?_
 rintro e w4 ⟨A4,c4,rfl,ho4,hb4⟩
 obtain ⟨L4,hL4⟩:∃ L,L=L3++le 2 nm.size++nm.data.toList:=⟨_,rfl⟩
 rw [<-hL4] at ho4 ⊢
 obtain ⟨m4,hm4⟩:∃ m,L4.length=m:=⟨_,rfl⟩
 have HL4:=zh (za hL4 hm4)
 have HO4:=zh (show Ob w4 w3.heap.size A4 c4 L4 from ho4)
 rw [hm4]
 have hm4b:m4<=200:=by rw [<-hm4,hL4];have h4:nm.data.size=nm.size:=rfl;have:=HLL3.out;simp [le];omega
 refine hK.out _ _ hb4 ?_
 clear hK K HT ho4 hL4 hm4
 have HB:=zh (qnf (HR3.out.ext ((zb w3.heap.size w3).drew.trans hb4)) HOK.out.row_ (by omega))
 refine pD fun K hK=>?_;go_simp
 refine HB.out.mono ?_
 rintro e w5 ⟨A5,c5,rfl,ho5,hb5⟩
 obtain ⟨rb,hrb⟩:∃ l,rowB row=l:=⟨_,rfl⟩
 have HRB:=zh hrb
 have hrl:=HRL.out
 rw [hrb] at ho5 hrl ⊢
 obtain ⟨m5,hm5⟩:∃ m,rb.length=m:=⟨_,rfl⟩
 have HM5:=zh hm5
 rw [hm5] at hrl
 have HO5:=zh (show Ob w5 w4.heap.size A5 c5 rb from ho5)
 rw [hm5]
 have hd5:=(hb4.tr hb5)
 refine hK.out _ _ hd5 ?_
 clear hK K HB ho5 hrb hm5
 have HCV:=qgl (HO5.out.byN HM5.out)
 refine pD fun K hK=>?_;go_simp
 refine hK.out _ _ hd5 ?_
 clear hK K HCV
 have HO45:=zh (HO4.out.ext hb5)
 have HT:=qgr L4 ⟨rb.toArray⟩ A4 m4 c4 w5 (HO45.out.byN HL4.out.2) (by omega) (by show rb.toArray.size<=65535;rw [List.size_toArray];have:=HM5.out;omega)
 have HT:=zh HT
 refine pD fun K hK=>?_;go_simp
 refine HT.out.mono ?_
 rintro e w6 ⟨A6,c6,rfl,ho6,hb6⟩
 have hd6:=(hd5.tr hb6)
 have e6:L4++le 2 (⟨rb.toArray⟩:ByteArray).size++(⟨rb.toArray⟩:ByteArray).data.toList=rowT tx seq (nm,(oN:Int),row):=by
  have h4:nm.data.size=nm.size:=rfl
  have h5:(⟨rb.toArray⟩:ByteArray).size=rb.length:=by show rb.toArray.size=_;rw [List.size_toArray]
  rw [h5,HL4.out.1,HL3.out,<-HRB.out]
  simp [rowT,txtB,h4]
 rw [e6] at ho6 ⊢
 obtain ⟨LT,hLT⟩:∃ L,rowT tx seq (nm,(oN:Int),row)=L:=⟨_,rfl⟩
 have HLT:=zh hLT
 have hltl:=rowT_len tx seq (nm,(oN:Int),row) HOK.out
 rw [hLT] at ho6 hltl ⊢
 obtain ⟨m6,hm6⟩:∃ m,LT.length=m:=⟨_,rfl⟩
 have HM6:=zh hm6
 have HO6:=zh (show Ob w6 w5.heap.size A6 c6 LT from ho6)
 rw [hm6] at hltl ⊢
 refine hK.out _ _ hd6 ?_
 clear hK K HT ho6 e6 hLT hm6
 have HF:=zh (leaf_ (HO6.out.byN HM6.out) (by omega))
 refine pD fun K hK=>?_;go_simp
 refine HF.out.mono ?_
 rintro e w7 ⟨rfl,hb7⟩
 have hd7:=(hd6.tr hb7)
 refine hK.out _ _ hd7 ?_
 clear hK K HF D
 refine qak ?_
 have hbb:=(zb w3.heap.size w3).drew.trans hd7
 have BR7:=HBR3.out.ext hbb
 have hbw7:=(HW3.out.tr hbb)
 clear hb4 hb5 hb6 hb7 hd5 hd6 hd7 hbb
 obtain ⟨H,hH⟩:∃ H,shaL (0::LT)=H:=⟨_,rfl⟩
 have hHl:H.length=32:=by rw [<-hH];exact qbh _
 have HH9:=zh hH
 rw [hH]
 clear hH
 have hsz9:=qbq H hHl
 have hth9:=Blk.there (o:=0) (n:=32) BR7 (by rw [lenB,qaf];omega)
 obtain ⟨B9,hg9⟩:=Blk.lay (qaa H) 0 BR7 (by rw [lenB,lenB,qaf,hHl];omega)
 rw [qai _ _ (by rw [lenB,lenB,qaf,hHl])] at B9
 have hbw9:=(hbw7.gw hg9)
 refine qaj rfl (qae rfl) (fun K hK=>?_)
 refine qao 76 (.tmp 6) (.tmp 24) rfl rfl gr 0 (qaa H) rfl rfl (by rw [lenB,hHl];exact hth9) hsz9 (oneB _) ?_
 refine hK.out _ _ trivial (qad ?_)
 clear hK K hth9 hg9 BR7
 generalize w7.setCells gr 0 (qaa H)=w9 at *
 go_wp2
 exact bodyPost_ret (v:=.agg (qaa H).toArray) (results_cell_row rfl _ _ gr _ _ (0,0) _ rfl B9 Tryz.underlying76 rfl (by rw [List.size_toArray];exact hsz9)) rfl ⟨by rw [<-HH9.out,<-HLT.out];rfl,hbw9⟩
abbrev TxD:=Int × List Chg
abbrev BlkD:=Int × List UInt8 × List UInt8 × Int
abbrev LedD:=Int × List TxD × List BlkD × List (List TxD)
def eHash:Enc (List UInt8):=⟨32,fun _ _ cs l=>cs=qaa l/\l.length=32,fun h=>by rw [h.1,lenB,h.2],fun h u hu=>by rw [h.1] at hu;exact oneB _ u hu,fun h _=>h,fun h _=>h⟩
def eTx:Enc TxD:=eInt.pair (eSl eChg)
def eBlk:Enc BlkD:=eInt.pair (eHash.pair (eHash.pair eInt))
def eLed:Enc LedD:=eInt.pair ((eSl eTx).pair ((eSl eBlk).pair (eSl (eSl eTx))))
theorem qfd {x:TxD} (h:eTx.rel w F cs x):∃ A n c,cs=[.int .i64 x.1,.slice A n c]/\Sl eChg w F A n c x.2:=by
 obtain ⟨_,_,rfl,rfl,A,n,c,rfl,h⟩:=h
 exact ⟨A,n,c,rfl,h⟩
theorem eTx_mk {x:TxD} (h:Sl eChg w F A n c x.2):eTx.rel w F [.int .i64 x.1,.slice A n c] x:=⟨[_],[_],rfl,rfl,A,n,c,rfl,h⟩
theorem qks {x:BlkD} (h:eBlk.rel w F cs x):cs=.int .i64 x.1::(qaa x.2.1++(qaa x.2.2.1++[.int .i64 x.2.2.2]))/\x.2.1.length=32/\x.2.2.1.length=32:=by
 obtain ⟨_,_,rfl,rfl,_,_,rfl,⟨rfl,h1⟩,_,_,rfl,⟨rfl,h2⟩,rfl⟩:=h
 exact ⟨rfl,h1,h2⟩
theorem eBlk_mk {x:BlkD} (h1:x.2.1.length=32) (h2:x.2.2.1.length=32):eBlk.rel w F (.int .i64 x.1::(qaa x.2.1++(qaa x.2.2.1++[.int .i64 x.2.2.2]))) x :=
 ⟨[_],_,rfl,rfl,_,_,rfl,⟨rfl,h1⟩,_,_,rfl,⟨rfl,h2⟩,rfl⟩
theorem qei {x:LedD} (h:eLed.rel w F cs x):∃ A n c A2 n2 c2 A3 n3 c3,cs=[.int .i64 x.1,.slice A n c,.slice A2 n2 c2,.slice A3 n3 c3]/\Sl eTx w F A n c x.2.1/\Sl eBlk w F A2 n2 c2 x.2.2.1/\Sl (eSl eTx) w F A3 n3 c3 x.2.2.2:=by
 obtain ⟨_,_,rfl,rfl,_,_,rfl,⟨A,n,c,rfl,h1⟩,_,_,rfl,⟨A2,n2,c2,rfl,h2⟩,⟨A3,n3,c3,rfl,h3⟩⟩:=h
 exact ⟨A,n,c,A2,n2,c2,A3,n3,c3,rfl,h1,h2,h3⟩
theorem qkc {x:LedD} (h1:Sl eTx w F A n c x.2.1) (h2:Sl eBlk w F A2 n2 c2 x.2.2.1) (h3:Sl (eSl eTx) w F A3 n3 c3 x.2.2.2):eLed.rel w F [.int .i64 x.1,.slice A n c,.slice A2 n2 c2,.slice A3 n3 c3] x :=
 ⟨[_],_,rfl,rfl,[_],_,rfl,⟨A,n,c,rfl,h1⟩,[_],_,rfl,⟨A2,n2,c2,rfl,h2⟩,⟨A3,n3,c3,rfl,h3⟩⟩
theorem flat_blk:Flat eBlk:=⟨by
 intro w F cs x h w' G
 obtain ⟨rfl,h1,h2⟩:=qks h
 exact eBlk_mk h1 h2⟩
theorem qia:Bnd eTx:=qbc qfz (qbk qhj)
theorem bnd_led:Bnd eLed:=qbc qfz (qbc (qbk qia) (qbc (qbk flat_blk.bnd) (qbk (qbk qia))))
theorem qkk (w:World) (B k:Nat) (t:TypeId):w.ownsRow B t k (.slice none 0 0) 0 []:=⟨by simp,.inl ⟨rfl,rfl⟩⟩
theorem lroot1_ {x:Chg} (h:eTx.rel w F cs ((id:Int),[x])) (hok:OkC x) (hid:id<9223372036854775808):
  Calls Tryz.prog 116 #[.agg cs.toArray] w fun e w'=>e=.returned (.agg (qaa (rowH id 0 x)).toArray)/\Below w.heap.size w w':=by
 obtain ⟨A,n,c,rfl,hs⟩:=qfd h
 have hn1:n=1:=hs.len.symm
 subst hn1
 obtain ⟨b,off,rfl,_,_,hbl⟩:=hs.some_ (by omega)
 have HS:=zh hs
 obtain ⟨i0,hi0,hy0,hy1,hy2⟩:=ip Tryz.prog 76 (.agg (qaa h0).toArray) 32 32
 have hz:=qcn
 have hzs:(Value.agg (qaa h0).toArray).cells.size=32:=by kernel_rfl
 clear h hs
 go_enter Tryz.func116,Tryz.ntmps116
 go_upto_region 1 with fail
 obtain ⟨W,hW_,hb1,BT,BR⟩:=al2 w 168 76 #[.int .i64 (id:Int),.slice (some ⟨b,off,none⟩) 1 c] ((qaa h0).toArray)
 rw [<-hW_]
 clear hW_
 obtain ⟨gt,hgt⟩:∃ g,w.heap.size=g:=⟨_,rfl⟩
 obtain ⟨gr,hgr⟩:∃ g,w.heap.size+1=g:=⟨_,rfl⟩
 have hgrw:w.heap.size<=gr:=by omega
 rw [hgr] at BR ⊢
 rw [hgt] at BT ⊢
 clear hgt hgr
 have qt0:=BT.cell 0
 have qt1:=BT.cell 1
 go_wp2_with fail
 refine wp_loop_rounds 2 ?_
 rw [rounds_succ]
 obtain ⟨cs0,hcs0,hcell0⟩:=(HS.out.ext hb1).at_ (show [x][0]? = some x from rfl)
 obtain ⟨A3,n3,c3,rfl,hr3⟩:=qdh hcs0
 simp only [show eChg.k=3 from rfl,Nat.zero_mul,Nat.add_zero] at hcell0
 have p0:=hcell0 0 _ rfl
 have p1:=hcell0 1 _ rfl
 have p2:=hcell0 2 _ rfl
 simp only [Nat.add_zero] at p0
 clear hcell0
 go_upto_region 5 with fail
 clear p0 p1 p2 qt0 qt1
 obtain ⟨W2,hW_,hb2,BC⟩:=al1 W 126 #[.string x.1,.int .i64 x.2.1,.slice A3 n3 c3]
 rw [<-hW_]
 clear hW_
 obtain ⟨gc,hgc⟩:∃ g,W.heap.size=g:=⟨_,rfl⟩
 rw [hgc] at BC ⊢
 clear hgc
 have BT2:=BT.ext hb2
 have BR2:=BR.ext hb2
 have hbw2:=(hb1.tr hb2)
 have HF:=zh (lrow_ (seq:=0) (eChg.ext hcs0 hb2) hok hid (by omega))
 have qt0:=BT2.cell 0
 have qc:=BC.three (zb _ _)
 clear hcs0 hr3 hb1 hb2 BT BR
 go_wp2_with fail
 refine HF.out.mono ?_
 rintro e w3 ⟨rfl,hb3⟩
 have BR3:=BR2.ext hb3
 have hbw3:=(hbw2.tr hb3)
 obtain ⟨H,hH⟩:∃ H,rowH id 0 x=H:=⟨_,rfl⟩
 have hHl:H.length=32:=by rw [<-hH];exact qbh _
 have HH:=zh hH
 rw [hH]
 clear hH HF qt0 qc BT2 BR2 hb3 hbw2 BC
 go_upto_region 6 with (first|((with_reducible refine sT 20 ?_);(refine wpList_plain rfl fun K hK=>?_);(refine qbs 20 178 76 (.tmp 19) rfl rfl (qaa H) rfl i0 _ Tryz.underlying178 hi0 hy0 (by rw [hy1,lenB,hHl]) (by rw [lenB,hHl];omega) (by rw [lenB,hHl];omega) ?_);(refine hK _ _ ?_)) |
  (at_builtin;(refine wpList_append_own _ rfl (.tmp 14) (.tmp 20) 178 rfl w3.heap.size 76 i0 _ 32 32 Tryz.underlying178 hi0 hy0 hy1 hy2 hzs (by decide) _ 0 _ rfl (qkk _ _ _ _) ⟨w3.heap.size,0,none⟩ 1 1 (qaa H) rfl ?a1 ?a2 ?a3 ?a4 ?a5 ?a6 ?_)))
 case a1=>rw [lenB,hHl]
 case a2=>exact (Row.of_blk (lo:=0) (Blk.new w3 76 (qaa H).toArray) (Nat.zero_le _) 1 1 (zl _)).src
 case a3=>exact oneB H
 case a4=>unfold maxLen;omega
 case a5=>omega
 case a6=>simp
 clear hi0 hy0 hy1 hy2 hzs i0
 intro v' w4 hown hgrow _
 obtain ⟨A4,c4,rfl⟩:=qan hown
 obtain ⟨g4,rfl,hg4lo,hg4hi⟩:=qcb hown (by omega)
 have hba:=(zb w3.heap.size w3).alloc (zl _) (.cells (qaa H).toArray 76)
 have hb4:=hba.grown hgrow hba.size (fun k hk=>by simp [Value.ownBlock] at hk)
 have hrow:=Row.of_own hown
 have HRG:=zh (show w4.rangeAt g4 0 (qaa H) from fun j u hu=>hrow.at_ hu)
 have hc4:1<=c4:=hrow.le_
 have BR4:=BR3.ext hb4
 have hbw4:=(hbw3.tr hb4)
 clear hown hgrow hba hb4 hrow BR3 hbw3
 go_wp2_with fail
 rw [rounds_succ]
 go_wp2_with fail
 have HF:=zh (qlr hHl HRG.out hg4hi hc4)
 refine HF.out.mono ?_
 rintro e w5 ⟨rfl,hb5⟩
 have BR5:=BR4.ext hb5
 have hbw5:=(hbw4.tr hb5)
 clear HF HRG hb5 hbw4 BR4
 have hsz9:=qbq H hHl
 have hth9:=Blk.there (o:=0) (n:=32) BR5 (by rw [lenB,qaf];omega)
 obtain ⟨B9,hg9⟩:=Blk.lay (qaa H) 0 BR5 (by rw [lenB,lenB,qaf,hHl];omega)
 rw [qai _ _ (by rw [lenB,lenB,qaf,hHl])] at B9
 have hbw9:=(hbw5.gw hg9)
 go_wp2_with ((with_reducible refine sS 2 ?_);(refine wpList_store_mid rfl 76 _ _ rfl gr 0 (qaa H).toArray rfl rfl ?h1 ?h2 (all_oneCell_toArray (oneB _)) ?_))
 case h1=>exact (show (qaa H).toArray.size=32 by simp [lenB,hHl]) ▸ hth9
 case h2=>exact (show (qaa H).toArray.size=(qaa H).length by simp) ▸ hsz9
 clear hth9 hg9 BR5
 generalize w5.setCells gr 0 (qaa H)=w9 at *
 go_wp2
 exact bodyPost_ret (v:=.agg (qaa H).toArray) (results_cell_row rfl _ _ gr _ _ (0,0) _ rfl B9 Tryz.underlying76 rfl (by rw [List.size_toArray];exact hsz9)) rfl ⟨by rw [HH.out],hbw9⟩
theorem two_ {t:TypeId} {x y:Value} (h:Blk w g t #[x,y]) (hb:Below w.heap.size w w'):w'.cell? ⟨g,0,none⟩=some x/\w'.cell? ⟨g,1,none⟩=some y :=
 ⟨(h.ext hb).cell 0,(h.ext hb).cell 1⟩
theorem qke {o:Oper} {a:Act} {K:Act->World->Prop} {Q:Exit->Act->World->Prop} (dd:Tmp) (s x:Operand) (hd:o.dst=some dd)
  (ho:o.op=.call { callee:=.builtin .append,args:=#[s,x],argTypes:=#[151,151] }) {B n c m c2 b off:Nat} {A:Option Addr} {l news:List UInt8} (hs:a.eval s=.slice A n c) (hl:l.length=n) (hown:Ob w B A c l)
  (hx:a.eval x=.slice (some ⟨b,off,none⟩) m c2) (hn:news.length=m) (hsrc:w.rangeAt b off (qaa news)) (hle:n+m<=500000) (hB:B<=w.heap.size)
  (h:∀ A' c' w',Ob w' B A' c' (l++news)->Below B w w'->K { a with tmps:=a.tmps.setIfInBounds dd (.slice A' (n+m) c') } w'):o.wp Tryz.prog a w K Q:=by
 obtain ⟨i0,hi,hy0,hy1,hy2⟩:=ip Tryz.prog 5 (.int .u8 0) 1 1
 subst hl
 refine qdo dd s x 151 hd ho B 5 i0 _ 1 1 Tryz.underlying151 hi hy0 hy1 hy2 rfl (by decide) _ l.length (qaa l) hs hown ⟨b,off,none⟩ m c2 (qaa news) hx (by rw [lenB,hn];omega) (fun j u hu=>by rw [Addr.add_lit];exact hsrc j u hu) (oneB _) (by unfold maxLen;omega) (by omega) hB ?_
 intro A' c' w' h1 h2
 refine h A' c' w' ?_ ((zb B w).grown h2 hB (fun k hk=>?_))
 ·show w'.ownsRow B _ 1 _ _ _
  rw [List.length_append,hn,qbu]
  exact h1
 ·exact (hown.lt k hk).1
def entT (id:Nat) (x:Chg):List UInt8:=le 8 id++le 8 1++rowH id 0 x
def entH (id:Nat) (x:Chg):List UInt8:=shaL (0::entT id x)
theorem entry_ {x:Chg} (h:eTx.rel w F cs ((id:Int),[x])) (hok:OkC x) (hid:id<9223372036854775808):
  Calls Tryz.prog 132 #[.agg cs.toArray] w fun e w'=>e=.returned (.agg (qaa (entH id x)).toArray)/\Below w.heap.size w w':=by
 have HX:=zh h
 obtain ⟨A,n,c,rfl,hs⟩:=qfd h
 have hn1:n=1:=hs.len.symm
 subst hn1
 have hz:=qcn
 clear h hs
 go_enter Tryz.func132,Tryz.ntmps132
 go_upto_region 1 with fail
 obtain ⟨W,hW_,hb1,BT,BR⟩:=al2 w 168 76 #[.int .i64 (id:Int),.slice A 1 c] ((qaa h0).toArray)
 rw [<-hW_]
 clear hW_
 obtain ⟨gt,hgt⟩:∃ g,w.heap.size=g:=⟨_,rfl⟩
 obtain ⟨gr,hgr⟩:∃ g,w.heap.size+1=g:=⟨_,rfl⟩
 have hgrw:w.heap.size<=gr:=by omega
 rw [hgr] at BR ⊢
 rw [hgt] at BT ⊢
 clear hgt hgr
 have HF:=zh (lroot1_ (eTx.ext HX.out hb1) hok hid)
 have D:=two_ BT (zb _ _)
 go_wp2_with fail
 refine HF.out.mono ?_
 rintro e w3 ⟨rfl,hb3⟩
 have BR3:=BR.ext hb3
 have BT3:=BT.ext hb3
 have hbw3:=(hb1.tr hb3)
 obtain ⟨H,hH⟩:∃ H,rowH id 0 x=H:=⟨_,rfl⟩
 have hHl:H.length=32:=by rw [<-hH];exact qbh _
 have HH:=zh hH
 rw [hH]
 clear hH HF D BT BR hb1 hb3 HX
 have hsz9:=qbq H hHl
 obtain ⟨Wq,hWq⟩:∃ W',W'=w3.alloc (.cells (qaa h0).toArray 76):=⟨_,rfl⟩
 have hbq:Below w3.heap.size w3 Wq:=by rw [hWq];exact (zb _ _).alloc (zl _) _
 have BQ0:Blk Wq w3.heap.size 76 (qaa h0).toArray:=by rw [hWq];exact Blk.new _ _ _
 have hthq:=Blk.there (o:=0) (n:=32) BQ0 (by rw [lenB,qaf];omega)
 obtain ⟨BQ,hgq⟩:=Blk.lay (qaa H) 0 BQ0 (by rw [lenB,lenB,qaf,hHl];omega)
 rw [qai _ _ (by rw [lenB,lenB,qaf,hHl])] at BQ
 have hbq5:=(hbq.gw hgq)
 have BR5:=BR3.ext hbq5
 have BT5:=BT3.ext hbq5
 have hbw5:=(hbw3.tr hbq5)
 go_upto_region 2 with ((with_reducible refine sS 3 ?_);(rw [<-hWq]);(refine wpList_store_mid rfl 76 _ _ rfl w3.heap.size 0 (qaa H).toArray rfl rfl ?h1 ?h2 (all_oneCell_toArray (oneB _)) ?_))
 case h1=>exact (show (qaa H).toArray.size=32 by simp [lenB,hHl]) ▸ hthq
 case h2=>exact (show (qaa H).toArray.size=(qaa H).length by simp) ▸ hsz9
 clear hthq hgq hbq hbq5 BQ0 BR3 BT3 hbw3 hsz9
 obtain ⟨gq,hgq⟩:∃ g,w3.heap.size=g:=⟨_,rfl⟩
 rw [hgq] at BQ BR5 BT5 hbw5 ⊢
 generalize Wq.setCells gq 0 (qaa H)=w5 at *
 clear hgq hWq
 have HBT:=zh BT5
 have HBR:=zh BR5
 have HBQ:=zh BQ
 have HW5:=zh hbw5
 have D:=fun w' (h:Below w5.heap.size w5.drew w')=>two_ BT5 (zt (zb _ _).drew h)
 clear BR5 BQ hbw5
 refine r3 (S:=fun w'=>Below w5.heap.size w5.drew w') [(0,true),(1,true),(2,true),(3,true),(4,true),(7,true),(5,false),(6,false),(8,false),(9,false)] [(10,false)] (zb _ _) ?_
 repeat ((first|refine pT ?_|refine pF ?_);try go_frame)
 refine pD fun K hK=>?_;go_simp
 obtain ⟨Wa,hWa⟩:∃ W',W'=(w5.alloc (.cells #[.int .i64 (id:Int),.int .i64 1] 3)).drew:=⟨_,rfl⟩
 have BI:Blk Wa w5.heap.size 3 #[.int .i64 (id:Int),.int .i64 ((1:Nat):Int)]:=by rw [hWa];exact Blk.new _ _ _
 have hda:Below w5.heap.size w5.drew Wa:=by rw [hWa];exact show Below w5.heap.size w5.drew (w5.drew.alloc _) from (zb w5.heap.size w5.drew).alloc (zl _) _
 rw [<-hWa]
 clear hWa
 refine hK.out _ _ hda ?_
 clear hK K
 have HI:=zh (ints2_ BI hid (by omega))
 refine pD fun K hK=>?_;go_simp
 refine HI.out.mono ?_
 rintro e w6 ⟨A2,c2,rfl,ho2,hb2⟩
 obtain ⟨L2,hL2⟩:∃ L,L=le 8 id++le 8 1:=⟨_,rfl⟩
 have hL2l:L2.length=16:=by rw [hL2];simp [le]
 rw [<-hL2] at ho2 ⊢
 have HL2:=zh (za hL2 hL2l)
 have HO2:=zh (show Ob w6 Wa.heap.size A2 c2 L2 from ho2)
 have hd2:=(hda.tr hb2)
 rw [hL2l]
 refine hK.out _ _ hd2 ?_
 clear hK K HI ho2 BI hL2 hL2l
 have BQ6:=HBQ.out.ext ((zb w5.heap.size w5).drew.trans hd2)
 refine qaj rfl (qae rfl) (fun K hK=>?_)
 refine qke 14 (.tmp 12) (.tmp 13) rfl rfl rfl HL2.out.2 HO2.out rfl hHl (Blk.range BQ6 (by simp)) (by omega) hb2.size ?_
 intro A3 c3 w7 ho3 hb3
 have hd3:=hd2.trans (zm hb3 hda.size)
 obtain ⟨LT,hLT⟩:∃ L,L=L2++H:=⟨_,rfl⟩
 have hLTl:LT.length=48:=by rw [hLT,List.length_append,HL2.out.2,hHl]
 rw [<-hLT] at ho3
 have HLT:=zh (show entT id x=LT by rw [hLT,HL2.out.1,<-HH.out];rfl)
 have HO3:=zh (show Ob w7 Wa.heap.size A3 c3 LT from ho3)
 rw [show 16+32=48 from rfl]
 refine hK.out _ _ hd3 ?_
 clear hK K ho3 HO2 hLT BQ6
 have HF:=zh (leaf_ (HO3.out.byN hLTl) (by omega))
 refine pD fun K hK=>?_;go_simp
 refine HF.out.mono ?_
 rintro e w8 ⟨rfl,hb8⟩
 have hd8:=(hd3.tr hb8)
 refine hK.out _ _ hd8 ?_
 clear hK K HF D
 refine qak ?_
 have hbb:=(zb w5.heap.size w5).drew.trans hd8
 have BR8:=HBR.out.ext hbb
 have hbw8:=(HW5.out.tr hbb)
 clear hb2 hb3 hb8 hd2 hd3 hd8 hda hbb
 obtain ⟨H,hH⟩:∃ H,shaL (0::LT)=H:=⟨_,rfl⟩
 have hHl:H.length=32:=by rw [<-hH];exact qbh _
 have HH9:=zh hH
 rw [hH]
 clear hH
 have hsz9:=qbq H hHl
 have hth9:=Blk.there (o:=0) (n:=32) BR8 (by rw [lenB,qaf];omega)
 obtain ⟨B9,hg9⟩:=Blk.lay (qaa H) 0 BR8 (by rw [lenB,lenB,qaf,hHl];omega)
 rw [qai _ _ (by rw [lenB,lenB,qaf,hHl])] at B9
 have hbw9:=(hbw8.gw hg9)
 refine qaj rfl (qae rfl) (fun K hK=>?_)
 refine qao 76 (.tmp 2) (.tmp 15) rfl rfl gr 0 (qaa H) rfl rfl (by rw [lenB,hHl];exact hth9) hsz9 (oneB _) ?_
 refine hK.out _ _ trivial (qad ?_)
 clear hK K hth9 hg9 BR8
 generalize w8.setCells gr 0 (qaa H)=w9 at *
 go_wp2
 exact bodyPost_ret (v:=.agg (qaa H).toArray) (results_cell_row rfl _ _ gr _ _ (0,0) _ rfl B9 Tryz.underlying76 rfl (by rw [List.size_toArray];exact hsz9)) rfl ⟨by rw [<-HH9.out,<-HLT.out];rfl,hbw9⟩
theorem qpz {t:TypeId} {A':Option Addr} {n' c':Nat} {l' l2 l3:List UInt8} (hg:Blk w g t #[.slice A n c,.slice A' n' c',.slice A2 n2 c2,.slice A3 n3 c3]) (h:By w A n c l) (h':By w A' n' c' l') (h2:By w A2 n2 c2 l2) (h3:By w A3 n3 c3 l3):
  ∀ (i:Nat) p,[Part.mk A n c (qaa l),Part.mk A' n' c' (qaa l'),Part.mk A2 n2 c2 (qaa l2),Part.mk A3 n3 c3 (qaa l3)][i]? = some p->w.cell? ⟨g,i,none⟩=some (.slice p.A p.n p.c)/\PartOk w p:=by
 intro i p hp
 match i with
 | 0=>simp at hp;subst hp;exact ⟨hg.cell 0,h.1,by rw [lenB,h.2],oneB _⟩
 | 1=>simp at hp;subst hp;exact ⟨hg.cell 1,h'.1,by rw [lenB,h'.2],oneB _⟩
 | 2=>simp at hp;subst hp;exact ⟨hg.cell 2,h2.1,by rw [lenB,h2.2],oneB _⟩
 | 3=>simp at hp;subst hp;exact ⟨hg.cell 3,h3.1,by rw [lenB,h3.2],oneB _⟩
 | i+4=>simp at hp
theorem By.within {o:Nat} {t:TypeId} (h:Blk w g t cs.toArray) (hv:(cs.drop o).take n=qaa l) (hl:l.length=n):By w (some ⟨g,o,none⟩) n n l:=by
 have hr:w.rangeAt g o (qaa l):=Blk.range h (by rw [lenB,hl,hv])
 exact ⟨.inr (.inr ⟨g,o,rfl,zl _,Nat.zero_le _,h.lt,fun i u hu=>hr i u hu⟩),hl⟩
def blkT (n:Nat) (p r:List UInt8) (c:Nat):List UInt8:=le 8 n++p++r++le 8 c
theorem hash_ {p:List UInt8} (h:eBlk.rel w F cs ((n:Int),p,r,(c:Int))) (hn:n<9223372036854775808) (hc:c<9223372036854775808):
  Calls Tryz.prog 117 #[.agg cs.toArray] w fun e w'=>e=.returned (.agg (qaa (shaL (blkT n p r c))).toArray)/\Below w.heap.size w w':=by
 obtain ⟨hcs,hp,hr⟩:=qks h
 simp only at hcs hp hr
 have hc0:cs[0]? = some (.int .i64 (n:Int)):=by rw [hcs];rfl
 have hc65:cs[65]? = some (.int .i64 (c:Int)):=by
  rw [hcs,List.getElem?_cons_succ,List.getElem?_append_right (by rw [lenB,hp];omega),lenB,hp,List.getElem?_append_right (by rw [lenB,hr];omega),lenB,hr]
  rfl
 have hcp:(cs.drop 1).take 32=qaa p:=by
  rw [hcs,List.drop_succ_cons,List.drop_zero,List.take_append_of_le_length (by rw [lenB,hp];omega),List.take_of_length_le (by rw [lenB,hp];omega)]
 have hcr:(cs.drop 33).take 32=qaa r:=by
  rw [hcs,List.drop_succ_cons,List.drop_append,List.drop_eq_nil_of_le (by rw [lenB,hp];omega),lenB,hp,List.nil_append]
  simp only [Nat.sub_self,List.drop_zero]
  rw [List.take_append_of_le_length (by rw [lenB,hr];omega),List.take_of_length_le (by rw [lenB,hr];omega)]
 have HCP:=zh (za hcp hp)
 have HCR:=zh (za hcr hr)
 have hz:=qcn
 clear hcs h hcp hcr
 go_enter Tryz.func117,Tryz.ntmps117
 go_upto_region 1 with fail
 obtain ⟨W,hW_,hb1,BB,BR⟩:=al2 w 261 76 (cs.toArray) ((qaa h0).toArray)
 rw [<-hW_]
 clear hW_
 obtain ⟨gb,hgb⟩:∃ g,w.heap.size=g:=⟨_,rfl⟩
 obtain ⟨gr,hgr⟩:∃ g,w.heap.size+1=g:=⟨_,rfl⟩
 have hgrw:w.heap.size<=gr:=by omega
 have hne:gb≠gr:=by omega
 rw [hgr] at BR ⊢
 rw [hgb] at BB ⊢
 clear hgb hgr
 have HBR:=zh BR
 have HW1:=zh hb1
 have HC0:=zh hc0
 have HC65:=zh hc65
 have D:∀ w',Blk w' gb 261 cs.toArray/\W.heap.size<=w'.heap.size->w'.cell? ⟨gb,0,none⟩=some (.int .i64 (n:Int))/\w'.cell? ⟨gb,65,none⟩=some (.int .i64 (c:Int)):=fun w' h=>⟨(h.1.cell 0).trans (by simpa using hc0),(h.1.cell 65).trans (by simpa using hc65)⟩
 refine qgu (S:=fun w'=>Blk w' gb 261 cs.toArray/\W.heap.size<=w'.heap.size) ⟨10,13,fun g=>.slice (some ⟨g,0,none⟩) 1 1,.cells #[.int .i64 (c:Int)] 3⟩ [(0,true),(1,true),(4,true),(5,true),(6,true),(7,true),(8,true),(9,true)] [(2,false),(3,false)] [(11,false),(12,false),(13,false),(14,false)] (by kernel_rfl) (by kernel_rfl) ⟨BB,zl _⟩ (fun w1 w2 he h=>⟨h.1.ext he,Nat.le_trans h.2 he.size⟩) (fun w' h=>h.2) ?_
 repeat ((first|refine iT ?_|refine iF ?_);try go_frame)
 refine qbn ⟨?_,?_⟩
 ·intro y hy
  simp only [List.mem_cons,List.not_mem_nil,or_false] at hy
  subst hy
  exact ⟨_,rfl,rfl,qae rfl,fun w=>by go_simp⟩
 clear hc0 hc65 D
 refine iD fun wI hI hSI K hK=>?_;go_simp
 obtain ⟨Wa,hWa⟩:∃ W',W'=wI.alloc (.cells #[.int .i64 (n:Int)] 3):=⟨_,rfl⟩
 have BI:Blk Wa wI.heap.size 3 #[.int .i64 (n:Int)]:=by rw [hWa];exact Blk.new _ _ _
 have hba:Below wI.heap.size wI Wa:=by rw [hWa];exact (zb _ _).alloc (zl _) _
 have hIa:=zt hI (zm hba hI.size)
 rw [<-hWa]
 clear hWa
 refine hK.out _ _ hba ?_
 clear hK K hI hSI hba
 refine iD fun wI hI hSI K hK=>?_;go_simp
 have hI3:=(hIa.tr hI)
 have HF:=zh (ints1_ (BI.ext hI) hn)
 refine HF.out.mono ?_
 rintro e w3 ⟨A3,c3,rfl,ho3,hb3⟩
 have hI4:=(hI3.tr hb3)
 obtain ⟨L3,hL3⟩:∃ L,L=le 8 n:=⟨_,rfl⟩
 have hL3l:L3.length=8:=by rw [hL3];simp [le]
 rw [<-hL3] at ho3 ⊢
 have HL3:=zh (za hL3 hL3l)
 have HO3:=zh (show Ob w3 wI.heap.size A3 c3 L3 from ho3)
 rw [hL3l]
 refine hK.out _ _ hb3 ?_
 clear hK K HF ho3 hI hSI BI hI3 hIa hb3 hL3 hL3l
 repeat ((first|refine iT ?_|refine iF ?_);try go_frame)
 refine qbn ?_
 intro g1 wf he hb hlo1 hhi1 hat1
 try simp only [List.setIfInBounds_toArray,List.set_cons_zero,List.set_cons_succ]
 have B5:Blk wf g1 3 #[.int .i64 (c:Int)]:=hat1
 have HO4:=zh (HO3.out.ext he)
 have hI5:=(hI4.tr he)
 have HF:=zh (ints1_ B5 hc)
 clear he hat1 hI4
 refine pD fun K hK=>?_;go_simp
 refine HF.out.mono ?_
 rintro e w6 ⟨A6,c6,rfl,ho6,hb6⟩
 obtain ⟨L6,hL6⟩:∃ L,L=le 8 c:=⟨_,rfl⟩
 have hL6l:L6.length=8:=by rw [hL6];simp [le]
 rw [<-hL6] at ho6 ⊢
 have HL6:=zh (za hL6 hL6l)
 have HO6:=zh (show Ob w6 wf.heap.size A6 c6 L6 from ho6)
 have hI6:=(hI5.tr hb6)
 rw [hL6l]
 refine hK.out _ _ ⟨hb.1.ext hb6,Nat.le_trans hb.2 hb6.size⟩ ?_
 clear hK K HF ho6 B5 hL6 hL6l
 have HO4:=zh (HO4.out.ext hb6)
 have BB6:=hb.1.ext hb6
 have hs6:=Nat.le_trans hb.2 hb6.size
 clear hb hb6 hI5
 refine pD fun K hK=>?_;go_simp
 obtain ⟨W7,hW7⟩:∃ W',W'=w6.alloc (.cells #[.slice A3 8 c3,.slice (some ⟨gb,1,none⟩) 32 32,.slice (some ⟨gb,33,none⟩) 32 32,.slice A6 8 c6] 151):=⟨_,rfl⟩
 have BS7:Blk W7 w6.heap.size 151 #[.slice A3 8 c3,.slice (some ⟨gb,1,none⟩) 32 32,.slice (some ⟨gb,33,none⟩) 32 32,.slice A6 8 c6]:=by rw [hW7];exact Blk.new _ _ _
 have hb7:Below w6.heap.size w6 W7:=by rw [hW7];exact (zb _ _).alloc (zl _) _
 rw [<-hW7]
 have BB7:=BB6.ext hb7
 have hs7:=Nat.le_trans hs6 hb7.size
 have hI7:=(hI6.tr hb7)
 refine hK.out _ _ ⟨BB7,hs7⟩ ?_
 clear hK K hW7
 have hps:=qpz BS7 ((HO4.out.ext hb7).byN HL3.out.2) (By.within BB7 HCP.out.1 HCP.out.2) (By.within BB7 HCR.out.1 HCR.out.2) ((HO6.out.ext hb7).byN HL6.out.2)
 have HS:=zh (sumOf_ W7 _ (L3++p++r++L6) _ 4 rfl BS7.lt hps (by have h1:=HL3.out.2;have h2:=HL6.out.2;simp [sumN,h1,h2,hp,hr]) (by simp [allC,qbu]) (by have h1:=HL3.out.2;have h2:=HL6.out.2;simp [h1,h2,hp,hr]) (by omega))
 clear hps BS7 BB6 hI6 hs6 hb7
 refine pD fun K hK=>?_;go_simp
 refine HS.out.mono ?_
 rintro e w8 ⟨rfl,hb8⟩
 have BB8:=BB7.ext hb8
 have hs8:=Nat.le_trans hs7 hb8.size
 have hI8:=(hI7.tr hb8)
 refine hK.out _ _ ⟨BB8,hs8⟩ ?_
 clear hK K HS BB7 hs7 hI7 hb8
 rw [HL3.out.1,HL6.out.1]
 have hbb:=(zb W.heap.size W).drew.trans hI8
 have BR8:=HBR.out.ext hbb
 have hbw8:=(HW1.out.tr hbb)
 clear hbb hI8 BB BR hb1
 obtain ⟨H,hH⟩:∃ H,shaL (le 8 n++p++r++le 8 c)=H:=⟨_,rfl⟩
 have hHl:H.length=32:=by rw [<-hH];exact qbh _
 have HH9:=zh hH
 rw [hH]
 clear hH
 have hsz9:=qbq H hHl
 have hth9:=Blk.there (o:=0) (n:=32) BR8 (by rw [lenB,qaf];omega)
 obtain ⟨B9,hg9⟩:=Blk.lay (qaa H) 0 BR8 (by rw [lenB,lenB,qaf,hHl];omega)
 rw [qai _ _ (by rw [lenB,lenB,qaf,hHl])] at B9
 have hbw9:=(hbw8.gw hg9)
 refine qaj rfl (qae rfl) (fun K hK=>?_)
 refine qao 76 (.tmp 2) (.tmp 16) rfl rfl gr 0 (qaa H) rfl rfl (by rw [lenB,hHl];exact hth9) hsz9 (oneB _) ?_
 refine hK.out _ _ ⟨BB8.grown hg9 (by simpa using hne),Nat.le_trans hs8 hg9.size⟩ (qad ?_)
 clear hK K hth9 hg9 BR8
 generalize w8.setCells gr 0 (qaa H)=w9 at *
 go_wp2
 exact bodyPost_ret (v:=.agg (qaa H).toArray) (results_cell_row rfl _ _ gr _ _ (0,0) _ rfl B9 Tryz.underlying76 rfl (by rw [List.size_toArray];exact hsz9)) rfl ⟨by rw [<-HH9.out];rfl,hbw9⟩
def digC (n:Int) (H:List UInt8):List Value:=.int .i64 n::qaa H
theorem qiq (w:World):(zeroValue 78).run Tryz.prog w=.ok (.agg (digC 0 h0).toArray) w:=by kernel_rfl
theorem shape_dig:qeo Tryz.prog 78=some (digC 0 h0,[(0,1),(1,32)]):=by kernel_rfl
theorem qbg (n:Int) (H:List UInt8) (h:H.length=32):(digC n H).length=33:=by rw [digC,List.length_cons,lenB,h]
theorem qix (n:Int) (H:List UInt8):∀ u∈digC n H,u.oneCell'=true:=by
 intro u hu
 rw [digC,List.mem_cons] at hu
 rcases hu with rfl|hu
 ·rfl
 ·exact oneB _ u hu
theorem qiw (n:Int) (H:List UInt8) (h:H.length=32):(Tryz.prog.info? 78).map (·.size)=some (digC n H).length:=by rw [qbg n H h];kernel_rfl
theorem size_blk (h:cs.length=66):(Tryz.prog.info? 261).map (·.size)=some cs.length:=by rw [h];kernel_rfl
theorem fill_dig (n:Int) (H:List UInt8) (h:H.length=32):qco [(0,1),(1,32)] (digC 0 h0) [(0,.int .i64 n),(1,.agg (qaa H).toArray)]=some (digC n H):=by
 have h1:laid (digC 0 h0) 0 [.int .i64 n]=.int .i64 n::qaa h0:=by simp [laid,digC]
 have h2:laid (.int .i64 n::qaa h0) 1 (qaa H)=digC n H:=by
  have:=qcm [.int .i64 n] (qaa h0) [] (qaa H) (by rw [lenB,lenB,h,qaf])
  simpa [digC] using this
 have c1:(Value.int .i64 n).cells.toList=[.int .i64 n]:=rfl
 have c2:(Value.agg (qaa H).toArray).cells.toList=qaa H:=rfl
 unfold qco
 simp only [List.getElem?_cons_zero]
 rw [if_pos ⟨rfl,by rw [qbg _ _ qaf];simp⟩,c1,h1]
 unfold qco
 simp only [List.getElem?_cons_succ,List.getElem?_cons_zero]
 rw [if_pos ⟨by show (qaa H).length=32;rw [lenB,h],by rw [List.length_cons,lenB,qaf];omega⟩,c2,h2]
 rfl
theorem ldig_ {x:LedD} {bs:List BlkD} {p:List UInt8} (h:eLed.rel w F cs x) (hx:x.2.2.1=bs++[((n:Int),p,r,(c:Int))]) (hn:n<9223372036854775808) (hc:c<9223372036854775808) (hbs:bs.length<=1000000):
  Calls Tryz.prog 49 #[.agg cs.toArray] w fun e w'=>e=.returned (.tuple #[.agg (digC n (shaL (blkT n p r c))).toArray,.int .i64 0])/\Below w.heap.size w w':=by
 obtain ⟨A,n1,c1,A2,n2,c2,A3,n3,c3,rfl,h1,h2,h3⟩:=qei h
 obtain ⟨k,hk⟩:∃ k,bs.length=k:=⟨_,rfl⟩
 have hn2:n2=k+1:=by rw [<-h2.len,hx,List.length_append,hk];rfl
 subst hn2
 rw [hk] at hbs
 obtain ⟨b,off,rfl,_,hFb,hbl⟩:=h2.some_ (by omega)
 obtain ⟨cb,hcb,hcell⟩:=h2.at_ (i:=k) (by rw [hx,<-hk,List.getElem?_append_right (zl _),Nat.sub_self];rfl)
 have hkl:cb.length=66:=eBlk.len hcb
 have hc0:cb[0]? = some (.int .i64 (n:Int)):=by obtain ⟨rfl,_⟩:=qks hcb;rfl
 simp only [show eBlk.k=66 from rfl] at hcell
 have HCB:=zh hcb
 have HHC:=zh (za hcell hc0)
 have hp0:=hcell 0 _ hc0
 have hz:=qiq
 clear h h1 h2 h3 hcb hcell hx hk
 go_enter Tryz.func49,Tryz.ntmps49
 go_upto_region 1 with fail
 obtain ⟨W,hW_,hb1,BL,BR⟩:=al2 w 147 78 #[.int .i64 x.1,.slice A n1 c1,.slice (some ⟨b,off,none⟩) (k+1) c2,.slice A3 n3 c3] ((digC 0 h0).toArray)
 rw [<-hW_]
 clear hW_
 obtain ⟨gl,hgl⟩:∃ g,w.heap.size=g:=⟨_,rfl⟩
 obtain ⟨gr,hgr⟩:∃ g,w.heap.size+1=g:=⟨_,rfl⟩
 have hgrw:w.heap.size<=gr:=by omega
 have hne:gl≠gr:=by omega
 have hneb:b≠gr:=by omega
 rw [hgr] at BR ⊢
 rw [hgl] at BL ⊢
 clear hgr hgl
 have q2:=BL.cell 2
 go_upto_region 4 with fail
 have HBR:=zh BR
 have hRW:W.rangeAt b (off+k * 66) cb:=fun j u hu=>(hb1.cell (p:=⟨b,off+k * 66+j,none⟩) hbl).trans (HHC.out.1 j u hu)
 have hszb:=size_blk hkl
 have D:=fun w' (hS:Blk w' gl 147 #[.int .i64 x.1,.slice A n1 c1,.slice (some ⟨b,off,none⟩) (k+1) c2,.slice A3 n3 c3]/\w'.rangeAt b (off+k * 66) cb/\W.heap.size<=w'.heap.size)=>show w'.cell? ⟨gl,2,none⟩=some (.slice (some ⟨b,off,none⟩) (k+1) c2)/\w'.cell? ⟨b,off+k * 66,none⟩=some (.int .i64 (n:Int)) from ⟨hS.1.cell 2,hS.2.1 0 _ hc0⟩
 have hwk:IntKind.i64.wrap (k:Int)=(k:Int):=IntWalk.i64_in _ ⟨by omega,by omega⟩
 clear q2 hp0
 refine r2 (S:=fun w'=>Blk w' gl 147 #[.int .i64 x.1,.slice A n1 c1,.slice (some ⟨b,off,none⟩) (k+1) c2,.slice A3 n3 c3]/\w'.rangeAt b (off+k * 66) cb/\W.heap.size<=w'.heap.size) [(0,true),(1,true),(2,true),(3,true),(4,true),(5,true),(6,true),(7,true),(8,true),(9,true),(10,true),(11,true),(12,true),(13,false),(14,true),(15,false),(16,true)] ⟨BL,hRW,zl _⟩ ?_
 repeat ((first|refine pT ?_|refine pF ?_);try go_frame)
 refine qas (v:=.pointer (some ⟨b,off+k * 66,none⟩)) rfl rfl (qae rfl) (fun w' hS=>by go_simp;intro h9;omega) ?_
 go_frame
 repeat ((first|refine pT ?_|refine pF ?_);try go_frame)
 refine qas (v:=.pointer (some ⟨b,off+k * 66,none⟩)) rfl rfl (qae rfl) (fun w' hS=>by go_simp;intro h9;omega) ?_
 go_frame
 refine qas rfl rfl (qae rfl) (fun w' hS=>qba 261 (.tmp 22) rfl b (off+k * 66) rfl cb _ hS.2.1 Tryz.underlying261 rfl hszb) ?_
 go_frame
 clear D
 have hd0:=(zb W.heap.size W).drew
 have HF:=zh (hash_ (eBlk.ext HCB.out (hb1.drew)) hn hc)
 refine pD fun K hK=>?_;go_simp
 refine HF.out.mono ?_
 rintro e w8 ⟨rfl,hb8⟩
 have hbb:=hd0.trans hb8
 have BL8:=BL.ext hbb
 have hR8:w8.rangeAt b (off+k * 66) cb:=fun j u hu=>(hbb.cell (p:=⟨b,off+k * 66+j,none⟩) (Nat.lt_of_lt_of_le hbl hb1.size)).trans (hRW j u hu)
 have hs8:=hbb.size
 have BR8:=HBR.out.ext hbb
 have hbw8:=(hb1.tr hbb)
 obtain ⟨H,hH⟩:∃ H,shaL (blkT n p r c)=H:=⟨_,rfl⟩
 have hHl:H.length=32:=by rw [<-hH];exact qbh _
 have HH9:=zh hH
 rw [hH]
 refine hK.out _ _ ⟨BL8,hR8,hs8⟩ ?_
 clear hK K HF hH hbb hb8 BL hRW hb1 hd0 BR
 refine qas rfl rfl (qae rfl) (fun w' hS=>qce (ps:=[(0,.int .i64 n),(1,.agg (qaa H).toArray)]) 78 _ rfl shape_dig rfl (fill_dig n H hHl)) ?_
 go_frame
 have hDl:=qbg n H hHl
 have hsz9:=qiw n H hHl
 have hone:=qix n H
 obtain ⟨DC,hDC⟩:∃ D,D=digC n H:=⟨_,rfl⟩
 rw [<-hDC] at hDl hsz9 hone ⊢
 have hth9:=Blk.there (o:=0) (n:=33) BR8 (by rw [qbg _ _ qaf];omega)
 obtain ⟨B9,hg9⟩:=Blk.lay DC 0 BR8 (by rw [hDl,qbg _ _ qaf];omega)
 rw [qai _ _ (by rw [hDl,qbg _ _ qaf])] at B9
 have hbw9:=(hbw8.gw hg9)
 refine qaj rfl (qae rfl) (fun K hK=>?_)
 refine qao 78 (.tmp 2) (.tmp 25) rfl rfl gr 0 DC rfl rfl (by rw [hDl];exact hth9) hsz9 hone ?_
 refine hK.out _ _ ⟨BL8.grown hg9 (by simpa using hne),fun j u hu=>(World.cell?_of_block (hg9.block b (Nat.lt_of_lt_of_le hbl hbw8.size) (by simpa using hneb))).trans (hR8 j u hu),Nat.le_trans hs8 hg9.size⟩ ?_
 clear hK K hth9 hg9 BR8
 generalize w8.setCells gr 0 DC=w9 at *
 repeat ((first|refine pT ?_|refine pF ?_);try go_frame)
 refine qad ?_
 go_wp2
 exact bodyPost_ret (v:=.tuple #[.agg DC.toArray,.int .i64 0]) (qbe rfl _ _ gr _ _ (0,0) _ rfl B9 Tryz.underlying78 rfl (by rw [List.size_toArray];exact hsz9) rfl) rfl ⟨by rw [hDC,<-HH9.out],hbw9⟩
def okTx (x:TxD):Prop:=x.2.length<=1000/\∀ c∈x.2,qgn c
theorem qmu {cs0:List Value} {x0:TxD} (h0:eTx.rel w F cs0 x0) (hok:okTx x0):Calls Tryz.prog 111 #[.agg cs0.toArray] w (qfn eTx x0 w):=by
 obtain ⟨A,n,c,rfl,h⟩:=qfd h0
 obtain ⟨id,x⟩:=x0
 obtain ⟨hn,hok⟩:=hok
 simp only at h hn hok ⊢
 obtain ⟨i0,hi,hz0,hz1,hz2⟩:=ip Tryz.prog 126 (.agg #[.string ⟨#[]⟩,.int .i64 0,.slice none 0 0]) 3 48
 clear h0
 have HS:=zh h
 have HL:=zh h.len
 have hn:n<=1000:=by have:=h.len;omega
 clear h
 have HK:=zh hok
 clear hok
 go_enter Tryz.func111,Tryz.ntmps111
 go_upto_region 1 with fail
 obtain ⟨W,hW_,hb0,BT,BR⟩:=al2 w 168 168 #[.int .i64 id,.slice A n c] #[.int .i64 0,.slice none 0 0]
 rw [<-hW_]
 clear hW_
 obtain ⟨gt,hgt⟩:∃ g,w.heap.size=g:=⟨_,rfl⟩
 obtain ⟨gr,hgr⟩:∃ g,w.heap.size+1=g:=⟨_,rfl⟩
 have hgrw:w.heap.size<=gr:=by omega
 rw [hgr] at BR ⊢
 rw [hgt] at BT ⊢
 have HNE:=zh (show gt≠gr by omega)
 clear hgt hgr
 have HS:=zh (HS.out.ext hb0)
 have HB00:=zh hb0
 have HBT:=zh BT
 have HBR:=zh BR
 have qt1:=BT.cell 1
 go_wp2_with (at_make;refine wpList_make_full _ rfl _ _ 51 rfl W.heap.size 126 i0 (.agg #[.string ⟨#[]⟩,.int .i64 0,.slice none 0 0]) 3 Tryz.underlying51 hi hz0 hz1 _ _ _ _ n rfl rfl rfl rfl ?b2 ?b3 (zl _) ?_)
 case b2=>rw [hz2];omega
 case b3=>unfold maxLen;omega
 intro w1 hown hgrow
 obtain ⟨Z,BO,hZl⟩:=qct hown
 have hb1:=(zb W.heap.size W).grown hgrow (zl _) (fun k hk=>by cases hk)
 have HT1:=zh (BT.ext hb1)
 have qt1:=HT1.out.cell 1
 have HT1:=zh (BT.ext hb1)
 have qt1:=HT1.out.cell 1
 obtain ⟨go,hgo⟩:∃ g,W.heap.size=g:=⟨_,rfl⟩
 have BO0:Blk w1 W.heap.size 126 ((([]:List (List Value)).flatten++Z.drop (0 * 3)).toArray):=by simpa using BO
 have HB0:=zh (za BO0 hb1)
 clear hown hgrow BO BO0 hb1
 rw [hgo] at HB0
 have hgw:go=W.heap.size:=hgo.symm
 rw [hgo]
 clear hgo
 have HGW:=zh hgw
 clear hgw
 go_wp2_with fail
 go_loopw [13] (fun i wr=>∃ (k:Nat) (css:List (List Value)),i=.int .i64 k/\k<=n/\Hid (Els eChg wr (fun b=>go<b) css (x.take k))/\Hid (Blk wr go 126 (css.flatten++Z.drop (k * 3)).toArray/\Below go W wr)) (fun i _=>n - (intOf i).toNat)
 case atStart=>exact ⟨0,[],rfl,Nat.zero_le _,zh (by simpa using Els.nil _ _),HB0⟩
 case round =>
  clear HB0
  obtain ⟨k,css,rfl,hk,HE,HB⟩:=hrel
  rcases Nat.lt_or_ge k n with hlt|hge
  ·have hd:decide ((k:Int)<(n:Int))=true:=by simp;omega
   have hkn:(k:Int)<(n:Int):=by omega
   obtain ⟨y,hy⟩:∃ y,x[k]? = some y:=⟨_,List.getElem?_eq_getElem (by have:=HL.out;omega)⟩
   have HY:=zh hy
   obtain ⟨b0,off,rfl,hnc,hFb,hbl⟩:=HS.out.some_ (by omega)
   have hbw:=HB.out.2
   have hsz:=HB.out.1.lt
   have hS:=HS.out.ext (show Below W.heap.size W wr by rw [<-HGW.out];exact hbw)
   obtain ⟨cs,hcs,hcell⟩:=hS.at_ hy
   have hcl1:cs.length=3:=eChg.len hcs
   obtain ⟨Ar,nr,cr,hcs9,hSr⟩:=qdh hcs
   have HCS:=zh hcs9
   clear hcs9
   have hone:=eChg.one hcs
   have hcz:(Tryz.prog.info? 126).map (·.size)=some cs.length:=by rw [hcl1];kernel_rfl
   have C7:=Blk.new wr 126 (([.string ⟨#[]⟩,.int .i64 0,.slice none 0 0]:List Value)).toArray
   have hth7:=Blk.there (o:=0) (n:=3) C7 (by simp)
   obtain ⟨B7,hg7⟩:=Blk.lay cs 0 C7 (by rw [hcl1];simp)
   rw [qai _ _ (by rw [hcl1];rfl)] at B7
   have hb7:Below wr.heap.size wr ((wr.alloc (.cells #[.string ⟨#[]⟩,.int .i64 0,.slice none 0 0] 126)).setCells wr.heap.size 0 cs):=((zb _ _).alloc (zl _) _).grown hg7 (by simp) (fun k hk=>by injection hk with hk;omega)
   clear hg7 C7
   have hrg:wr.rangeAt b0 (off+k * 3) cs:=fun j u hu=>hcell j u hu
   have HR:=zh hrg
   clear hrg hcell hS hy
   go_upto_region 5 with (first|((with_reducible refine sT 17 ?_);(refine wpList_load_mid rfl 126 _ rfl b0 (off+k * 3) rfl cs _ HR.out Tryz.underlying126 rfl hcz ?_)) |
    ((with_reducible refine sS 5 ?_);(refine wpList_store_mid rfl 126 _ _ rfl wr.heap.size 0 cs.toArray rfl rfl ?s5 ?s6 (all_oneCell_toArray hone) ?_)))
   case s5=>exact (show cs.toArray.size=3 by simp [hcl1]) ▸ hth7
   case s6=>rw [List.size_toArray];exact hcz
   have hSr7:=hSr.ext hb7
   clear hcs hSr
   generalize (wr.alloc (.cells #[.string ⟨#[]⟩,.int .i64 0,.slice none 0 0] 126)).setCells wr.heap.size 0 cs=W7 at *
   have q7:W7.cell? ⟨wr.heap.size,2,none⟩=some (.slice Ar nr cr):=by rw [B7.cell 2,HCS.out];rfl
   have hnr:nr<=1000:=by have h1:=hSr7.len;have h2:qdp y.2.2:=HK.out y (List.mem_of_getElem? HY.out);unfold qdp at h2;omega
   have HF:=zh (copyV hSr7 (by omega))
   have hW7:wr.heap.size<W7.heap.size:=B7.lt
   clear hSr7
   go_wp2_with fail
   refine HF.out.mono ?_
   rintro e w4 ⟨A4,c4,rfl,hown4,hb4⟩
   clear HF q7
   obtain ⟨cs4,hcs4⟩:∃ z,z=([.string y.1,.int .i64 y.2.1,.slice A4 y.2.2.length c4]:List Value):=⟨_,rfl⟩
   have hr40:eChg.rel w4 (fun b=>W7.heap.size<=b) cs4 y:=by rw [hcs4];exact qfi (hown4.sl (fun b h _=>h) (fun b h=>h.1))
   have B74:=B7.ext hb4
   have q:w4.cell? ⟨wr.heap.size,2,none⟩=some (.slice Ar nr cr):=by rw [B74.cell 2,HCS.out];rfl
   have f:=B74.frozen 2
   have hg7:=qac w4 wr.heap.size 2 (.slice A4 y.2.2.length c4)
   have B75:=B74.set_ 2 (.slice A4 y.2.2.length c4)
   rw [HCS.out] at B75
   have hr41:=eChg.keep hr40 (Keep.grown hg7 (fun g hg hlt=>by injection hg with hg;omega))
   have hall:=((hb7.tr hb4)).grown hg7 (Nat.le_of_lt B74.lt) (fun k hk=>by injection hk with hk;omega)
   clear hown4 hr40 hg7 B7
   go_upto_region 6 with fail
   clear q f B74
   generalize w4.setCell ⟨wr.heap.size,2,none⟩ (.slice A4 y.2.2.length c4)=w5 at *
   have B75:Blk w5 wr.heap.size 126 cs4.toArray:=by rw [hcs4];exact B75
   have hr4:=hr41
   clear hcs4
   have hcl4:cs4.length=3:=eChg.len hr4
   have hone4:=eChg.one hr4
   have hcz4:(Tryz.prog.info? 126).map (·.size)=some cs4.length:=by rw [hcl4];kernel_rfl
   have hr4:=eChg.mono hr4 (G:=fun b=>go<b) (fun b h=>by have:=hb7.size;omega)
   have hE4:=Els.snoc (HE.out.ext hall) HY.out hr4
   have hfl:css.flatten.length=k * 3:=by have h9:=HE.out.flen;rw [List.length_take,Nat.min_eq_left (by have:=HL.out;omega)] at h9;exact h9
   have B4:=HB.out.1.ext hall
   have hbw4:=hbw.trans (zm hall (Nat.le_of_lt hsz))
   have hkk:(k+1) * 3<=n * 3:=Nat.mul_le_mul_right _ hlt
   have hth:=Blk.there (o:=k * 3) (n:=3) B4 (by rw [List.length_append,List.length_drop,hfl,hZl];omega)
   obtain ⟨B5,hg5⟩:=Blk.lay cs4 (k * 3) B4 (by rw [List.length_append,List.length_drop,hfl,hZl];omega)
   rw [qed css.flatten Z cs4 k 3 hfl hcl4 (by rw [hZl];exact hkk)] at B5
   have hE5:=Els.keep hE4 (Keep.grown hg5 (fun g hg hlt=>by injection hg with hg;omega))
   have hbw5:=hbw4.grown hg5 (Nat.le_of_lt B4.lt) (fun k hk=>by injection hk with hk;omega)
   have HE5:=zh hE5
   have HB5:=zh (show Blk _ go 126 ((css++[cs4]).flatten++Z.drop ((k+1) * 3)).toArray/\Below go W _ from ⟨by rw [List.flatten_append,List.flatten_singleton];exact B5,hbw5⟩)
   clear hE5 hg5 B5 hbw5 hE4 hr4 hfl B4 hbw4 hbw
   go_upto_region 7 with (first|((with_reducible refine sT 24 ?_);(refine wpList_load_mid rfl 126 _ rfl wr.heap.size 0 rfl cs4 _ (Blk.whole B75) Tryz.underlying126 rfl hcz4 ?_))|((with_reducible refine sS 25 ?_);(refine wpList_store_mid rfl 126 _ _ rfl go (k * 3) cs4.toArray rfl rfl ?s7 ?s8 (all_oneCell_toArray hone4) ?_)))
   case s7=>exact (show cs4.toArray.size=3 by simp [hcl4]) ▸ hth
   case s8=>rw [List.size_toArray];exact hcz4
   generalize w5.setCells go (k * 3) cs4=W5 at *
   clear hth hone hone4
   go_wp2_with fail
   go_roundw
   case rel=>exact ⟨k+1,_,by go_num,by omega,HE5,HB5⟩
   case measure=>simp [intOf];omega
  ·obtain rfl:k=n:=by omega
   have hd:decide ((k:Int)<(k:Int))=false:=by simp
   have hxk:x.length=k:=HL.out
   subst hxk
   have hE:=HE.out
   rw [List.take_length] at hE
   have hB:=HB.out
   rw [List.drop_eq_nil_of_le (by omega),List.append_nil] at hB
   have HR:=zh (show OwnE eChg 126 wr W.heap.size (fun b=>W.heap.size<=b/\(some ⟨go,0,none⟩:Option Addr)≠some ⟨b,0,none⟩) (some ⟨go,0,none⟩) x.length x.length x from ⟨css,qbz hB.1 hE.flen (by rw [HGW.out];exact zl _) hn,hE.mono (fun b h=>⟨by have:=HGW.out;omega,fun e=>by injection e with e;injection e with e;omega⟩),rfl⟩)
   have hbw:Below W.heap.size W wr:=by rw [<-HGW.out];exact hB.2
   clear hE hB HE HB
   have hr:=eTx_mk (x:=(id,x)) (HR.out.sl (G:=fun b=>W.heap.size<=b) (fun b h _=>h) (fun b h=>h.1))
   have hgrl:gr<W.heap.size:=HBR.out.lt
   have BT8:=HBT.out.ext hbw
   have qt0:=BT8.cell 0
   have BR8:=HBR.out.ext hbw
   have hbw8:=(HB00.out.tr hbw)
   obtain ⟨cz,hcz⟩:∃ z,z=([.int .i64 id,.slice (some ⟨go,0,none⟩) x.length x.length]:List Value):=⟨_,rfl⟩
   have hczl:cz.length=2:=by rw [hcz];rfl
   have hone:∀ u∈cz,u.oneCell'=true:=by rw [hcz];exact eTx.one hr
   rw [<-hcz] at hr
   have HCZ:=zh hcz
   have hsz:(Tryz.prog.info? 168).map (·.size)=some cz.length:=by rw [hczl];kernel_rfl
   have hth:=Blk.there (o:=0) (n:=2) BR8 (by simp)
   obtain ⟨B9,hg9⟩:=Blk.lay cz 0 BR8 (by rw [hczl];simp)
   rw [qai _ _ (by rw [hczl];rfl)] at B9
   have hbw9:=(hbw8.gw hg9)
   have hr9:=eTx.mono (eTx.keep hr (Keep.grown hg9 (fun g hg hlt=>by injection hg with hg;omega))) (G:=fun b=>w.heap.size<=b) (fun b h=>Nat.le_trans HB00.out.size h)
   have HR9:=zh hr9
   clear hr hr9 hg9 BR8 hbw8 HR hcz
   go_wp2_with ((with_reducible refine sS 2 ?_);(refine wpList_store_mid rfl 168 _ _ rfl gr 0 cz.toArray rfl (by rw [HCZ.out];rfl) ?s1 ?s2 (all_oneCell_toArray hone) ?_))
   generalize wr.setCells gr 0 cz=w9 at *
   clear hth BT8 qt0
   exact bodyPost_ret (v:=.agg cz.toArray) (results_cell_row rfl _ _ gr _ _ (0,0) _ rfl B9 Tryz.underlying168 rfl (by rw [List.size_toArray];exact hsz)) rfl ⟨cz,rfl,HR9.out,hbw9⟩
theorem qoj {x:List TxD} (h:Sl eTx w F A n c x) (hn:x.length<=1000) (hok:∀ y∈x,okTx y):Calls Tryz.prog 183 #[.slice A n c] w (CopiedT eTx 168 x w):=by
 obtain ⟨i0,hi,hz0,hz1,hz2⟩:=ip Tryz.prog 168 (.agg #[.int .i64 0,.slice none 0 0]) 2 32
 have HS:=zh h
 have HL:=zh h.len
 have hn:n<=1000:=by have:=h.len;omega
 clear h
 have HK:=zh hok
 clear hok
 go_enter Tryz.func183,Tryz.ntmps183
 go_wp2_with (at_make;refine wpList_make_full _ rfl _ _ 143 rfl w.heap.size 168 i0 (.agg #[.int .i64 0,.slice none 0 0]) 2 Tryz.underlying143 hi hz0 hz1 _ _ _ _ n rfl rfl rfl rfl ?b2 ?b3 (zl _) ?_)
 case b2=>rw [hz2];omega
 case b3=>unfold maxLen;omega
 intro w1 hown hgrow
 obtain ⟨Z,BO,hZl⟩:=qct hown
 have hb1:=(zb w.heap.size w).grown hgrow (zl _) (fun k hk=>by cases hk)
 obtain ⟨go,hgo⟩:∃ g,w.heap.size=g:=⟨_,rfl⟩
 have BO0:Blk w1 w.heap.size 168 ((([]:List (List Value)).flatten++Z.drop (0 * 2)).toArray):=by simpa using BO
 have HB0:=zh (za BO0 hb1)
 clear hown hgrow BO BO0 hb1
 rw [hgo] at HB0
 have hgw:go=w.heap.size:=hgo.symm
 rw [hgo]
 clear hgo
 have HGW:=zh hgw
 clear hgw
 go_wp2_with fail
 go_loopw [11] (fun i wr=>∃ (k:Nat) (css:List (List Value)),i=.int .i64 k/\k<=n/\Hid (Els eTx wr (fun b=>go<b) css (x.take k))/\Hid (Blk wr go 168 (css.flatten++Z.drop (k * 2)).toArray/\Below go w wr)) (fun i _=>n - (intOf i).toNat)
 case atStart=>exact ⟨0,[],rfl,Nat.zero_le _,zh (by simpa using Els.nil _ _),HB0⟩
 case round =>
  clear HB0
  obtain ⟨k,css,rfl,hk,HE,HB⟩:=hrel
  rcases Nat.lt_or_ge k n with hlt|hge
  ·have hd:decide ((k:Int)<(n:Int))=true:=by simp;omega
   have hkn:(k:Int)<(n:Int):=by omega
   obtain ⟨y,hy⟩:∃ y,x[k]? = some y:=⟨_,List.getElem?_eq_getElem (by have:=HL.out;omega)⟩
   have HY:=zh hy
   obtain ⟨b0,off,rfl,hnc,hFb,hbl⟩:=HS.out.some_ (by omega)
   have hbw:=HB.out.2
   have hsz:=HB.out.1.lt
   have hS:=HS.out.ext (show Below w.heap.size w wr by rw [<-HGW.out];exact hbw)
   obtain ⟨cs,hcs,hcell⟩:=hS.at_ hy
   have hcl1:cs.length=2:=eTx.len hcs
   have hone:=eTx.one hcs
   have hcz:(Tryz.prog.info? 168).map (·.size)=some cs.length:=by rw [hcl1];kernel_rfl
   have C7:=Blk.new wr 168 (([.int .i64 0,.slice none 0 0]:List Value)).toArray
   have hth7:=Blk.there (o:=0) (n:=2) C7 (by simp)
   obtain ⟨B7,hg7⟩:=Blk.lay cs 0 C7 (by rw [hcl1];simp)
   rw [qai _ _ (by rw [hcl1];rfl)] at B7
   have hb7:Below wr.heap.size wr ((wr.alloc (.cells #[.int .i64 0,.slice none 0 0] 168)).setCells wr.heap.size 0 cs):=((zb _ _).alloc (zl _) _).grown hg7 (by simp) (fun k hk=>by injection hk with hk;omega)
   clear hg7 C7
   have hrg:wr.rangeAt b0 (off+k * 2) cs:=fun j u hu=>hcell j u hu
   have HR:=zh hrg
   clear hrg hcell hS hy
   go_upto_region 5 with (first|((with_reducible refine sT 15 ?_);(refine wpList_load_mid rfl 168 _ rfl b0 (off+k * 2) rfl cs _ HR.out Tryz.underlying168 rfl hcz ?_)) |
    ((with_reducible refine sS 5 ?_);(refine wpList_store_mid rfl 168 _ _ rfl wr.heap.size 0 cs.toArray rfl rfl ?s5 ?s6 (all_oneCell_toArray hone) ?_)))
   case s5=>exact (show cs.toArray.size=2 by simp [hcl1]) ▸ hth7
   case s6=>rw [List.size_toArray];exact hcz
   have HC:=zh (eTx.ext hcs hb7)
   clear hcs
   generalize (wr.alloc (.cells #[.int .i64 0,.slice none 0 0] 168)).setCells wr.heap.size 0 cs=W7 at *
   have HF:=zh (qmu HC.out (HK.out y (List.mem_of_getElem? HY.out)))
   go_wp2_with ((with_reducible refine sT 18 ?_);(refine wpList_load_mid rfl 168 _ rfl wr.heap.size 0 rfl cs _ (Blk.whole B7) Tryz.underlying168 rfl hcz ?_))
   refine HF.out.mono ?_
   rintro e w4 ⟨cs4,rfl,hr4,hb4⟩
   clear HF HC B7
   have hcl4:cs4.length=2:=eTx.len hr4
   have hone4:=eTx.one hr4
   have hcz4:(Tryz.prog.info? 168).map (·.size)=some cs4.length:=by rw [hcl4];kernel_rfl
   have hr4:=eTx.mono hr4 (G:=fun b=>go<b) (fun b h=>by have:=hb7.size;omega)
   have hE4:=Els.snoc ((HE.out.ext hb7).ext hb4) HY.out hr4
   have hfl:css.flatten.length=k * 2:=by have h9:=HE.out.flen;rw [List.length_take,Nat.min_eq_left (by have:=HL.out;omega)] at h9;exact h9
   have B4:=(HB.out.1.ext hb7).ext hb4
   have hbw4:=(hbw.trans (zm hb7 (Nat.le_of_lt hsz))).trans (zm hb4 (Nat.le_trans (Nat.le_of_lt hsz) hb7.size))
   have hkk:(k+1) * 2<=n * 2:=Nat.mul_le_mul_right _ hlt
   have hth:=Blk.there (o:=k * 2) (n:=2) B4 (by rw [List.length_append,List.length_drop,hfl,hZl];omega)
   obtain ⟨B5,hg5⟩:=Blk.lay cs4 (k * 2) B4 (by rw [List.length_append,List.length_drop,hfl,hZl];omega)
   rw [qed css.flatten Z cs4 k 2 hfl hcl4 (by rw [hZl];exact hkk)] at B5
   have hE5:=Els.keep hE4 (Keep.grown hg5 (fun g hg hlt=>by injection hg with hg;omega))
   have hbw5:=hbw4.grown hg5 (Nat.le_of_lt B4.lt) (fun k hk=>by injection hk with hk;omega)
   have HE5:=zh hE5
   have HB5:=zh (show Blk _ go 168 ((css++[cs4]).flatten++Z.drop ((k+1) * 2)).toArray/\Below go w _ from ⟨by rw [List.flatten_append,List.flatten_singleton];exact B5,hbw5⟩)
   clear hE5 hg5 B5 hbw5 hE4 hr4 hfl B4 hbw4 hbw
   go_upto_region 6 with ((with_reducible refine sS 20 ?_);(refine wpList_store_mid rfl 168 _ _ rfl go (k * 2) cs4.toArray rfl rfl ?s7 ?s8 (all_oneCell_toArray hone4) ?_))
   case s7=>exact (show cs4.toArray.size=2 by simp [hcl4]) ▸ hth
   case s8=>rw [List.size_toArray];exact hcz4
   generalize w4.setCells go (k * 2) cs4=W5 at *
   clear hth hone hone4
   go_wp2_with fail
   go_roundw
   case rel=>exact ⟨k+1,_,by go_num,by omega,HE5,HB5⟩
   case measure=>simp [intOf];omega
  ·obtain rfl:k=n:=by omega
   have hd:decide ((k:Int)<(k:Int))=false:=by simp
   have hxk:x.length=k:=HL.out
   subst hxk
   have hE:=HE.out
   rw [List.take_length] at hE
   have hB:=HB.out
   rw [List.drop_eq_nil_of_le (by omega),List.append_nil] at hB
   have HR:=zh (show OwnE eTx 168 wr w.heap.size (fun b=>w.heap.size<=b/\(some ⟨go,0,none⟩:Option Addr)≠some ⟨b,0,none⟩) (some ⟨go,0,none⟩) x.length x.length x from ⟨css,qbz hB.1 hE.flen (by rw [HGW.out];exact zl _) hn,hE.mono (fun b h=>⟨by have:=HGW.out;omega,fun e=>by injection e with e;injection e with e;omega⟩),rfl⟩)
   have hbw:Below w.heap.size w wr:=by rw [<-HGW.out];exact hB.2
   clear hE hB HE HB
   go_wp2
   go_ret
   exact ⟨_,rfl,HR.out,hbw⟩
end Go.Proofs.YtdjbpcnhnkemiaaGreat.tp
namespace Go.Proofs.YtdjbpcnhnkemiaaGreat.lib
open Go.ChangeShapes Go.WideShapes Go.ChangeAt Go.RowKit
section
variable {P:Program} {ops:Array Oper} {Q:Exit->Act->World->Prop} {md:Region.Mode} {S:World->Prop}
inductive Br where
 | fin:Br
 | seq:List (Nat × Bool)->Br->Br
 | two:Nat->Br->Nat->Br->Br
 | three:Nat->Br->Nat->Br->Nat->Br->Br
def BrQ (K:Act->World->Prop) (Q:Exit->Act->World->Prop):Exit->Act->World->Prop
 | .normal,a,w=>K a w
 | e,a,w=>Q e a w
def wpBr (P:Program) (ops:Array Oper) (Q:Exit->Act->World->Prop) (S:World->Prop):Br->Act->World->Prop
 | .fin=>fun a w=>Q .normal a w
 | .seq l t=>fun a w=>qam P ops (BrQ (wpBr P ops Q S t) Q) S l a w
 | .two i t j u=>fun a w=>qam P ops (BrQ (wpBr P ops Q S t) Q) S [(i,false)] a w/\qam P ops (BrQ (wpBr P ops Q S u) Q) S [(j,false)] a w
 | .three i t j u k v=>fun a w=>qam P ops (BrQ (wpBr P ops Q S t) Q) S [(i,false)] a w/\qam P ops (BrQ (wpBr P ops Q S u) Q) S [(j,false)] a w/\qam P ops (BrQ (wpBr P ops Q S v) Q) S [(k,false)] a w
def qka (md:Region.Mode) (ops:Array Oper):List (Nat × Bool)->Array Bool->Bool
 | [],_=>true
 | (i,true)::r,listed=>(Region.ready md ops listed).contains i && Region.free md ops listed i && qka md ops r (listed.setIfInBounds i true)
 | (i,false)::r,listed=>(match Region.ready md ops listed with | [j]=>j == i|_=>false) && qka md ops r (listed.setIfInBounds i true)
def brOk (md:Region.Mode) (ops:Array Oper):Br->Array Bool->Bool
 | .fin,listed=>(Region.ready md ops listed).isEmpty
 | .seq l t,listed=>qka md ops l listed && brOk md ops t (lay l listed)
 | .two i t j u,listed=>(Region.ready md ops listed == [i,j]) && brOk md ops t (listed.setIfInBounds i true) && brOk md ops u (listed.setIfInBounds j true)
 | .three i t j u k v,listed=>(Region.ready md ops listed == [i,j,k]) && brOk md ops t (listed.setIfInBounds i true) && brOk md ops u (listed.setIfInBounds j true) && brOk md ops v (listed.setIfInBounds k true)
def high:Br->Nat
 | .fin=>0
 | .seq l t=>l.length+high t
 | .two _ t _ u=>1+max (high t) (high u)
 | .three _ t _ u _ v=>1+max (high t) (max (high u) (high v))
theorem BrQ.mono_op {K2:Act->World->Prop} {i:Nat} {a:Act} {w:World} {K:Act->World->Prop} (h:wpOp P ops (BrQ K2 Q) i K a w):wpOp P ops Q i K a w:=by
 unfold wpOp at *
 split
 ·exact by simpa [*] using h
 ·rename_i o ho
  simp only [ho] at h
  split
  ·rename_i hw
   simp only [hw,if_true] at h
   rcases h with h|h
   ·refine .inl ?_
    unfold Oper.wp at *
    generalize (execOp a.eval o).run P w=r at *
    cases r with
    | ok n w' =>
     cases n <;> simp only [Oper.upon] at h ⊢
     case value u=>exact h
     case skip=>exact h
     case defer d=>exact h
     case enter f args =>
      refine Calls.mono h fun e w'' he=>?_
      cases e with
      | returned u=>exact he
      | panicked c=>exact he
      | outgrown=>exact he
     case row row args=>exact h
    | halt x w' =>
     cases x <;> simp only [Oper.upon] at h ⊢
     case panic u=>exact h
   ·exact .inr h
  ·rename_i hw
   simp only [hw] at h
   exact h
theorem perm1 {K:Act->World->Prop} {i:Nat} {a:Act} {w:World} (h:qam P ops (BrQ K Q) S [(i,false)] a w):wpOp P ops Q i (fun a' w'=>S w'/\K a' w') a w:=by
 have h:wpOp P ops (BrQ K Q) i (fun a' w'=>S w'/\K a' w') a w:=by with_unfolding_all exact h
 exact BrQ.mono_op h
theorem qfv {K:Act->World->Prop} {m:Nat} (hs:Region.noSelect ops=true) (hQ:∀ c a d v w,Q (.panic c) (a.put d v) w->Q (.panic c) a w) :
  ∀ (l:List (Nat × Bool)) (fuel:Nat) (listed:Array Bool) (a:Act) (w:World),qka md ops l listed=true->l.length+m<=fuel->S w->qam P ops (BrQ K Q) S l a w ->
   (∀ fuel a w,m<=fuel->S w->K a w->wpAnyH P md ops Q S fuel (lay l listed) a w)->wpAnyH P md ops Q S fuel listed a w
 | [],fuel,listed,a,w,hp,hf,hS,h,hK=>hK fuel a w (by simpa using hf) hS (by with_unfolding_all exact h)
 | (i,true)::r,0,listed,a,w,_,hf,_,_,_=>absurd hf (by simp)
 | (i,false)::r,0,listed,a,w,_,hf,_,_,_=>absurd hf (by simp)
 | (i,true)::r,fuel+1,listed,a,w,hp,hf,hS,h,hK=>by
  simp only [qka,Bool.and_eq_true] at hp
  obtain ⟨⟨h1,h2⟩,h3⟩:=hp
  have h:∃ o v,ops[i]? = some o/\YieldsIf P ops S o v a/\qam P ops (BrQ K Q) S r (a.put o.dst v) w:=by with_unfolding_all exact h
  obtain ⟨o,v,ho,hy,hr⟩:=h
  exact wpAnyH_take ho hs h2 h1 (fun c a w=>hQ c a _ _ w) hy hS (qfv hs hQ r fuel _ _ _ h3 (by simp at hf;omega) hS hr hK)
 | (i,false)::r,fuel+1,listed,a,w,hp,hf,hS,h,hK=>by
  simp only [qka,Bool.and_eq_true] at hp
  obtain ⟨h1,h3⟩:=hp
  have hr:Region.ready md ops listed=[i]:=by
   revert h1
   match Region.ready md ops listed with
   | []=>simp
   | [j]=>simp
   | _::_::_=>simp
  have h:wpOp P ops (BrQ K Q) i (fun a' w'=>S w'/\qam P ops (BrQ K Q) S r a' w') a w:=by with_unfolding_all exact h
  refine wpAnyH_all hr (by simp) ?_
  intro j hj
  have hj:j=i:=by simpa using hj
  subst hj
  exact wpOp_mono (fun a' w' h'=>⟨h'.1,qfv hs hQ r fuel _ a' w' h3 (by simp at hf;omega) h'.1 h'.2 hK⟩) (BrQ.mono_op h)
theorem qob (hs:Region.noSelect ops=true) (hQ:∀ c a d v w,Q (.panic c) (a.put d v) w->Q (.panic c) a w) :
  ∀ (t:Br) (fuel:Nat) (listed:Array Bool) (a:Act) (w:World),brOk md ops t listed=true->high t<=fuel->S w->wpBr P ops Q S t a w->wpAnyH P md ops Q S fuel listed a w:=by
 intro t
 induction t with
 | fin =>
  intro fuel listed a w hp _ _ h
  exact wpAnyH_done (by simpa [brOk] using hp) h fuel
 | seq l t ih =>
  intro fuel listed a w hp hf hS h
  simp only [brOk,Bool.and_eq_true] at hp
  exact qfv (m:=high t) hs hQ l fuel listed a w hp.1 hf hS h (fun fuel a w hf hS hk=>ih fuel _ a w hp.2 hf hS hk)
 | two i t j u iht ihu =>
  intro fuel listed a w hp hf hS h
  simp only [brOk,Bool.and_eq_true,beq_iff_eq] at hp
  obtain ⟨⟨h0,h1⟩,h2⟩:=hp
  have hf:1+max (high t) (high u)<=fuel:=hf
  obtain ⟨f,rfl⟩:∃ f,fuel=f+1:=⟨fuel - 1,by omega⟩
  refine wpAnyH_all h0 (by simp) ?_
  intro k hk
  simp only [List.mem_cons,List.not_mem_nil,or_false] at hk
  rcases hk with rfl|rfl
  ·exact wpOp_mono (fun a' w' h'=>⟨h'.1,iht f _ a' w' h1 (by omega) h'.1 h'.2⟩) (perm1 h.1)
  ·exact wpOp_mono (fun a' w' h'=>⟨h'.1,ihu f _ a' w' h2 (by omega) h'.1 h'.2⟩) (perm1 h.2)
 | three i t j u k v iht ihu ihv =>
  intro fuel listed a w hp hf hS h
  simp only [brOk,Bool.and_eq_true,beq_iff_eq] at hp
  obtain ⟨⟨⟨h0,h1⟩,h2⟩,h3⟩:=hp
  have hf:1+max (high t) (max (high u) (high v))<=fuel:=hf
  obtain ⟨f,rfl⟩:∃ f,fuel=f+1:=⟨fuel - 1,by omega⟩
  refine wpAnyH_all h0 (by simp) ?_
  intro m hm
  simp only [List.mem_cons,List.not_mem_nil,or_false] at hm
  rcases hm with rfl|rfl|rfl
  ·exact wpOp_mono (fun a' w' h'=>⟨h'.1,iht f _ a' w' h1 (by omega) h'.1 h'.2⟩) (perm1 h.1)
  ·exact wpOp_mono (fun a' w' h'=>⟨h'.1,ihu f _ a' w' h2 (by omega) h'.1 h'.2⟩) (perm1 h.2.1)
  ·exact wpOp_mono (fun a' w' h'=>⟨h'.1,ihv f _ a' w' h3 (by omega) h'.1 h'.2⟩) (perm1 h.2.2)
theorem qdv {id:Nat} {a:Act} {w:World} (t:Br) (hm:P.follows .mixedOrders=true) (hc:(Region.noSelect ops && brOk .any ops t (Array.replicate ops.size false) && decide (high t<=ops.size))=true)
  (hS:S w.drew) (h:wpBr P ops (NoPanic Q) S t a w.drew):(Code.region id ops true).wp P Q a w:=by
 simp only [Bool.and_eq_true,decide_eq_true_eq] at hc
 obtain ⟨⟨h1,h2⟩,h3⟩:=hc
 exact wp_region_noPanic (wp_region_held_drew (S:=S) hm hS (fun _=>qob h1 (fun _ _ _ _ _ h=>h) t ops.size _ a _ h2 h3 hS h))
theorem qcu {a:Act} {w:World} (h:Q .normal a w):wpBr P ops (NoPanic Q) S .fin a w:=h
theorem qbp {l:List (Nat × Bool)} {t:Br} {a:Act} {w:World} (h:qam P ops (BrQ (wpBr P ops Q S t) Q) S l a w):wpBr P ops Q S (.seq l t) a w:=h
theorem qff {i j:Nat} {t u:Br} {a:Act} {w:World} (h1:qam P ops (BrQ (wpBr P ops Q S t) Q) S [(i,false)] a w) (h2:qam P ops (BrQ (wpBr P ops Q S u) Q) S [(j,false)] a w):wpBr P ops Q S (.two i t j u) a w:=⟨h1,h2⟩
theorem qqn {i j k:Nat} {t u v:Br} {a:Act} {w:World} (h1:qam P ops (BrQ (wpBr P ops Q S t) Q) S [(i,false)] a w) (h2:qam P ops (BrQ (wpBr P ops Q S u) Q) S [(j,false)] a w) (h3:qam P ops (BrQ (wpBr P ops Q S v) Q) S [(k,false)] a w):wpBr P ops Q S (.three i t j u k v) a w:=⟨h1,h2,h3⟩
theorem qaw {K:Act->World->Prop} {a:Act} {w:World} (h:K a w):qam P ops (BrQ K Q) S [] a w:=by with_unfolding_all exact h
end
end Go.Proofs.YtdjbpcnhnkemiaaGreat.lib
namespace Go.Proofs.YtdjbpcnhnkemiaaGreat.tp
open Go.ChangeShapes Go.WideShapes Go.ChangeAt Go.RowKit Go.Proofs.YtdjbpcnhnkemiaaGreat.lib
variable {w w':World}
variable {n c g B b off i j k m n2 n3 c2 c3 c4 c5 c6 gs gn np lo gr gd id b2 off2:Nat}
variable {A A2 A3 A4 A5 A6:Option Addr}
variable {cs:List Value}
variable {l r:List UInt8}
variable {rs:List (List UInt8)}
variable {s o e:Int}
variable {nm:ByteArray}
variable {F G:qab}
variable {x:DBd}
theorem copyK {x:List BlkD} (h:Sl eBlk w F A n c x) (hn:n<=1000000):Calls Tryz.prog 184 #[.slice A n c] w (Copied eBlk 261 x w):=by
 obtain ⟨css,h1,h2,h3,h4,h5⟩:=h.clone
 exact (cloneK css.flatten A n c w hn h1 h2 h3).mono fun e w' h=>Copied.of_c flat_blk h5 rfl h4 h
theorem OwnE.slB {α:Type} {E:Enc α} {t:TypeId} {xs:List α} (h:OwnE E t w B F A n c xs) (hB:∀ b,A=some ⟨b,0,none⟩->G b) (hF:∀ b,F b->G b):Sl E w G A n c xs:=by
 obtain ⟨css,h1,h2,h3⟩:=h
 refine ⟨css,?_,h2.mono hF,h3⟩
 rcases RowF.of_row (F:=fun _=>True) (Row.of_own h1) (fun _ _ _=>trivial) with q|q|⟨b,off,q1,q2,q3,q4,q5⟩
 ·exact .inl q
 ·exact .inr (.inl q)
 ·refine .inr (.inr ⟨b,off,q1,q2,hB b ?_,q4,q5⟩)
  rcases h1.2 with ⟨z,_⟩|⟨g',cap,cur,z,_⟩
  ·injection z with z;rw [z] at q1;cases q1
  ·injection z with z;rw [z] at q1 ⊢;injection q1 with q1;injection q1 with q1;rw [q1]
theorem OwnE.keepF {α:Type} {E:Enc α} (hf:Flat E) {t:TypeId} {x:List α} (h:OwnE E t w B F A n c x) (hk:Keep G w w') (hA:∀ b,A=some ⟨b,0,none⟩->G b):OwnE E t w' B F A n c x:=by
 obtain ⟨css,h1,h2,h3⟩:=h
 exact ⟨css,qox h1 hk hA,⟨h2.1,fun i cs y e1 e2=>hf.any (h2.2 i cs y e1 e2) _ _⟩,h3⟩
def qkh (x:LedD):Prop:=(x.2.1.length<=1000/\∀ y∈x.2.1,okTx y)/\x.2.2.1.length<=1000/\∀ l∈x.2.2.2,l.length<=1000/\∀ y∈l,okTx y
def N1 (n:Nat) (A:Option Addr):qab:=fun b=>n<=b/\A≠some ⟨b,0,none⟩
def OwnLw (x:LedD) (B:Nat) (w':World) (A A2:Option Addr) (c2:Nat) (A3:Option Addr):Prop :=
 Sl eTx w' (N1 B A2) A x.2.1.length x.2.1.length x.2.1/\OwnE eBlk 261 w' B (N1 B A2) A2 x.2.2.1.length c2 x.2.2.1/\Sl (eSl eTx) w' (N1 B A2) A3 x.2.2.2.length x.2.2.2.length x.2.2.2
def OwnL (x:LedD) (w:World) (e:Ending) (w':World):Prop:=∃ A A2 c2 A3,e=.returned (.agg #[.int .i64 x.1,.slice A x.2.1.length x.2.1.length,.slice A2 x.2.2.1.length c2,.slice A3 x.2.2.2.length x.2.2.2.length])/\OwnLw x w.heap.size w' A A2 c2 A3/\Below w.heap.size w w'
theorem OwnL.owned {x:LedD} {e:Ending} (h:OwnL x w e w'):qfn eLed x w e w':=by
 obtain ⟨A,A2,c2,A3,h1,⟨h2,h3,h4⟩,h5⟩:=h
 exact ⟨_,h1,qkc (h2.mono (fun b h=>h.1)) (h3.sl (fun b h _=>h) (fun b h=>h.1)) (h4.mono (fun b h=>h.1)),h5⟩
theorem nil_at (D:List Value) (z:Value) (n k:Nat) (hD:D.length=k) (hk:k<n):(D++(List.replicate n z).drop (k * 1)).toArray[k]? = some z:=by
 subst hD
 simp [List.getElem?_append_right,List.getElem?_replicate]
 omega
theorem set_at (D Z:List Value) (v:Value) (k:Nat) (hD:D.length=k) (hk:k<Z.length):(D++Z.drop (k * 1)).toArray.setIfInBounds k v=((D++[v])++Z.drop (k+1)).toArray:=by
 subst hD
 rw [Nat.mul_one,List.drop_eq_getElem_cons hk,List.setIfInBounds_toArray,List.set_append_right _ _ (zl _),Nat.sub_self,List.set_cons_zero]
 simp
theorem lown_ {x:LedD} (h:eLed.rel w F cs x) (hok:qkh x) (h3k:x.2.2.2.length<=1000):Calls Tryz.prog 110 #[.agg cs.toArray] w (OwnL x w):=by
 obtain ⟨A,n,c,A2,n2,c2,A3,n3,c3,rfl,h1,h2,h3⟩:=qei h
 have hn3:n3<=1000:=by have:=h3.len;omega
 have HS1:=zh h1
 have HS2:=zh h2
 have HS3:=zh h3
 have hn2:n2<=1000:=by have:=h2.len;have:=hok.2.1;omega
 have HOK:=zh hok
 obtain ⟨i0,hi,hz0,hz1,hz2⟩:=ip Tryz.prog 143 (.slice none 0 0) 1 24
 have hmake:∀ w,(Instr.makeSlice 145 (.int .i64 (n3:Int)) (.int .i64 (n3:Int))).run Tryz.prog w=.ok (.slice (some ⟨w.heap.size,0,none⟩) n3 n3) (w.alloc (.cells (Array.replicate n3 (.slice none 0 0)) 143)):=fun w=>by
  have h:=run_make (P:=Tryz.prog) w 145 143 i0 _ Tryz.underlying145 hi hz0 .i64 .i64 (n3:Int) (n3:Int) (by omega) (Int.le_refl _) (by rw [hz2];omega) (by omega)
  rw [h,hz1,Nat.mul_one,Int.toNat_natCast]
  show Result.ok _ (w.alloc (.cells (madeCells (Array.replicate 1 (.slice none 0 0)) n3) _))=_
  rw [qoh 1 _ _ (by decide)]
 clear h h1 h2 h3 hok hi hz0 hz1 hz2
 go_enter Tryz.func110,Tryz.ntmps110
 go_upto_region 1 with fail
 obtain ⟨W,hW_,hb1,BL,BR⟩:=al2 w 147 147 #[.int .i64 x.1,.slice A n c,.slice A2 n2 c2,.slice A3 n3 c3] #[.int .i64 0,.slice none 0 0,.slice none 0 0,.slice none 0 0]
 rw [<-hW_]
 clear hW_
 obtain ⟨gl,hgl⟩:∃ g,w.heap.size=g:=⟨_,rfl⟩
 obtain ⟨gr,hgr⟩:∃ g,w.heap.size+1=g:=⟨_,rfl⟩
 have hgrw:w.heap.size<=gr:=by omega
 have hglr:gl<gr:=by omega
 rw [hgr] at BR ⊢
 rw [hgl] at BL ⊢
 clear hgr hgl
 have HBL:=zh BL
 have HBR:=zh BR
 have HW1:=zh hb1
 have hww:=hb1.size
 clear BR
 have D:∀ w',Below W.heap.size W.drew w'->w'.cell? ⟨gl,0,none⟩=some (.int .i64 x.1)/\w'.cell? ⟨gl,1,none⟩=some (.slice A n c)/\w'.cell? ⟨gl,2,none⟩=some (.slice A2 n2 c2)/\w'.cell? ⟨gl,3,none⟩=some (.slice A3 n3 c3):=fun w' h=>four BL (zt (zb _ _).drew h)
 clear BL
 refine Code.wp_mono (Q:=fun e a' w'=>e=.normal/\∃ A5 A6 c6 g1 g3,a'=({ tmps:=#[.agg #[.int .i64 x.1,.slice A n c,.slice A2 n2 c2,.slice A3 n3 c3],.pointer (some ⟨gl,0,none⟩),.pointer (some ⟨gr,0,none⟩),.pointer (some ⟨g3,0,none⟩),undef,undef,.pointer (some ⟨gl,0,none⟩),.int .i64 x.1,.pointer (some ⟨gl,1,none⟩),.slice A n c,.slice A5 x.2.1.length x.2.1.length,.pointer (some ⟨gl,2,none⟩),.slice A2 n2 c2,.slice A6 x.2.2.1.length c6,.pointer (some ⟨gl,3,none⟩),.slice A3 n3 c3,.int .i64 (n3:Int),.slice (some ⟨g1,0,none⟩) n3 n3,.agg #[.int .i64 x.1,.slice A5 x.2.1.length x.2.1.length,.slice A6 x.2.2.1.length c6,.slice (some ⟨g1,0,none⟩) n3 n3],undef,undef,undef,undef,undef,undef,undef,undef,undef,undef,undef,undef,undef,undef,undef,undef],defers:=[] }:Act)/\Below W.heap.size W w'/\Sl eTx w' (fun b=>N1 W.heap.size A6 b/\b≠g1) A5 x.2.1.length x.2.1.length x.2.1/\OwnE eBlk 261 w' w.heap.size (N1 w.heap.size A6) A6 x.2.2.1.length c6 x.2.2.1/\(∀ b,A6=some ⟨b,0,none⟩->W.heap.size<=b/\b≠g1)/\Blk w' g1 143 (Array.replicate n3 (.slice none 0 0))/\Blk w' g3 147 [.int .i64 x.1,.slice A5 x.2.1.length x.2.1.length,.slice A6 x.2.2.1.length c6,.slice (some ⟨g1,0,none⟩) n3 n3].toArray/\W.heap.size<=g1/\W.heap.size<=g3/\g1≠g3) ?_ ?_
 case refine_2 =>
  refine qdv (S:=fun w'=>Below W.heap.size W.drew w') (.seq [(0,true),(1,true),(2,true),(3,true),(5,true),(6,true),(8,true),(9,true),(10,true)] (.three 4 (.three 7 (.two 11 (.seq [(12,true),(13,false),(14,false)] .fin) 13 (.seq [(11,false)] (.seq [(12,true),(14,false)] .fin))) 11 (.two 7 (.seq [(12,true),(13,false),(14,false)] .fin) 13 (.seq [(7,false)] (.seq [(12,true),(14,false)] .fin))) 13 (.two 7 (.seq [(11,false)] (.seq [(12,true),(14,false)] .fin)) 11 (.seq [(7,false)] (.seq [(12,true),(14,false)] .fin)))) 11 (.two 4 (.two 7 (.seq [(12,true),(13,false),(14,false)] .fin) 13 (.seq [(7,false)] (.seq [(12,true),(14,false)] .fin))) 13 (.seq [(4,false)] (.seq [(7,false)] (.seq [(12,true),(14,false)] .fin)))) 13 (.two 4 (.two 7 (.seq [(11,false)] (.seq [(12,true),(14,false)] .fin)) 11 (.seq [(7,false)] (.seq [(12,true),(14,false)] .fin))) 11 (.seq [(4,false)] (.seq [(7,false)] (.seq [(12,true),(14,false)] .fin)))))) (by kernel_rfl) (by kernel_rfl) (zb _ _) ?_
  refine qbp ?_
  repeat ((first|refine pT ?_|refine pF ?_);try go_frame)
  refine qaw ?_
  clear D
  have hWv:Below W.heap.size W W.drew:=(zb _ _).drew
  have HC:=zh (zb W.heap.size W.drew)
  generalize W.drew=v at *
  have HW:=zh hWv
  have hv0:W.heap.size<=v.heap.size:=hWv.size
  clear hWv
  repeat' (first
   | (with_reducible refine qqn ?_ ?_ ?_)
   | (with_reducible refine qff ?_ ?_)
   | (with_reducible refine qbp ?_)
   | ((with_reducible refine pG ?_);(refine pT ?_);try go_frame)
   | ((with_reducible refine pN 4 ?_);(refine pD fun K hK=>?_);go_simp;
       (refine (qoj (w:=v) (HS1.out.ext (HW1.out.tr (HW.out.trans HC.out))) HOK.out.1.1 HOK.out.1.2).mono ?_);
       (rintro e v ⟨A5,rfl,ho,hb⟩);
       (have hz4:=hb.size);
       (have H4:=zh ((ho.bound qia).slB (fun b e=>ho.lt e) (fun b h=>⟨h.1.1,h.2⟩)));
       (replace HC:=zh (HC.out.tr hb));
       (refine hK.out _ _ HC.out ?_);
       (have hb:=zh hb);clear hK K ho)
   | ((with_reducible refine pN 7 ?_);(refine pD fun K hK=>?_);go_simp;
       (refine (copyK (w:=v) (HS2.out.ext (HW1.out.tr (HW.out.trans HC.out))) (by omega)).mono ?_);
       (rintro e v ⟨A6,c6,rfl,ho,hb⟩);
       (have hz7:=hb.size);
       (have hq7:=HC.out.size);
       (have HN:=zh (fun b e=>ho.lt (b:=b) e));
       (have H7:=zh ((ho.base (B':=w.heap.size) (by omega)).mono (G:=N1 w.heap.size A6) (fun b h=>⟨by have:=h.1;omega,h.2⟩)));
       (replace HC:=zh (HC.out.tr hb));
       (refine hK.out _ _ HC.out ?_);
       (have hb:=zh hb);clear hK K ho)
   | ((with_reducible refine pN 11 ?_);(refine pD fun K hK=>?_);go_simp;
       (have hb:=zh ((zb v.heap.size v).alloc (zl _) (.cells (Array.replicate n3 (.slice none 0 0)) 143)));
       (have hq11:=HC.out.size);
       (have H11:=zh (Blk.new v 143 (Array.replicate n3 (.slice none 0 0))));
       (have hz11:=H11.out.lt);
       (replace HC:=zh (HC.out.tr hb.out));
       (refine hK.out _ _ HC.out ?_);clear hK K;
       (obtain ⟨g1,hg1⟩:∃ g,v.heap.size=g:=⟨_,rfl⟩);
       (rw [hg1] at H11 hz11 hq11 ⊢);(have hg1a:=Nat.le_of_eq hg1);clear hg1;
       (generalize v.alloc (.cells (Array.replicate n3 (.slice none 0 0)) 143)=v at *))
   | ((with_reducible refine pN 13 ?_);(refine pD fun K hK=>?_);go_simp;
       (have hb:=zh ((zb v.heap.size v).alloc (zl _) (.cells #[.int .i64 0,.slice none 0 0,.slice none 0 0,.slice none 0 0] 147)));
       (have hq13:=HC.out.size);
       (have H13:=zh (Blk.new v 147 #[.int .i64 0,.slice none 0 0,.slice none 0 0,.slice none 0 0]));
       (have hz13:=H13.out.lt);
       (replace HC:=zh (HC.out.tr hb.out));
       (refine hK.out _ _ HC.out ?_);clear hK K;
       (obtain ⟨g3,hg3⟩:∃ g,v.heap.size=g:=⟨_,rfl⟩);
       (rw [hg3] at H13 hz13 hq13 ⊢);(have hg3a:=Nat.le_of_eq hg3);clear hg3;
       (generalize v.alloc (.cells #[.int .i64 0,.slice none 0 0,.slice none 0 0,.slice none 0 0] 147)=v at *))
   | ((with_reducible refine pN 14 ?_);
       (obtain ⟨cl,hcl⟩:∃ z,z=([.int .i64 x.1,.slice A5 x.2.1.length x.2.1.length,.slice A6 x.2.2.1.length c6,.slice (some ⟨g1,0,none⟩) n3 n3]:List Value):=⟨_,rfl⟩);
       (have hcll:cl.length=4:=by rw [hcl];rfl);
       (have B3:=H13.out.ext (w':=v) (by repeat (first|exact zb _ _|refine bl_tr ?_ (by assumption))));
       (have B1:=H11.out.ext (w':=v) (by repeat (first|exact zb _ _|refine bl_tr ?_ (by assumption))));
       (have H4':=H4.out.ext (w':=v) (by repeat (first|exact zb _ _|refine bl_tr ?_ (by assumption))));
       (have H7':=H7.out.ext (w':=v) (by repeat (first|exact zb _ _|refine bl_tr ?_ (by assumption))));
       (have hth:=Blk.there (o:=0) (n:=4) B3 (by simp));
       (refine qaj rfl (qae rfl) (fun K hK=>?_));
       (refine qao 147 (.tmp 3) (.tmp 18) rfl rfl g3 0 cl rfl (by rw [hcl];rfl) (by rw [hcll];exact hth) (by rw [hcll];kernel_rfl) (by rw [hcl];exact qig _ _ _ _ rfl rfl rfl rfl) ?_);
       (obtain ⟨B4,hg6⟩:=Blk.lay cl 0 B3 (by rw [hcll];simp));
       (rw [qai _ _ (by rw [hcll];rfl)] at B4);
       (have hb6:=HC.out.grown hg6 (by have:=HC.out.size;omega) (fun k hk=>by injection hk with hk;omega));
       (refine hK.out _ _ hb6 (qaw (qcu ?_)));
       (refine ⟨rfl,A5,A6,c6,g1,g3,rfl,HW.out.trans hb6,(((H4'.mono (G:=fun b=>b≠g3/\N1 W.heap.size A6 b/\b≠g1) (fun b h=>⟨?_,⟨?_,fun e=>?_⟩,?_⟩)).keep (Keep.grown hg6 (fun g hg h=>by injection hg with hg;exact h.1 hg.symm))).mono (fun b h=>h.2)),OwnE.keepF flat_blk H7' (Keep.grown (F:=fun b=>b≠g3) hg6 (fun g hg h=>by injection hg with hg;exact h hg.symm)) (fun b e=>?_),fun b e=>⟨?_,?_⟩,B1.grown hg6 (fun e=>?_),by rw [<-hcl];exact B4,?_,?_,?_⟩);
       all_goals (first|omega|(have h1:=h.1;have h2:=h.2;(try have h3:=HN.out b e);omega)|(have h3:=HN.out b e;omega)|(injection e with e;omega)))
   | (with_reducible refine qaw ?_))
 case refine_1 =>
  rintro e a9 w3 ⟨rfl,A5,A6,c6,g1,g3,rfl,hbW,h4,h7,hn,B1,B3,hl1,hl3,hne⟩
  have H4:=zh h4
  have H7:=zh h7
  have HN:=zh hn
  have hgrW:gr<W.heap.size:=HBR.out.lt
  have hbw3:=HW1.out.tr hbW
  have q3:=(HBL.out.ext hbW).cell 3
  have hz3:g1<w3.heap.size:=B1.lt
  have HB1:Hid (Blk w3 g1 143 (([]:List (List Value)).flatten++(List.replicate n3 (Value.slice none 0 0)).drop (0 * 1)).toArray/\w3.grownBy w3 (some g1)):=zh ⟨by simpa using B1,qby _ _⟩
  obtain ⟨cl,hcl⟩:∃ z,z=([.int .i64 x.1,.slice A5 x.2.1.length x.2.1.length,.slice A6 x.2.2.1.length c6,.slice (some ⟨g1,0,none⟩) n3 n3]:List Value):=⟨_,rfl⟩
  have hcl3:cl[3]? = some (.slice (some ⟨g1,0,none⟩) n3 n3):=by rw [hcl];rfl
  have hcll:cl.length=4:=by rw [hcl];rfl
  have honl:∀ u∈cl,u.oneCell'=true:=by rw [hcl];exact qig _ _ _ _ rfl rfl rfl rfl
  have HB3:=zh (show Blk w3 g3 147 cl.toArray from hcl ▸ B3)
  have HCL:=zh hcl
  have hzw:W.heap.size<=w3.heap.size:=hbW.size
  clear hcl h4 h7 hn D B1 B3
  go_wp2_with fail
  clear q3
  go_loopw [22] (fun i wr=>∃ (k:Nat) (css:List (List Value)),i=.int .i64 k/\k<=n3/\Hid (Els (eSl eTx) wr (fun b=>w3.heap.size<=b) css (x.2.2.2.take k))/\Hid (Blk wr g1 143 (css.flatten++(List.replicate n3 (Value.slice none 0 0)).drop (k * 1)).toArray/\w3.grownBy wr (some g1))) (fun i _=>n3 - (intOf i).toNat)
  case atStart=>exact ⟨0,[],rfl,Nat.zero_le _,zh (by simpa using Els.nil _ _),HB1⟩
  case round =>
   clear HB1
   obtain ⟨k,css,rfl,hk,HE,HB⟩:=hrel
   rcases Nat.lt_or_ge k n3 with hlt|hge
   ·have hd:decide ((k:Int)<(n3:Int))=true:=by simp;omega
    have hkn:(k:Int)<(n3:Int):=by omega
    obtain ⟨y,hy⟩:∃ y,x.2.2.2[k]? = some y:=⟨_,List.getElem?_eq_getElem (by have:=HS3.out.len;omega)⟩
    have hbr:Below w.heap.size w wr:=(hbw3.gw HB.out.2)
    have hzr:w3.heap.size<=wr.heap.size:=HB.out.2.size
    obtain ⟨b0,off,rfl,hnc,hFb,hbl⟩:=HS3.out.some_ (by omega)
    obtain ⟨cs,⟨A8,n8,c8,rfl,h8⟩,hcell⟩:=(HS3.out.ext hbr).at_ hy
    have q8:=hcell 0 _ rfl
    rw [show (eSl eTx).k=1 from rfl,Nat.mul_one,Nat.add_zero] at q8
    have H8:=zh h8
    have HY:=zh hy
    have BR3:Blk wr g3 147 cl.toArray:=HB3.out.grown HB.out.2 (by intro e;injection e with e;omega)
    have hfl:css.flatten.length=k:=by have h9:=HE.out.flen;rw [List.length_take,Nat.min_eq_left (by have:=HS3.out.len;omega),show (eSl eTx).k=1 from rfl,Nat.mul_one] at h9;exact h9
    clear hcell h8 hy
    go_upto_region 5 with fail
    clear q8
    have hdr:=(zb wr.heap.size wr).drew
    have D:=fun w' (hS:Blk w' g3 147 cl.toArray)=>show w'.cell? ⟨g3,3,none⟩=some (.slice (some ⟨g1,0,none⟩) n3 n3) from (hS.cell 3).trans (by simpa using hcl3)
    refine r2 (S:=fun w'=>Blk w' g3 147 cl.toArray) [(0,true),(1,true),(2,true),(3,true),(4,false),(5,true),(6,false)] BR3 ?_
    repeat ((first|refine pT ?_|refine pF ?_);try go_frame)
    have HF:=zh (qoj (H8.out.ext hdr) (HOK.out.2.2 y (List.mem_of_getElem? HY.out)).1 (HOK.out.2.2 y (List.mem_of_getElem? HY.out)).2)
    refine pD fun K hK=>?_;go_simp
    refine HF.out.mono ?_
    rintro e w4 ⟨A9,rfl,ho9,hb4⟩
    have hb34:=hdr.trans hb4
    have B34:=BR3.ext hb34
    have B14:=HB.out.1.ext hb34
    refine hK.out _ _ B34 ?_
    clear hK K HF
    repeat ((first|refine pT ?_|refine pF ?_);try go_frame)
    have q:=(B14.cell k).trans (nil_at _ _ _ _ hfl hlt)
    have f:=B14.frozen k
    have hg5:=qac w4 g1 k (.slice A9 y.length y.length)
    have B35:=B34.grown hg5 (by intro e;injection e with e;omega)
    have B15:=B14.set_ k (.slice A9 y.length y.length)
    rw [set_at _ _ _ _ hfl (by simpa using hlt)] at B15
    refine pD fun K hK=>?_;go_simp
    refine hK.out _ _ B35 (qad ?_)
    clear hK K q f D
    have hgr5:w3.grownBy (w4.setCell ⟨g1,k,none⟩ (.slice A9 y.length y.length)) (some g1):=qah (qbr HB.out.2 hb34) hg5
    have hdz:wr.heap.size<=wr.drew.heap.size:=zl _
    have HE5:=zh (Els.snoc ((HE.out.ext hb34).keep (Keep.grown hg5 (fun g hg h=>by injection hg with hg;omega))) HY.out (show (eSl eTx).rel _ (fun b=>w3.heap.size<=b) [.slice A9 y.length y.length] y from ⟨A9,_,_,rfl,((ho9.slB (G:=fun b=>wr.heap.size<=b) (fun b e=>(ho9.lt e).1) (fun b h=>h.1)).keep (Keep.grown hg5 (fun g hg h=>by injection hg with hg;omega))).mono (fun b h=>by omega)⟩))
    have HB5:=zh (show Blk (w4.setCell ⟨g1,k,none⟩ (.slice A9 y.length y.length)) g1 143 ((css++[[Value.slice A9 y.length y.length]]).flatten++(List.replicate n3 (Value.slice none 0 0)).drop ((k+1) * 1)).toArray/\w3.grownBy (w4.setCell ⟨g1,k,none⟩ (.slice A9 y.length y.length)) (some g1) from ⟨by rw [List.flatten_append,List.flatten_singleton,Nat.mul_one];exact B15,hgr5⟩)
    generalize w4.setCell ⟨g1,k,none⟩ (.slice A9 y.length y.length)=w5 at *
    clear hgr5 hg5 B35 B15 B14 B34 ho9 hb4 hb34 hdr HB HE
    go_wp2_with fail
    go_roundw
    case rel=>exact ⟨k+1,_,by go_num,by omega,HE5,HB5⟩
    case measure=>simp [intOf];omega
   ·obtain rfl:k=n3:=by omega
    have hd:decide ((k:Int)<(k:Int))=false:=by simp
    have hxk:x.2.2.2.length=k:=HS3.out.len
    have hE:=HE.out
    rw [<-hxk,List.take_length] at hE
    have hB:=HB.out.1
    rw [List.drop_eq_nil_of_le (by simp),List.append_nil] at hB
    have hgB:=HB.out.2
    have hbr:Below w.heap.size w wr:=(hbw3.gw hgB)
    have hbW5:Below W.heap.size W wr:=(hbW.gw hgB)
    have BR5:=HBR.out.ext hbW5
    have B3:=HB3.out.grown hgB (by intro e;injection e with e;omega)
    have hzr:w3.heap.size<=wr.heap.size:=hgB.size
    have hsz:(Tryz.prog.info? 147).map (·.size)=some cl.length:=by rw [hcll];kernel_rfl
    have hth:=Blk.there (o:=0) (n:=4) BR5 (by simp)
    obtain ⟨B9,hg9⟩:=Blk.lay cl 0 BR5 (by rw [hcll];simp)
    rw [qai _ _ (by rw [hcll];rfl)] at B9
    have hbw9:=(hbr.gw hg9)
    have hkg:Keep (fun b=>b≠g1) w3 wr:=Keep.grown hgB (fun g hg h=>by injection hg with hg;exact h hg.symm)
    have hk9:Keep (fun b=>b≠gr) wr _:=Keep.grown hg9 (fun g hg h=>by injection hg with hg;exact h hg.symm)
    have hk39:Keep (fun b=>b≠g1/\b≠gr) w3 _:=(hkg.mono (fun b h=>h.1)).trans (hk9.mono (fun b h=>h.2))
    have hE9:=(hE.mono (G:=fun b=>b≠gr/\w3.heap.size<=b) (fun b h=>⟨by omega,h⟩)).keep (hk9.mono (fun b h=>h.1))
    have HL:=zh (show OwnLw x w.heap.size _ A5 A6 c6 (some ⟨g1,0,none⟩) from ⟨((H4.out.mono (G:=fun b=>(b≠g1/\b≠gr)/\N1 w.heap.size A6 b) (fun b h=>⟨⟨h.2,by have:=h.1.1;omega⟩,⟨by have:=h.1.1;omega,h.1.2⟩⟩)).keep (hk39.mono (fun b h=>h.1))).mono (fun b h=>h.2),OwnE.keepF flat_blk H7.out hk39 (fun b e=>by have:=HN.out b e;omega),
     ⟨css,.inr (.inr ⟨g1,0,rfl,zl _,⟨by omega,fun e=>(HN.out g1 e).2 rfl⟩,by have:=hg9.size;omega,fun i u hu=>by rw [Nat.zero_add,(hB.grown hg9 (by intro e;injection e with e;omega)).cell];simpa using hu⟩),hE9.mono (fun b h=>⟨by omega,fun e=>by have:=HN.out b e;have:=h.2;exact absurd (OwnE.lt (H7.out.ext (w':=w3) (zb _ _)) e).2 (by omega)⟩),rfl⟩⟩)
    have hcl0:=HCL.out
    clear hk9 hk39 hkg hE hE9 H4 H7 HE HB
    go_wp2_with (first|((with_reducible refine sT 34 ?_);(refine wpList_load_mid rfl 147 _ rfl g3 0 rfl cl _ (Blk.whole B3) Tryz.underlying147 rfl hsz ?_))|((with_reducible refine sS 2 ?_);(refine wpList_store_mid rfl 147 _ _ rfl gr 0 cl.toArray rfl rfl ?s1 ?s2 (all_oneCell_toArray honl) ?_)))
    case s1=>exact (show cl.toArray.size=4 by simp [hcll]) ▸ hth
    case s2=>rw [List.size_toArray];exact hsz
    generalize wr.setCells gr 0 cl=w9 at *
    go_wp2
    exact bodyPost_ret (v:=.agg cl.toArray) (results_cell_row rfl _ _ gr _ _ (0,0) _ rfl B9 Tryz.underlying147 rfl (by rw [List.size_toArray];exact hsz)) rfl ⟨A5,A6,c6,some ⟨g1,0,none⟩,by rw [hcl0,hxk],HL.out,hbw9⟩
theorem lown0_ {x:LedD} (h:eLed.rel w F cs x) (hok:qkh x) (hx:x.2.2.2=[]):Calls Tryz.prog 110 #[.agg cs.toArray] w (OwnL x w):=lown_ h hok (by rw [hx];simp)
theorem lown1_ {x:LedD} (h:eLed.rel w F cs x) (hok:qkh x) (hx:x.2.1=[]) {l:List TxD} (hl:x.2.2.2=[l]):Calls Tryz.prog 110 #[.agg cs.toArray] w (OwnL x w):=lown_ h hok (by rw [hl];simp)
theorem qpa {P:Program} {f:FuncId} {fn:Func} (hf:P.funcs[f]? = some fn) (hname:(fn.name == "runtime.NumGoroutine")=false) (hb:fn.body.isNone=true) (hn:Extern.findNext fn=none)
  (he:Extern.find fn=some (Extern.Atomic.loadT .ptr)) {a:Addr} {b:Option Addr} {w:World} (hc:w.cell? a=some (.pointer b)):(callFunc f #[.pointer (some a)]).run P w=.ok (.value (.pointer b)) w:=by
 rw [run_callFunc_extern hf hname hb hn he]
 change (Sem.run P (do Extern.Atomic.read .ptr (<-asAddr (.pointer (some a)))) w).andThen _=_
 simp [Extern.Atomic.read,asAddr,hc,Result.andThen]
theorem qns {P:Program} {f:FuncId} {fn:Func} (hf:P.funcs[f]? = some fn) (hname:(fn.name == "runtime.NumGoroutine")=false) (hb:fn.body.isNone=true) (hn:Extern.findNext fn=none)
  (he:Extern.find fn=some Extern.Atomic.storeT) {a:Addr} {y:Option Addr} {u:Value} {w:World} (hc:w.cell? a=some u) (hz:w.frozen? a=false) :
  (callFunc f #[.pointer (some a),.pointer y]).run P w=.ok (.value (.tuple #[])) (w.setCell a (.pointer y)):=by
 rw [run_callFunc_extern hf hname hb hn he]
 change (Sem.run P (do
  store (<-asAddr (.pointer (some a))) (.pointer y) .atomic
  pure Extern.Atomic.none_) w).andThen _=_
 simp [asAddr,hc,hz,run_store P w a (.pointer y) .atomic rfl,Result.andThen,Extern.Atomic.none_]
theorem shape_blk {t:TypeId} {cs:Array Value} (h:Blk w g t cs):w.shape? g=some (t,cs.size):=by
 unfold Blk at h
 unfold World.shape?
 rw [h]
theorem qhr {s:Nat} {l:Value} {cs:Array Value} (h:Blk w s 157 #[l,.pointer (some ⟨g,0,none⟩)]) (hg:Blk w g 149 cs) (hc:cs.size=8):
  Calls Tryz.prog 37 #[.pointer (some ⟨s,1,none⟩)] w fun e w'=>e=.returned (.pointer (some ⟨g,0,none⟩))/\w=w':=by
 have hl:=qpa (P:=Tryz.prog) Tryz.func95 (by kernel_rfl) (by kernel_rfl) (by kernel_rfl) (by kernel_rfl) (h.cell 1)
 obtain ⟨j,hj⟩:∃ j,Tryz.prog.info? 149=some j:=Option.isSome_iff_exists.1 (by kernel_rfl)
 have hv:=Lib.run_from_unsafe (P:=Tryz.prog) (w:=w) (u:=149) ⟨g,0,none⟩ Tryz.underlying153 Tryz.underlying142 hj (shape_blk hg) (by rw [hc];kernel_rfl)
 clear hj
 go_enter Tryz.func37,Tryz.ntmps37
 go_wp2
 go_ret
 exact ⟨rfl,rfl⟩
theorem qmy {s:Nat} {l u z:Value} {cs:Array Value} (h:Blk w s 157 #[l,u]) (hg:w.cell? ⟨g,0,none⟩=some z):
  Calls Tryz.prog 36 #[.pointer (some ⟨s,1,none⟩),.pointer (some ⟨g,0,none⟩)] w fun e w'=>e=.returned (.tuple #[])/\w'=w.setCell ⟨s,1,none⟩ (.pointer (some ⟨g,0,none⟩)):=by
 have hl:=qns (P:=Tryz.prog) Tryz.func94 (by kernel_rfl) (by kernel_rfl) (by kernel_rfl) (by kernel_rfl) (y:=some ⟨g,0,none⟩) (h.cell 1) (h.frozen 1)
 have hv:=run_convert_to_unsafe (P:=Tryz.prog) (t:=149) Tryz.underlying142 Tryz.underlying153 (by kernel_rfl) hg
 go_enter Tryz.func36,Tryz.ntmps36
 go_wp2
 first|go_end0|refine bodyPost_ret (results_none rfl _ _ _) rfl ?_
 exact ⟨rfl,rfl⟩
def eState:Enc (DBd × LedD):=eDB.pair eLed
theorem qdd {L:LedD} (h:eState.rel w F cs (x,L)):∃ A n c A2 n2 c2 A3 n3 c3 A4 n4 c4 B m d B2 m2 d2 B3 m3 d3,cs=[.slice A n c,.slice A2 n2 c2,.slice A3 n3 c3,.slice A4 n4 c4,.int .i64 L.1,.slice B m d,.slice B2 m2 d2,.slice B3 m3 d3]/\eDB.rel w F [.slice A n c,.slice A2 n2 c2,.slice A3 n3 c3,.slice A4 n4 c4] x/\eLed.rel w F [.int .i64 L.1,.slice B m d,.slice B2 m2 d2,.slice B3 m3 d3] L:=by
 obtain ⟨a,b,e,h1,h2⟩:=h
 obtain ⟨A,n,c,A2,n2,c2,A3,n3,c3,A4,n4,c4,rfl,k1,k2,k3,k4⟩:=qav h1
 obtain ⟨B,m,d,B2,m2,d2,B3,m3,d3,rfl,l1,l2,l3⟩:=qei h2
 exact ⟨A,n,c,A2,n2,c2,A3,n3,c3,A4,n4,c4,B,m,d,B2,m2,d2,B3,m3,d3,by rw [e];rfl,h1,h2⟩
theorem qel {L:LedD} {n4:Nat} {ds:List Value} (h:eDB.rel w F [.slice A n c,.slice A2 n2 c2,.slice A3 n3 c3,.slice A4 n4 c4] x) (h2:eLed.rel w F ds L):eState.rel w F (.slice A n c::.slice A2 n2 c2::.slice A3 n3 c3::.slice A4 n4 c4::ds) (x,L) :=
 ⟨_,_,rfl,h,h2⟩
def Off (s lg d gs gn:Nat):qab:=fun b=>b≠s/\b≠lg/\b≠d/\b≠gs/\b≠gn
def On (s lg d gs gn:Nat):qab:=fun b=>b=d\/b=gs\/b=gn\/b=lg\/b=s
structure Sto (w:World) (s lg d gs gn np:Nat) (rs:List (List UInt8)) (x:DBd) (L:LedD):Prop where
 dk:∃ l,Dk w d gs gn np l (.slice none 0 0)/\Logd l np rs
 lgb:Lg w lg d (recs rs).length rs.length
 st:∃ g cs,Blk w s 157 #[.pointer (some ⟨lg,0,none⟩),.pointer (some ⟨g,0,none⟩)]/\Blk w g 149 cs.toArray/\eState.rel w (Off s lg d gs gn) cs (x,L)/\Off s lg d gs gn g
 ne:lg≠d/\lg≠gs/\lg≠gn/\s≠d/\s≠gs/\s≠gn/\s≠lg
section
variable {w w':World} {s lg d gs gn np:Nat} {rs:List (List UInt8)} {x:DBd} {L:LedD}
theorem Sto.ext (h:Sto w s lg d gs gn np rs x L) (hb:Below w.heap.size w w'):Sto w' s lg d gs gn np rs x L:=by
 obtain ⟨l,h1,h2⟩:=h.dk
 obtain ⟨g,cs,h3,h4,h5,h6⟩:=h.st
 exact ⟨⟨l,h1.ext hb,h2⟩,⟨h.lgb.blk.ext hb⟩,⟨g,cs,h3.ext hb,h4.ext hb,eState.ext h5 hb,h6⟩,h.ne⟩
theorem Sto.s_lt (h:Sto w s lg d gs gn np rs x L):s<w.heap.size:=by obtain ⟨g,cs,h3,_⟩:=h.st;exact h3.lt
theorem Sto.lt (h:Sto w s lg d gs gn np rs x L) (hb:On s lg d gs gn b):b<w.heap.size:=by
 obtain ⟨l,h1,h2⟩:=h.dk
 have:=h1.lt
 rcases hb with rfl|rfl|rfl|rfl|rfl
 ·exact this.1
 ·exact this.2.1
 ·exact this.2.2
 ·exact h.lgb.blk.lt
 ·exact h.s_lt
theorem Off.of_lo (h:∀ k,On s lg d gs gn k->k<n) (hb:n<=b):Off s lg d gs gn b:=by
 have h1:=h d (.inl rfl)
 have h2:=h gs (.inr (.inl rfl))
 have h3:=h gn (.inr (.inr (.inl rfl)))
 have h4:=h lg (.inr (.inr (.inr (.inl rfl))))
 have h5:=h s (.inr (.inr (.inr (.inr rfl))))
 refine ⟨?_,?_,?_,?_,?_⟩ <;> omega
theorem Off.not_on (h:Off s lg d gs gn b):¬On s lg d gs gn b:=by
 rintro (e|e|e|e|e)
 ·exact h.2.2.1 e
 ·exact h.2.2.2.1 e
 ·exact h.2.2.2.2 e
 ·exact h.2.1 e
 ·exact h.1 e
end
def blkC (n:Int) (p r:List UInt8) (c:Int):List Value:=.int .i64 n::(qaa p++(qaa r++[.int .i64 c]))
theorem qcc (n:Int) (p r:List UInt8) (c:Int) (hp:p.length=32) (hr:r.length=32):(blkC n p r c).length=66:=by simp [blkC,lenB,hp,hr]
theorem qoq (n:Int) (p r:List UInt8) (c:Int):∀ u∈blkC n p r c,u.oneCell'=true:=by
 intro u hu
 simp only [blkC,List.mem_cons,List.mem_append,List.not_mem_nil,or_false] at hu
 rcases hu with rfl|hu|hu|rfl
 ·rfl
 ·exact oneB _ u hu
 ·exact oneB _ u hu
 ·rfl
theorem qgb (w:World) (F:qab) (n:Int) (p r:List UInt8) (c:Int) (hp:p.length=32) (hr:r.length=32):eBlk.rel w F (blkC n p r c) (n,p,r,c):=eBlk_mk (x:=(n,p,r,c)) hp hr
theorem qlt:qeo Tryz.prog 261=some (blkC 0 h0 h0 0,[(0,1),(1,32),(33,32),(65,1)]):=by kernel_rfl
theorem qon (n:Int) (H:List UInt8) (c:Int) (h:H.length=32):qco [(0,1),(1,32),(33,32),(65,1)] (blkC 0 h0 h0 0) [(0,.int .i64 n),(2,.agg (qaa H).toArray),(3,.int .i64 c)]=some (blkC n h0 H c):=by
 have h1:laid (blkC 0 h0 h0 0) 0 [.int .i64 n]=blkC n h0 h0 0:=by simp [laid,blkC]
 have h2:laid (blkC n h0 h0 0) 33 (qaa H)=blkC n h0 H 0:=by
  have:=qcm (.int .i64 n::qaa h0) (qaa h0) [.int .i64 0] (qaa H) (by rw [lenB,lenB,h,qaf])
  rw [List.length_cons,lenB,qaf] at this
  simpa [blkC] using this
 have h3:laid (blkC n h0 H 0) 65 [.int .i64 c]=blkC n h0 H c:=by
  have:=qcm (.int .i64 n::(qaa h0++qaa H)) [.int .i64 0] [] [.int .i64 c] rfl
  rw [List.length_cons,List.length_append,lenB,lenB,qaf,h] at this
  simpa [blkC] using this
 have c1:∀ m:Int,(Value.int .i64 m).cells.toList=[.int .i64 m]:=fun _=>rfl
 have c2:(Value.agg (qaa H).toArray).cells.toList=qaa H:=rfl
 unfold qco
 simp only [List.getElem?_cons_zero]
 rw [if_pos ⟨rfl,by rw [qcc _ _ _ _ qaf qaf];omega⟩,c1,h1]
 unfold qco
 simp only [List.getElem?_cons_succ,List.getElem?_cons_zero]
 rw [if_pos ⟨by show (qaa H).length=32;rw [lenB,h],by rw [qcc _ _ _ _ qaf qaf];omega⟩,c2,h2]
 unfold qco
 simp only [List.getElem?_cons_succ,List.getElem?_cons_zero]
 rw [if_pos ⟨rfl,by rw [qcc _ _ _ _ qaf h];omega⟩,c1,h3]
 rfl
theorem qop (w:World):(zeroValue 261).run Tryz.prog w=.ok (.agg (blkC 0 h0 h0 0).toArray) w:=by kernel_rfl
theorem qmz (n:Int) (p r:List UInt8) (c:Int) (hp:p.length=32) (hr:r.length=32):(Tryz.prog.info? 261).map (·.size)=some (blkC n p r c).length:=by rw [qcc _ _ _ _ hp hr];kernel_rfl
def blk1 (id:Nat) (x:Chg):BlkD:=(1,h0,entH id x,1)
theorem qfy {q:Nat} {t t':TypeId} {xs:List Value} {cs:Array Value} (h:w.ownsRow B t k (.slice A n c) n xs) (hq:Blk w q t' cs) (ht:t'≠t):∀ b,A=some ⟨b,0,none⟩->b≠q:=by
 rintro b rfl rfl
 rcases h.2 with ⟨z,_⟩|⟨g',cap,cur,z,_,hh,_⟩
 ·cases z
 ·injection z with z
  injection z with z
  injection z with z
  subst z
  have h2:=hh.symm.trans hq
  injection h2 with h2
  injection h2 with _ h2
  exact ht h2.symm
def CB (B q:Nat):qab:=fun b=>B<=b/\b≠q
theorem lclose_ {q:Nat} {nx m:Int} {x:Chg}
  (hq:Blk w q 255 #[.int .i64 nx,.slice A 1 1,.slice A2 0 c2,.slice A3 0 0,.int .u32 o,.int .i32 m,.int .u32 s])
  (h1:Sl eTx w (fun b=>CB B q b/\A2≠some ⟨b,0,none⟩) A 1 1 [((id:Int),[x])]) (h2:OwnE eBlk 261 w B (CB B q) A2 0 c2 [])
  (hA2:∀ b,A2=some ⟨b,0,none⟩->b≠q) (hok:OkC x) (hid:id<9223372036854775808) (hBq:B<=q) :
  Calls Tryz.prog 112 #[.pointer (some ⟨q,0,none⟩)] w fun e w'=>e=.returned (.tuple #[])/\∃ A5 c5 A6 c6,Blk w' q 255 #[.int .i64 nx,.slice none 0 0,.slice A5 1 c5,.slice A6 1 c6,.int .u32 o,.int .i32 m,.int .u32 s]/\Sl eBlk w' (CB B q) A5 1 c5 [blk1 id x]/\Sl (eSl eTx) w' (CB B q) A6 1 c6 [[((id:Int),[x])]]/\Below B w w':=by
 obtain ⟨b,off,rfl,_,hFb,hbl⟩:=h1.some_ (by omega)
 have HS:=zh h1
 have HO:=zh h2
 have HA:=zh hA2
 have hBw:B<=w.heap.size:=by have:=hq.lt;omega
 have hqw:q<w.heap.size:=hq.lt
 obtain ⟨i0,hi0,hy0,hy1,hy2⟩:=ip Tryz.prog 76 (.agg (qaa h0).toArray) 32 32
 have hzs:(Value.agg (qaa h0).toArray).cells.size=32:=by kernel_rfl
 have hqb:q≠b:=fun e=>hFb.1.2 e.symm
 obtain ⟨cs0,hcs0,hcell0⟩:=h1.at_ (show [((id:Int),[x])][0]? = some ((id:Int),[x]) from rfl)
 obtain ⟨A3',n3,c3,rfl,hr3⟩:=qfd hcs0
 simp only [show eTx.k=2 from rfl,Nat.zero_mul,Nat.add_zero] at hcell0
 have p0:=hcell0 0 _ rfl
 have p1:=hcell0 1 _ rfl
 simp only [Nat.add_zero] at p0
 have HC0:=zh hcs0
 have q1:=hq.cell 1
 clear hcell0 h1 h2 hA2 hr3 hcs0
 go_enter Tryz.func112,Tryz.ntmps112
 go_wp2_with fail
 refine wp_loop_rounds 2 ?_
 rw [rounds_succ]
 go_upto_region 4 with fail
 clear p0 p1 q1
 obtain ⟨W,hW_,hb1,BT⟩:=al1 w 168 #[.int .i64 (id:Int),.slice A3' n3 c3]
 rw [<-hW_]
 clear hW_
 obtain ⟨gt,hgt⟩:∃ g,w.heap.size=g:=⟨_,rfl⟩
 rw [hgt] at BT ⊢
 clear hgt
 have BQ1:=hq.ext hb1
 have HF:=zh (entry_ (eTx.ext HC0.out hb1) hok hid)
 have qt:=two_ BT (zb _ _)
 go_wp2_with fail
 refine HF.out.mono ?_
 rintro e w3 ⟨rfl,hb3⟩
 have hbw3:=(hb1.tr hb3)
 obtain ⟨H,hH⟩:∃ H,entH id x=H:=⟨_,rfl⟩
 have hHl:H.length=32:=by rw [<-hH];exact qbh _
 have HH:=zh hH
 rw [hH]
 clear hH HF qt BT hb3 hb1 BQ1 HC0
 go_upto_region 5 with (first|((with_reducible refine sT 20 ?_);(refine wpList_plain rfl fun K hK=>?_);(refine qbs 20 178 76 (.tmp 19) rfl rfl (qaa H) rfl i0 _ Tryz.underlying178 hi0 hy0 (by rw [hy1,lenB,hHl]) (by rw [lenB,hHl];omega) (by rw [lenB,hHl];omega) ?_);(refine hK _ _ ?_)) |
  (at_builtin;(refine wpList_append_own _ rfl (.tmp 17) (.tmp 20) 178 rfl w3.heap.size 76 i0 _ 32 32 Tryz.underlying178 hi0 hy0 hy1 hy2 hzs (by decide) _ 0 _ rfl (qkk _ _ _ _) ⟨w3.heap.size,0,none⟩ 1 1 (qaa H) rfl ?a1 ?a2 ?a3 ?a4 ?a5 ?a6 ?_)))
 case a1=>rw [lenB,hHl]
 case a2=>exact (Row.of_blk (lo:=0) (Blk.new w3 76 (qaa H).toArray) (Nat.zero_le _) 1 1 (zl _)).src
 case a3=>exact oneB H
 case a4=>unfold maxLen;omega
 case a5=>omega
 case a6=>simp
 clear hi0 hy0 hy1 hy2 hzs i0
 intro v' w4 hown hgrow _
 obtain ⟨A4,c4,rfl⟩:=qan hown
 obtain ⟨g4,rfl,hg4lo,hg4hi⟩:=qcb hown (by omega)
 have hba:=(zb w3.heap.size w3).alloc (zl _) (.cells (qaa H).toArray 76)
 have hb4:=hba.grown hgrow hba.size (fun k hk=>by simp [Value.ownBlock] at hk)
 have hrow:=Row.of_own hown
 have HRG:=zh (show w4.rangeAt g4 0 (qaa H) from fun j u hu=>hrow.at_ hu)
 have hc4:1<=c4:=hrow.le_
 have hbw4:=(hbw3.tr hb4)
 have BQ4:=hq.ext hbw4
 have hw4:=hbw4.size
 clear hown hgrow hba hb4 hrow hbw3
 go_wp2_with fail
 rw [rounds_succ]
 go_upto_region 6 with fail
 have hzb:=qop
 have D:∀ w',Below w4.heap.size w4.drew w'->w'.cell? ⟨q,2,none⟩=some (.slice A2 0 c2):=fun w' h=>(BQ4.ext ((zb _ _).drew.trans h)).cell 2
 refine qcz ⟨12,5,fun g=>.pointer (some ⟨g,0,none⟩),.cells (blkC 0 h0 h0 0).toArray 261⟩
  [(0,true),(1,true),(2,true),(3,true),(4,true),(5,true),(6,true),(7,true),(9,true),(10,true)] [(8,false),(11,true)] [(13,false)] (by kernel_rfl) (by kernel_rfl) ?_
 repeat ((first|refine iT ?_|refine iF ?_);try go_frame)
 refine qbn ⟨?_,?_⟩
 ·intro y hy
  simp only [List.mem_cons,List.not_mem_nil,or_false] at hy
  subst hy
  exact ⟨_,rfl,rfl,qae rfl,fun w=>by go_simp⟩
 clear D hzb
 refine iD fun wI hI hSI K hK=>?_;go_simp
 have hbI:=(zb w4.heap.size w4).drew.trans hI
 have HF:=zh (qlr hHl (show wI.rangeAt g4 0 (qaa H) from fun j u hu=>(hbI.cell (p:=⟨g4,0+j,none⟩) hg4hi).trans (HRG.out j u hu)) (Nat.lt_of_lt_of_le hg4hi hbI.size) hc4)
 refine HF.out.mono ?_
 rintro e w5 ⟨rfl,hb5⟩
 refine hK.out _ _ hb5 ?_
 clear hK K HF hI hSI hbI hb5
 refine wpI_on rfl rfl (qae rfl) (fun w' hS=>qce (ps:=[(0,.int .i64 1),(2,.agg (qaa H).toArray),(3,.int .i64 1)]) 261 _ rfl qlt rfl (qon 1 H 1 hHl)) ?_
 go_frame
 refine qbn ?_
 intro g5 wf he hb hlo1 hhi1 hat1
 try simp only [List.setIfInBounds_toArray,List.set_cons_zero,List.set_cons_succ]
 have B5:Blk wf g5 261 (blkC 0 h0 h0 0).toArray:=hat1
 clear hat1 he
 have hkl:=qcc 1 h0 H 1 qaf hHl
 have hone:=qoq 1 h0 H 1
 have hsz:=qmz 1 h0 H 1 qaf hHl
 obtain ⟨bc,hbc⟩:∃ z,z=blkC 1 h0 H 1:=⟨_,rfl⟩
 rw [<-hbc] at hkl hone hsz ⊢
 have hth:=Blk.there (o:=0) (n:=66) B5 (by rw [qcc _ _ _ _ qaf qaf];omega)
 refine qaj rfl (qae rfl) (fun K hK=>?_)
 refine qao 261 (.tmp 5) (.tmp 34) rfl rfl g5 0 bc rfl rfl (by rw [hkl];exact hth) hsz hone ?_
 obtain ⟨B6,hg6⟩:=Blk.lay bc 0 B5 (by rw [hkl,qcc _ _ _ _ qaf qaf];omega)
 rw [qai _ _ (by rw [hkl,qcc _ _ _ _ qaf qaf])] at B6
 have hwf:w4.heap.size<=wf.heap.size:=hb.size
 have hb6:=hb.grown hg6 hwf (fun k hk=>by injection hk with hk;omega)
 refine hK.out _ _ hb6 (qad ?_)
 clear hK K hth B5 hb
 have hb46:=(zb w4.heap.size w4).drew.trans hb6
 have BQ6:=BQ4.ext hb46
 have hbw6:=(hbw4.tr hb46)
 clear hb6 hb46 hg6 BQ4 hbw4 HRG
 generalize wf.setCells g5 0 bc=w6 at *
 have HBC:=zh hbc
 clear hbc hwf hhi1
 have q2:=BQ6.cell 2
 go_upto_region 10 with fail
 have HB6:=zh B6
 have hOB:=HO.out
 obtain ⟨css,hown,hcs,_⟩:=(HO.out.ext hbw6)
 have hcss:css=[]:=List.length_eq_zero_iff.1 hcs.1
 subst hcss
 obtain ⟨iB,hbi,hb0,hb1,hb2⟩:=ip Tryz.prog 261 (.agg (blkC 0 h0 h0 0).toArray) 66 80
 have hbz:(Value.agg (blkC 0 h0 h0 0).toArray).cells.size=66:=by kernel_rfl
 have D:=fun w' (hS:Blk w' q 255 #[.int .i64 nx,.slice (some ⟨b,off,none⟩) 1 1,.slice A2 0 c2,.slice A3 0 0,.int .u32 o,.int .i32 m,.int .u32 s]/\Blk w' g5 261 bc.toArray)=>show w'.cell? ⟨q,2,none⟩=some (.slice A2 0 c2) from hS.1.cell 2
 refine qck (S:=fun w'=>Blk w' q 255 #[.int .i64 nx,.slice (some ⟨b,off,none⟩) 1 1,.slice A2 0 c2,.slice A3 0 0,.int .u32 o,.int .i32 m,.int .u32 s]/\Blk w' g5 261 bc.toArray)
  [(0,true),(1,true),(2,true),(3,true),(4,true),(5,true),(6,true),(7,false),(8,false),(9,true),(10,true),(11,true)] [(12,false)] (by kernel_rfl) (by kernel_rfl) ⟨Blk.drew BQ6,Blk.drew B6⟩ ?_
 iterate 6 (((first|refine pT ?_|refine pF ?_);try go_frame))
 refine qas rfl rfl (qae rfl) (fun w' hS=>qba 261 (.tmp 5) rfl g5 0 rfl bc _ (Blk.whole hS.2) Tryz.underlying261 rfl hsz) ?_
 go_frame
 refine qaj rfl (qae rfl) (fun K hK=>?_)
 refine qbs 61 144 261 (.tmp 60) rfl rfl bc rfl iB _ Tryz.underlying144 hbi hb0 (by rw [hb1,hkl]) (by rw [hkl];omega) (by rw [hkl];omega) ?_
 go_frame
 have BQ7:=Blk.alloc (Blk.drew BQ6) (.cells bc.toArray 261)
 have B7:=Blk.alloc (Blk.drew B6) (.cells bc.toArray 261)
 have C7:Blk (w6.drew.alloc (.cells bc.toArray 261)) w6.drew.heap.size 261 bc.toArray:=Blk.new _ _ _
 have hb67:Below w6.heap.size w6 (w6.drew.alloc (.cells bc.toArray 261)):=((zb w6.heap.size w6).drew).alloc (zl _) _
 refine hK.out _ _ ⟨BQ7,B7⟩ ?_
 clear hK K
 have hown7:=qay hown hb67
 have hbw7:=(hbw6.tr hb67)
 obtain ⟨g7,hg7⟩:∃ g,w6.drew.heap.size=g:=⟨_,rfl⟩
 have hg7':w6.heap.size=g7:=hg7
 generalize w6.drew.alloc (.cells bc.toArray 261)=w7 at *
 rw [hg7] at C7 ⊢
 have hB7:=Nat.le_trans hBw hbw7.size
 have HR2:=zh (fun g hg=>hOB.row (g:=g) hg)
 have hA2w:∀ g,(Value.slice A2 0 c2).ownBlock=some g->g≠q/\g<w.heap.size/\B<=g:=fun g hg=>by
  have e:=hOB.row hg
  exact ⟨HA.out g e,(hOB.lt e).2,(hOB.lt e).1⟩
 clear hOB BQ6 B6 hb67 hown hg7 hg7'
 have hHS7:=zh (HS.out.ext hbw7)
 have hg5b:w.heap.size<=g5:=Nat.le_trans hw4 hlo1
 refine qaj rfl (qae rfl) (fun K hK=>?_)
 refine qdo 62 (.tmp 59) (.tmp 61) 144 rfl rfl B 261 iB _ 66 80 Tryz.underlying144 hbi hb0 hb1 hb2 hbz (by decide) _ 0 _ rfl hown7 ⟨g7,0,none⟩ 1 1 bc rfl (by rw [hkl]) (fun j u hu=>by rw [Addr.add_mid];exact Blk.whole C7 j u hu) hone (by unfold maxLen;omega) (by omega) hB7 ?_
 intro A5 c5 w8 hO8 hg8
 go_frame
 rw [show [].flatten++bc=bc from rfl] at hO8
 have hk8:Keep (fun b=>A2≠some ⟨b,0,none⟩) w7 w8:=Keep.grown hg8 (fun g hg h=>h (HR2.out g hg))
 have BQ8:=BQ7.grown hg8 (fun e=>(hA2w _ e.symm).1 rfl)
 have B8:=B7.grown hg8 (fun e=>by have:=(hA2w _ e.symm).2.1;omega)
 have hbw8:Below B w w8:=(zm hbw7 hBw).grown hg8 hB7 (fun k hk=>(hA2w k hk).2.2)
 refine hK.out _ _ ⟨BQ8,B8⟩ ?_
 clear hK K D
 have HS8:=zh (hHS7.out.keep (hk8.mono (fun b h=>h.2)))
 have HO8:=zh hO8
 have hB8:=Nat.le_trans hB7 hg8.size
 clear hO8 hg8 hk8 hHS7 hown7 BQ7 B7 C7 hbw7 hA2w hB7 hbi hb0 hb1 hb2 hbz iB
 repeat ((first|refine pT ?_|refine pF ?_);try go_frame)
 refine qak ?_
 have q2:=BQ8.cell 2
 have f2:=BQ8.frozen 2
 refine pD fun K hK=>?_;go_simp
 refine hK.out _ _ trivial (qad ?_)
 clear hK K q2 f2
 have hg9:=qac w8 q 2 (.slice A5 1 c5)
 have BQ9:Blk (w8.setCell ⟨q,2,none⟩ (.slice A5 1 c5)) q 255 #[.int .i64 nx,.slice (some ⟨b,off,none⟩) 1 1,.slice A5 1 c5,.slice A3 0 0,.int .u32 o,.int .i32 m,.int .u32 s]:=BQ8.set_ 2 _
 have hnq:=qfy HO8.out BQ8 (by decide)
 have hblk:Sl eBlk w8 (CB B q) A5 1 c5 [blk1 id x]:=by
  have hE:OwnE eBlk 261 w8 B (CB B q) A5 1 c5 [blk1 id x]:=⟨[bc],by rw [show [bc].flatten=bc by simp];exact HO8.out,Els.one_ (by rw [HBC.out];unfold blk1;rw [HH.out];exact qgb _ _ _ _ _ _ qaf hHl),rfl⟩
  exact hE.slB (fun b e=>⟨(hE.lt e).1,hnq b e⟩) (fun b h=>h)
 have hk9:Keep (fun b=>b≠q) w8 (w8.setCell ⟨q,2,none⟩ (.slice A5 1 c5)):=Keep.grown hg9 (fun g hg h=>by injection hg with hg;exact h hg.symm)
 have HK9:=zh (hblk.keep (hk9.mono (fun b h=>h.2)))
 have HS9:=zh (HS8.out.keep (hk9.mono (fun b h=>h.1.2)))
 have hbw9:=hbw8.grown hg9 hB8 (fun k hk=>by injection hk with hk;omega)
 have hB9:=Nat.le_trans hB8 hg9.size
 clear hblk hnq hk9 hg9 BQ8 B8 hbw8 hB8 HS8 HO8
 generalize w8.setCell ⟨q,2,none⟩ (.slice A5 1 c5)=w9 at *
 go_upto_region 11 with fail
 have D:=fun w' (hS:Blk w' q 255 #[.int .i64 nx,.slice (some ⟨b,off,none⟩) 1 1,.slice A5 1 c5,.slice A3 0 0,.int .u32 o,.int .i32 m,.int .u32 s])=>show w'.cell? ⟨q,1,none⟩=some (.slice (some ⟨b,off,none⟩) 1 1)/\w'.cell? ⟨q,3,none⟩=some (.slice A3 0 0) from ⟨hS.cell 1,hS.cell 3⟩
 refine qck (S:=fun w'=>Blk w' q 255 #[.int .i64 nx,.slice (some ⟨b,off,none⟩) 1 1,.slice A5 1 c5,.slice A3 0 0,.int .u32 o,.int .i32 m,.int .u32 s])
  [(0,true),(1,true),(2,true),(3,true),(4,true),(5,true),(6,true),(7,true),(8,true),(9,true),(10,true),(11,false),(12,false),(13,true),(14,true),(15,true)] [(16,false)] (by kernel_rfl) (by kernel_rfl) (Blk.drew BQ9) ?_
 repeat ((first|refine pT ?_|refine pF ?_);try go_frame)
 refine pD fun K hK=>?_;go_simp
 have hba:Below w9.heap.size w9 (w9.alloc (.cells #[.slice (some ⟨b,off,none⟩) 1 1] 143)).drew:=((zb _ _).alloc (zl _) _).drew
 have BV:Blk (w9.alloc (.cells #[.slice (some ⟨b,off,none⟩) 1 1] 143)).drew w9.heap.size 143 #[.slice (some ⟨b,off,none⟩) 1 1]:=Blk.new _ _ _
 obtain ⟨gv,hgv⟩:∃ g,w9.heap.size=g:=⟨_,rfl⟩
 obtain ⟨Wa,hWa⟩:∃ W,W=(w9.alloc (.cells #[.slice (some ⟨b,off,none⟩) 1 1] 143)).drew:=⟨_,rfl⟩
 rw [<-hWa] at hba BV ⊢
 rw [hgv] at BV ⊢
 have BQa:=BQ9.ext hba
 refine hK.out _ _ BQa ?_
 clear hK K hWa hgv
 obtain ⟨iT,hti,ht0,ht1,ht2⟩:=ip Tryz.prog 143 (.slice none 0 0) 1 24
 refine qaj rfl (qae rfl) (fun K hK=>?_)
 refine qbm 78 (.tmp 71) (.tmp 77) 145 rfl rfl 143 iT _ 1 24 Tryz.underlying145 hti ht0 ht1 ht2 rfl (by decide) A3 0 0 [] rfl (fun _=>⟨rfl,rfl⟩) rfl (fun b hb j u hu=>by simp at hu) ⟨gv,0,none⟩ 1 1 [.slice (some ⟨b,off,none⟩) 1 1] rfl rfl (fun j u hu=>by rw [Addr.add_mid];match j with|0=>rw [<-hu];exact BV.cell 0|j+1=>simp at hu) (fun u hu=>by simp at hu;subst hu;rfl) (by omega) (by unfold maxLen;omega) (by omega) ?_
 intro A6 c6 w10 hown hgr
 have hbc:Below Wa.heap.size Wa w10:=(zb _ _).grown hgr (zl _) (fun k hk=>by cases hk)
 have BQ10:=BQa.ext hbc
 refine hK.out _ _ BQ10 ?_
 clear hK K D
 have hbac:=(hba.tr hbc)
 have HS10:=zh (HS9.out.ext hbac)
 have HK10:=zh (HK9.out.ext hbac)
 have hbw10:=hbw9.trans (zm hbac hB9)
 have hB10:=Nat.le_trans hB9 hbac.size
 have hBa:=Nat.le_trans hB9 hba.size
 have HO10:=zh hown
 clear hown hgr hbc hbac hba BV BQa BQ9 HS9 HK9 hbw9 hB9 hti ht0 ht1 ht2 iT
 repeat ((first|refine pT ?_|refine pF ?_);try go_frame)
 refine qak ?_
 have q3:=BQ10.cell 3
 have f3:=BQ10.frozen 3
 refine pD fun K hK=>?_;go_simp
 refine hK.out _ _ trivial (qad ?_)
 clear hK K q3 f3
 have hnq:=qfy HO10.out BQ10 (by decide)
 have htx:Sl (eSl eTx) w10 (CB B q) A6 1 c6 [[((id:Int),[x])]]:=by
  have hE:OwnE (eSl eTx) 143 w10 B (CB B q) A6 1 c6 [[((id:Int),[x])]]:=⟨[[.slice (some ⟨b,off,none⟩) 1 1]],by rw [show [[Value.slice (some ⟨b,off,none⟩) 1 1]].flatten=[]++[Value.slice (some ⟨b,off,none⟩) 1 1] by simp];exact qat HO10.out hBa,Els.one_ ⟨_,_,_,rfl,HS10.out.mono (fun b h=>h.1)⟩,rfl⟩
  exact hE.slB (fun b e=>⟨(hE.lt e).1,hnq b e⟩) (fun b h=>h)
 have hg11:=qah (qac w10 q 3 (.slice A6 1 c6)) (qac _ q 1 (.slice none 0 0))
 have BQ11:Blk (w10.setCell ⟨q,3,none⟩ (.slice A6 1 c6)) q 255 #[.int .i64 nx,.slice (some ⟨b,off,none⟩) 1 1,.slice A5 1 c5,.slice A6 1 c6,.int .u32 o,.int .i32 m,.int .u32 s]:=BQ10.set_ 3 _
 have BQ12:Blk ((w10.setCell ⟨q,3,none⟩ (.slice A6 1 c6)).setCell ⟨q,1,none⟩ (.slice none 0 0)) q 255 #[.int .i64 nx,.slice none 0 0,.slice A5 1 c5,.slice A6 1 c6,.int .u32 o,.int .i32 m,.int .u32 s]:=BQ11.set_ 1 _
 have hk12:Keep (CB B q) w10 ((w10.setCell ⟨q,3,none⟩ (.slice A6 1 c6)).setCell ⟨q,1,none⟩ (.slice none 0 0)):=Keep.grown hg11 (fun g hg h=>by injection hg with hg;exact h.2 hg.symm)
 have HE:=zh (za (HK10.out.keep hk12) (za (htx.keep hk12) (hbw10.grown hg11 hB10 (fun k hk=>by injection hk with hk;omega))))
 have q1:=BQ11.cell 1
 have f1:=BQ11.frozen 1
 clear hnq htx hg11 hk12 BQ10 HS10 HK10 hbw10 HO10 BQ11
 go_wp2_with fail
 go_end0
 exact ⟨rfl,A5,c5,A6,c6,BQ12,HE.out⟩
end Go.Proofs.YtdjbpcnhnkemiaaGreat.tp
