/- Laws of its own that the claim's proof needs; no condition beyond those that each states. -/
import Derived.Test.YtdjbpcnhnkemiaaGreatZ1
import Derived.Laws.Tables
import Derived.Great.BuildSlice
import Derived.Deep.WholeRow
import Derived.Laws.Bits64b
import Derived.Laws.BitsAllLaws
import Derived.Shelf.Abstract
set_option linter.unusedVariables false
set_option maxRecDepth 1000000
set_option maxHeartbeats 16000000
namespace Go.Proofs.YtdjbpcnhnkemiaaGreat.lib
open Go.ChangeShapes Go.WideShapes Go.ChangeAt Go.RowKit
section
variable {P:Program} {ops:Array Oper} {Q:Exit->Act->World->Prop} {md:Region.Mode} {S:World->Prop}
def qfb (P:Program) (md:Region.Mode) (ops:Array Oper) (Q:Exit->Act->World->Prop) (S:World->Prop) (tail:List Nat):Nat->Array Bool->Act->World->Prop
 | 0,listed,a,w=>Region.ready md ops listed=[]/\Q .normal a w
 | fuel+1,listed,a,w =>
  (Region.ready md ops listed=[]->Q .normal a w) /\
  ∀ i∈Region.ready md ops listed,wpOp P ops Q i (fun a' w'=>(i∉tail->S w')/\qfb P md ops Q S tail fuel (listed.setIfInBounds i true) a' w') a w
theorem qit {tail:List Nat}:∀ (fuel:Nat) (listed:Array Bool) (a:Act) (w:World),qfb P md ops Q S tail fuel listed a w->wpAny P md ops Q fuel listed a w
 | 0,_,_,_,h=>h
 | fuel+1,_,_,_,h=>⟨h.1,fun i hi=>wpOp_mono (fun a' w' h'=>qit fuel _ a' w' h'.2) (h.2 i hi)⟩
def NotTail (ops:Array Oper) (tail:List Nat) (listed:Array Bool):Prop:=∀ i,i<ops.size->i∉tail->listed.getD i true=true
theorem NotTail.set_ {tail:List Nat} {listed:Array Bool} (h:NotTail ops tail listed) (j:Nat):NotTail ops tail (listed.setIfInBounds j true):=fun i hi ht=>by
 by_cases hji:j=i
 ·subst hji
  by_cases hl:j<listed.size
  ·simp [hl]
  ·simp [hl]
 ·rw [getD_set_ne true hji];exact h i hi ht
theorem qhd {tail:List Nat}:∀ (fuel:Nat) (listed:Array Bool) (a:Act) (w:World),NotTail ops tail listed->wpAnyH P md ops Q (fun _=>True) fuel listed a w->qfb P md ops Q S tail fuel listed a w
 | 0,_,_,_,_,h=>h
 | fuel+1,listed,_,_,hn,h=>by
  refine ⟨h.1,fun i hi=>?_⟩
  obtain ⟨h0,o,ho,_⟩:=mem_ready.1 hi
  have hin:¬i∉tail:=fun ht=>by
   have:=hn i (Array.getElem?_eq_some_iff.1 ho).1 ht
   rw [h0] at this
   cases this
  exact wpOp_mono (fun a' w' h'=>⟨fun ht=>absurd ht hin,qhd fuel _ a' w' (hn.set_ i) h'.2⟩) (h.2 i hi)
def qfu (md:Region.Mode) (ops:Array Oper):Nat->Nat->Nat->Bool
 | 0,_,_=>false
 | f+1,k,i=>match ops[k]? with
  | none=>false
  | some o=>o.after.any (fun e=>Region.binds md e && e.on == i) || o.after.any (fun e=>Region.binds md e && qfu md ops f e.on i)
def Closed (md:Region.Mode) (ops:Array Oper) (listed:Array Bool):Prop:=∀ (j:Nat) (oj:Oper),ops[j]? = some oj->listed.getD j false=true->∀ e∈oj.after,Region.binds md e=true->listed.getD e.on false=true
theorem Closed.set_ {listed:Array Bool} (h:Closed md ops listed) {j:Nat} (hj:j∈Region.ready md ops listed):Closed md ops (listed.setIfInBounds j true):=fun k ok hk hl e he hb=>by
 refine getD_set_true ?_
 by_cases hjk:j=k
 ·subst hjk
  obtain ⟨_,o,ho,hall⟩:=mem_ready.1 hj
  rw [hk] at ho
  injection ho with ho
  subst ho
  exact hall e he hb
 ·rw [getD_set_ne false hjk] at hl
  exact h k ok hk hl e he hb
theorem qgg {listed:Array Bool} (hc:Closed md ops listed) {i:Nat}:∀ (f k:Nat) (ok:Oper),ops[k]? = some ok->(∀ e∈ok.after,Region.binds md e=true->listed.getD e.on false=true)->qfu md ops f k i=true->listed.getD i false=true
 | 0,_,_,_,_,h=>by cases h
 | f+1,k,ok,hk,hall,h=>by
  unfold qfu at h
  simp only [hk] at h
  rw [Bool.or_eq_true] at h
  rcases h with h|h
  ·obtain ⟨e,he,hb⟩:=Array.any_eq_true'.1 h
   simp only [Bool.and_eq_true,beq_iff_eq] at hb
   rw [<-hb.2]
   exact hall e he hb.1
  ·obtain ⟨e,he,hb⟩:=Array.any_eq_true'.1 h
   simp only [Bool.and_eq_true] at hb
   have hl:=hall e he hb.1
   have h1:=hb.2
   cases hq:ops[e.on]? with
   | none =>
    cases f with
    | zero=>cases h1
    | succ f=>unfold qfu at h1;simp [hq] at h1
   | some oe=>exact qgg hc f e.on oe hq (fun e' he' hb'=>hc e.on oe hq hl e' he' hb') h1
theorem qol {tail:List Nat} {i:Nat} {oi:Oper} {v:Value} (hi:ops[i]? = some oi) (hit:i∉tail) (hsel:∀ (j:Nat) (o:Oper) cs b,ops[j]? = some o->o.op≠.select cs b)
  (hQ:∀ c a w,Q (.panic c) (a.put oi.dst v) w->Q (.panic c) a w) (htl:∀ k∈tail,qfu md ops 6 k i=true) :
  ∀ (fuel:Nat) (listed:Array Bool) (a:Act) (w:World),Closed md ops listed ->
   (∀ j oj,ops[j]? = some oj->j≠i->listed.getD j true=false->(∀ e∈oj.after,Region.binds md e=true->e.on≠i)->oi.apart ops oj=true) ->
   i∈Region.ready md ops listed->YieldsIf P ops S oi v a->S w ->
   qfb P md ops Q S tail fuel (listed.setIfInBounds i true) (a.put oi.dst v) w->qfb P md ops Q S tail (fuel+1) listed a w:=by
 intro fuel
 induction fuel with
 | zero =>
  intro listed a w _ _ hr hy hS H
  refine ⟨fun h=>(by rw [h] at hr;cases hr),fun j hj=>?_⟩
  by_cases hji:j=i
  ·subst hji;exact hy.wpOp hi hS ⟨fun _=>hS,H⟩
  ·have:=ready_mono hj hji
   rw [H.1] at this
   cases this
 | succ fuel ih =>
  intro listed a w hcl hfree hr hy hS H
  refine ⟨fun h=>(by rw [h] at hr;cases hr),fun j hj=>?_⟩
  by_cases hji:j=i
  ·subst hji;exact hy.wpOp hi hS ⟨fun _=>hS,H⟩
  ·have h1:=H.2 j (ready_mono hj hji)
   obtain ⟨hjun,oj,hoj,hall⟩:=mem_ready.1 hj
   have hnot:∀ e∈oj.after,Region.binds md e=true->e.on≠i:=fun e he hb heq=>by
    have h1:=hall e he hb
    have h0:=(mem_ready.1 hr).1
    rw [heq] at h1
    rcases Nat.lt_or_ge i listed.size with h'|h'
    ·simp [h'] at h0 h1;rw [h0] at h1;cases h1
    ·simp [Array.getElem?_eq_none h'] at h1
   have hjt:j∉tail:=fun ht=>by
    have h1:=qgg hcl 6 j oj hoj hall (htl j ht)
    have h0:=(mem_ready.1 hr).1
    rcases Nat.lt_or_ge i listed.size with h'|h'
    ·simp [h'] at h0 h1;rw [h0] at h1;cases h1
    ·simp [Array.getElem?_eq_none h'] at h1
   have h2:=wpOp_putIf hoj (hfree j oj hoj hji hjun hnot) (fun cs b=>hsel i oi cs b hi) (fun cs b=>hsel j oj cs b hoj) hQ hy h1
   have hfree':∀ k ok,ops[k]? = some ok->k≠i->(listed.setIfInBounds j true).getD k true=false ->
     (∀ e∈ok.after,Region.binds md e=true->e.on≠i)->oi.apart ops ok=true:=fun k ok hk hki hun hno=>by
    refine hfree k ok hk hki ?_ hno
    by_cases hjk:j=k
    ·subst hjk;exact hjun
    ·rw [getD_set_ne true hjk] at hun;exact hun
   refine wpOp_mono (fun a' w' h3=>⟨h3.2.1,ih (listed.setIfInBounds j true) a' w' (hcl.set_ hj) hfree' (ready_mono hr (Ne.symm hji)) h3.1 (h3.2.1 hjt) ?_⟩) h2
   rw [Array.setIfInBounds_comm _ _ hji]
   exact h3.2.2
def edgeB (md:Region.Mode) (ops:Array Oper) (tail:List Nat) (i:Nat):Bool:=tail.all fun k=>qfu md ops 6 k i
def qgc (md:Region.Mode) (ops:Array Oper) (tail:List Nat) (l2:List (Nat × Bool)):List (Nat × Bool)->Array Bool->Bool
 | [],listed=>(List.range ops.size).all (fun i=>tail.contains i || listed.getD i true) && qcs md ops l2 listed
 | (i,true)::r,listed=>(Region.ready md ops listed).contains i && Region.free md ops listed i && !tail.contains i && edgeB md ops tail i && qgc md ops tail l2 r (listed.setIfInBounds i true)
 | (i,false)::r,listed=>(match Region.ready md ops listed with | [j]=>j == i|_=>false) && qgc md ops tail l2 r (listed.setIfInBounds i true)
def TailQ (P:Program) (ops:Array Oper) (Q:Exit->Act->World->Prop) (l2:List (Nat × Bool)):Exit->Act->World->Prop
 | .normal,a,w=>qam P ops Q (fun _=>True) l2 a w
 | e,a,w=>Q e a w
theorem TailQ.mono_op {l2:List (Nat × Bool)} {i:Nat} {a:Act} {w:World} {K:Act->World->Prop} (h:wpOp P ops (TailQ P ops Q l2) i K a w):wpOp P ops Q i K a w:=by
 unfold wpOp at *
 split
 ·exact by simpa [*] using h
 ·rename_i o ho
  simp only [ho] at h
  split
  ·rename_i hw
   simp only [hw,if_true] at h
   rcases h with h|h
   ·refine .inl ?_
    unfold Oper.wp at *
    generalize (execOp a.eval o).run P w=r at *
    cases r with
    | ok n w' =>
     cases n <;> simp only [Oper.upon] at h ⊢
     case value u=>exact h
     case skip=>exact h
     case defer d=>exact h
     case enter f args =>
      refine Calls.mono h fun e w'' he=>?_
      cases e with
      | returned u=>exact he
      | panicked c=>exact he
      | outgrown=>exact he
     case row row args=>exact h
    | halt x w' =>
     cases x <;> simp only [Oper.upon] at h ⊢
     case panic u=>exact h
   ·exact .inr h
  ·rename_i hw
   simp only [hw] at h
   exact h
theorem qfc {tail:List Nat} {l2:List (Nat × Bool)} (hs:Region.noSelect ops=true) (hQ:∀ c a d v w,Q (.panic c) (a.put d v) w->Q (.panic c) a w) :
  ∀ (l:List (Nat × Bool)) (fuel:Nat) (listed:Array Bool) (a:Act) (w:World),qgc md ops tail l2 l listed=true->l.length+l2.length<=fuel->S w->qam P ops (TailQ P ops Q l2) S l a w->(∀ i,(i,false)∈l->i∉tail)->Closed md ops listed->qfb P md ops Q S tail fuel listed a w
 | [],fuel,listed,a,w,hp,hf,_,h,_,_=>by
  simp only [qgc,Bool.and_eq_true] at hp
  have h:qam P ops Q (fun _=>True) l2 a w:=by with_unfolding_all exact h
  refine qhd fuel listed a w (fun i hi ht=>?_) (qbx hs hQ l2 fuel listed a w hp.2 (by simpa using hf) trivial h)
  have:=List.all_eq_true.1 hp.1 i (List.mem_range.2 hi)
  simpa [ht] using this
 | (i,true)::r,0,listed,a,w,_,hf,_,_,_,_=>absurd hf (by simp)
 | (i,false)::r,0,listed,a,w,_,hf,_,_,_,_=>absurd hf (by simp)
 | (i,true)::r,fuel+1,listed,a,w,hp,hf,hS,h,hn,hcl=>by
  simp only [qgc,Bool.and_eq_true] at hp
  obtain ⟨⟨⟨⟨h1,h2⟩,h3⟩,h4⟩,h5⟩:=hp
  have h:∃ o v,ops[i]? = some o/\YieldsIf P ops S o v a/\qam P ops (TailQ P ops Q l2) S r (a.put o.dst v) w:=by with_unfolding_all exact h
  obtain ⟨o,v,ho,hy,hr⟩:=h
  refine qol ho (by simpa using h3) (Region.noSelect_spec hs) (fun c a w=>hQ c a _ _ w) ?_ fuel listed a w hcl (Region.free_spec ho h2) (by simpa using h1) hy hS
   (qfc hs hQ r fuel _ _ _ h5 (by simp at hf;omega) hS hr (fun i hi=>hn i (List.mem_cons_of_mem _ hi)) (hcl.set_ (by simpa using h1)))
  intro k hk
  exact List.all_eq_true.1 h4 k hk
 | (i,false)::r,fuel+1,listed,a,w,hp,hf,hS,h,hn,hcl=>by
  simp only [qgc,Bool.and_eq_true] at hp
  obtain ⟨h1,h3⟩:=hp
  have hr:Region.ready md ops listed=[i]:=by
   revert h1
   match Region.ready md ops listed with
   | []=>simp
   | [j]=>simp
   | _::_::_=>simp
  have h:wpOp P ops (TailQ P ops Q l2) i (fun a' w'=>S w'/\qam P ops (TailQ P ops Q l2) S r a' w') a w:=by with_unfolding_all exact h
  have hne:Region.ready md ops listed≠[]:=by rw [hr];simp
  refine ⟨fun h0=>absurd h0 hne,fun j hj=>?_⟩
  rw [hr] at hj
  have hj:j=i:=by simpa using hj
  subst hj
  exact wpOp_mono (fun a' w' h'=>⟨fun _=>h'.1,qfc hs hQ r fuel _ a' w' h3 (by simp at hf;omega) h'.1 h'.2 (fun i hi=>hn i (List.mem_cons_of_mem _ hi)) (hcl.set_ (by rw [hr];simp))⟩) (TailQ.mono_op h)
def qmx (md:Region.Mode) (ops:Array Oper) (l1 l2:List (Nat × Bool)):Bool :=
 Region.noSelect ops && qgc md ops (l2.map (·.1)) l2 l1 (Array.replicate ops.size false) && decide (l1.length+l2.length<=ops.size) && l1.all (fun x=>x.2 || !(l2.map (·.1)).contains x.1)
theorem qck {id:Nat} {a:Act} {w:World} (l1 l2:List (Nat × Bool)) (hm:P.follows .mixedOrders=true) (hc:qmx .any ops l1 l2=true)
  (hS:S w.drew) (h:qam P ops (TailQ P ops (NoPanic Q) l2) S l1 a w.drew):(Code.region id ops true).wp P Q a w:=by
 simp only [qmx,Bool.and_eq_true,decide_eq_true_eq] at hc
 obtain ⟨⟨⟨h1,h2⟩,h3⟩,h4⟩:=hc
 refine wp_region_noPanic (wp_region_any hm (qit (S:=S) (tail:=l2.map (·.1)) _ _ _ _ (qfc h1 (fun _ _ _ _ _ h=>h) l1 ops.size _ a _ h2 h3 hS h ?_ ?_)))
 case refine_2 =>
  intro j oj _ hl
  have h0:(Array.replicate ops.size false).getD j false=false:=by
   rw [Array.getD_eq_getD_getElem?,Array.getElem?_replicate]
   split <;> rfl
  rw [h0] at hl
  cases hl
 intro i hi ht
 have:=List.all_eq_true.1 h4 _ hi
 simp only [Bool.false_or,Bool.not_eq_true',List.contains_eq_mem,decide_eq_false_iff_not] at this
 exact this ht
theorem qak {a:Act} {w:World} {l2:List (Nat × Bool)} (h:qam P ops Q (fun _=>True) l2 a w):qam P ops (TailQ P ops Q l2) S [] a w:=by with_unfolding_all exact h
end
section
variable {P:Program} {ops:Array Oper} {Q:Exit->Act->World->Prop} {S:World->Prop} {a:Act} {w:World}
theorem r3 {id:Nat} (l1 l2:List (Nat × Bool)) (hS:S w.drew) (h:qam P ops (TailQ P ops (NoPanic Q) l2) S l1 a w.drew) (hm:P.follows .mixedOrders=true:=by kernel_rfl) (hc:qmx .any ops l1 l2=true:=by kernel_rfl):(Code.region id ops true).wp P Q a w:=qck l1 l2 hm hc hS h
end
end Go.Proofs.YtdjbpcnhnkemiaaGreat.lib
namespace Go.Proofs.YtdjbpcnhnkemiaaGreat.tp
open Go.ChangeShapes Go.WideShapes Go.ChangeAt Go.RowKit Go.Proofs.YtdjbpcnhnkemiaaGreat.lib
variable {w w':World}
variable {n c g B b off i j k m n2 n3 c2 c3 c4 c5 c6 gs gn np lo base gr gd id b2 off2:Nat}
variable {A A2 A3 A4 A5 A6:Option Addr}
variable {cs:List Value}
variable {l r:List UInt8}
variable {rs:List (List UInt8)}
variable {s o e:Int}
variable {nm:ByteArray}
variable {F G:qab}
theorem qkz:∀ (vs:List Value) (k off:Nat) (cs:List Value),off+k+vs.length<=cs.length ->
  ((vs.zipIdx k).foldl (fun (cs:Array Value) (x:Value × Nat)=>cs.setIfInBounds (off+x.2) x.1) cs.toArray)=(laid cs (off+k) vs).toArray
 | [],k,off,cs,h=>by simp [laid]
 | v::vs,k,off,cs,h=>by
  simp only [List.length_cons] at h
  rw [List.zipIdx_cons,List.foldl_cons]
  have h1:cs.toArray.setIfInBounds (off+k) v=(cs.set (off+k) v).toArray:=by simp
  rw [h1,qkz vs (k+1) off _ (by simp;omega),<-qno cs (off+k) v vs (by simp;omega),Nat.add_assoc off k 1]
def qco (places:List (Nat × Nat)):List Value->List (Nat × Value)->Option (List Value)
 | cs,[]=>some cs
 | cs,(i,v)::rest=>match places[i]? with
  | none=>none
  | some (off,size)=>if v.cells.size=size/\off+size<=cs.length then qco places (laid cs off v.cells.toList) rest else none
theorem fill_of {places:List (Nat × Nat)}:∀ (parts:List (Nat × Value)) (cs r:List Value),qco places cs parts=some r->Instr.fill (places.toArray[·]?) cs.toArray parts=some r.toArray
 | [],cs,r,h=>by
  unfold qco at h
  injection h with h
  subst h
  rfl
 | (i,v)::rest,cs,r,h=>by
  unfold qco at h
  unfold Instr.fill
  simp only [List.getElem?_toArray]
  split at h
  ·cases h
  ·rename_i off size hp
   simp only [hp]
   split at h
   ·rename_i hc
    have hn:¬((decide (v.cells.size≠size) || decide (off+v.cells.size > cs.toArray.size))=true):=by
     simp;omega
    rw [if_neg hn]
    have hz:(v.cells.zipIdx.foldl (fun (cs:Array Value) (x:Value × Nat)=>cs.setIfInBounds (off+x.2) x.1) cs.toArray)=(laid cs off v.cells.toList).toArray:=by
     have h1:=qkz v.cells.toList 0 off cs (by rw [Array.length_toList];omega)
     rw [<-Array.foldl_toList,Array.toList_zipIdx]
     simpa using h1
    have:=fill_of rest _ r h
    rw [<-hz] at this
    simpa using this
   ·cases h
def qeo (P:Program) (t:TypeId):Option (List Value × List (Nat × Nat)) :=
 match P.info? t,P.underlying t with
 | some it,some (.struct fields)=>match it.zero,fields.toList.mapM (fun f=>(P.info? f.type).map fun i=>(f.offset,i.size)) with
  | some z,some places=>some (z.cells.toList,places)
  | _,_=>none
 | _,_=>none
theorem qoe {P:Program} {t:TypeId} {zs:List Value} {places:List (Nat × Nat)} {parts:List (Nat × Value)} (hs:qeo P t=some (zs,places)) (hf:qco places zs parts=some cs):P.built t parts=some cs.toArray:=by
 unfold qeo at hs
 unfold Program.built
 split at hs
 ·rename_i it fields hi hu
  simp only [hi,hu]
  split at hs
  ·rename_i z places' hz hp
   injection hs with hs
   injection hs with h1 h2
   subst h1 h2
   simp only [hz,hp]
   have:=fill_of parts _ _ hf
   simpa using this
  ·cases hs
 ·cases hs
theorem qce {P:Program} {o:Oper} {a:Act} (t:TypeId) (parts:Array (Nat × Operand)) (ho:o.op=.build t parts) {zs:List Value} {places:List (Nat × Nat)} {ps:List (Nat × Value)} (hs:qeo P t=some (zs,places))
  (hps:parts.toList.map (fun x=>(x.1,a.eval x.2))=ps) (hf:qco places zs ps=some cs):(execOp a.eval o).run P w=.ok (.value (.agg cs.toArray)) w:=by
 have hq:(parts.map fun (x:Nat × Operand)=>(x.1,a.eval x.2)).toList=ps:=by rw [Array.toList_map];exact hps
 unfold execOp
 simp only [ho,Sem.run_bind,run_build w t (parts.map fun (x:Nat × Operand)=>(x.1,a.eval x.2)) _ (by rw [hq];exact qoe hs hf),Result.andThen_ok]
 rfl
theorem qba {P:Program} {o:Oper} {a:Act} (ty:TypeId) (x:Operand) (ho:o.op=.load ty x) (b off:Nat) (hx:a.eval x=.pointer (some ⟨b,off,none⟩)) (cs:List Value) (d:TypeDesc) (hc:w.rangeAt b off cs)
  (hu:P.underlying ty=some d) (hd:d.isRow=true) (hi:(P.info? ty).map (·.size)=some cs.length):(execOp a.eval o).run P w=.ok (.value (.agg cs.toArray)) w:=by
 unfold execOp
 simp only [ho,hx,Instr.loadAt,Instr.sureAddr,Sem.run_bind,Sem.run_pure,Result.andThen_ok,run_loadVar_mid w b off ty cs d hc hu hd hi]
theorem Blk.whole {t:TypeId} (h:Blk w g t cs.toArray):w.rangeAt g 0 cs:=Blk.range h (by rw [List.drop_zero,List.take_of_length_le (zl _)])
theorem qcm (a b c vs:List Value) (h:vs.length=b.length):laid (a++b++c) a.length vs=a++vs++c:=by
 unfold laid
 rw [h]
 simp [List.drop_append]
theorem qai (cs vs:List Value) (h:vs.length=cs.length):laid cs 0 vs=vs:=by
 unfold laid
 rw [List.take_zero,Nat.zero_add,h,List.drop_length]
 simp
theorem wp_slice1 {P:Program} {o:Oper} {a:Act} {K:Act->World->Prop} {Q:Exit->Act->World->Prop} (t e:TypeId) (x:Operand) (ho:o.op=.buildSlice t 1 #[(0,x)]) (cs:List Value) (hx:a.eval x=.agg cs.toArray)
  (ie:TypeInfo) (z:Value) (hu:P.underlying t=some (.slice e)) (hie:P.info? e=some ie) (hz:ie.zero=some z) (hs:ie.size=cs.length) (hp:0<cs.length) (hl:cs.length<=1000)
  (h:K (a.put o.dst (.slice (some ⟨w.heap.size,0,none⟩) 1 1)) (w.alloc (.cells cs.toArray e))):o.wp P a w K Q:=by
 refine wp_buildSlice t e 1 #[(0,x)] ho cs.toArray ie z hu hie hz (by rw [hs];omega) (by rw [hs];omega) ?_ h
 have he:(#[(0,x)].map fun (p:Nat × Operand)=>(p.1,a.eval p.2)).toList=[(0,a.eval x)]:=by simp
 show Instr.fill _ _ (#[(0,x)].map fun (p:Nat × Operand)=>(p.1,a.eval p.2)).toList=_
 rw [he,hx]
 have hz2:((Array.range (1 * ie.size)).map (z.cells[· % z.cells.size]!))=((List.range (1 * ie.size)).map (z.cells[· % z.cells.size]!)).toArray:=by
  apply Array.ext'
  simp
 rw [hz2]
 unfold Instr.fill
 have hn:¬((decide ((Value.agg cs.toArray).cells.size≠ie.size) || decide (0 * ie.size+(Value.agg cs.toArray).cells.size > (((List.range (1 * ie.size)).map (z.cells[· % z.cells.size]!)).toArray).size))=true):=by
  simp [Value.cells,hs]
 simp only []
 rw [if_neg hn]
 have h1:=qkz cs 0 0 ((List.range (1 * ie.size)).map (z.cells[· % z.cells.size]!)) (by simp [hs])
 rw [Nat.add_zero,qai _ _ (by simp [hs])] at h1
 have h2:((Value.agg cs.toArray).cells.zipIdx.foldl (fun (cs:Array Value) (x:Value × Nat)=>cs.setIfInBounds (0 * ie.size+x.2) x.1) ((List.range (1 * ie.size)).map (z.cells[· % z.cells.size]!)).toArray)=cs.toArray:=by
  rw [<-Array.foldl_toList,Array.toList_zipIdx,Nat.zero_mul]
  simpa [Value.cells] using h1
 unfold Instr.fill
 exact congrArg some h2
theorem qbs {P:Program} {o:Oper} {a:Act} {K:Act->World->Prop} {Q:Exit->Act->World->Prop} (dd:Tmp) (t e:TypeId) (x:Operand) (hd:o.dst=some dd) (ho:o.op=.buildSlice t 1 #[(0,x)]) (cs:List Value) (hx:a.eval x=.agg cs.toArray)
  (ie:TypeInfo) (z:Value) (hu:P.underlying t=some (.slice e)) (hie:P.info? e=some ie) (hz:ie.zero=some z) (hs:ie.size=cs.length) (hp:0<cs.length) (hl:cs.length<=1000)
  (h:K { a with tmps:=a.tmps.setIfInBounds dd (.slice (some ⟨w.heap.size,0,none⟩) 1 1) } (w.alloc (.cells cs.toArray e))):o.wp P a w K Q:=by
 refine wp_slice1 t e x ho cs hx ie z hu hie hz hs hp hl ?_
 rw [hd]
 exact h
theorem qao {P:Program} {o:Oper} {a:Act} {K:Act->World->Prop} {Q:Exit->Act->World->Prop} (ty:TypeId) (x y:Operand) (hd:o.dst=none) (ho:o.op=.store ty x y)
  (b off:Nat) (cells:List Value) (hx:a.eval x=.pointer (some ⟨b,off,none⟩)) (hy:a.eval y=.agg cells.toArray)
  (ht:w.there b off cells.length) (hi:(P.info? ty).map (·.size)=some cells.length) (h1:∀ v∈cells,v.oneCell'=true)
  (h:K a (w.setCells b off cells)):o.wp P a w K Q:=by
 refine wp_store_mid ty x y ho b off cells.toArray hx hy (by simpa using ht) (by simpa using hi) (all_oneCell_toArray h1) ?_
 rw [hd]
 exact h
theorem qdo {P:Program} {o:Oper} {a:Act} {K:Act->World->Prop} {Q:Exit->Act->World->Prop} (dd:Tmp) (s x:Operand) (t:TypeId) (hd:o.dst=some dd)
  (ho:o.op=.call { callee:=.builtin .append,args:=#[s,x],argTypes:=#[t,t] }) (base:Nat) (e:TypeId) (i:TypeInfo) (z:Value) (size bytes:Nat)
  (ht:P.underlying t=some (.slice e)) (hi:P.info? e=some i) (hz:i.zero=some z) (hsize:i.size=size) (hby:i.bytes=bytes) (hzs:z.cells.size=size) (hsz:0<size)
  (sv:Value) (n:Nat) (xs:List Value) (hs:a.eval s=sv) (hown:w.ownsRow base e size sv n xs) (ad:Addr) (m c:Nat) (news:List Value) (hx:a.eval x=.slice (some ad) m c)
  (hl:news.length=m * size) (hsrc:∀ j u,news[j]? = some u->w.cell? (ad.add j)=some u) (h1:∀ u∈news,u.oneCell'=true) (h63:n+m<=maxLen) (hbytes:(n+m) * bytes<=140737488355328) (hbase:base<=w.heap.size)
  (h:∀ A c' w',w'.ownsRow base e size (.slice A (n+m) c') (n+m) (xs++news)->w.grownBy w' sv.ownBlock->K { a with tmps:=a.tmps.setIfInBounds dd (.slice A (n+m) c') } w'):o.wp P a w K Q:=by
 refine wp_append_own w s x t ho base e i z size bytes ht hi hz hsize hby hzs hsz sv n xs hs hown ad m c news hx hl hsrc h1 h63 hbytes hbase ?_
 intro v' w' ho' hg _
 obtain ⟨A,c',rfl⟩:=qan ho'
 have:=h A c' w' ho' hg
 rw [hd]
 exact this
structure Frm (G:qab) (w w':World):Prop where
 os:w'.os=w.os
 tape:w'.tape=w.tape
 output:w'.output=w.output
 size:w.heap.size<=w'.heap.size
 block:∀ k,k<w.heap.size->¬G k->w'.heap[k]? = w.heap[k]?
theorem Frm.refl (G:qab) (w:World):Frm G w w:=⟨rfl,rfl,rfl,zl _,fun _ _ _=>rfl⟩
theorem Frm.trans {a b c:World} (h:Frm G a b) (k:Frm G b c):Frm G a c :=
 ⟨k.os.trans h.os,k.tape.trans h.tape,k.output.trans h.output,Nat.le_trans h.size k.size,fun j hj hg=>(k.block j (Nat.lt_of_lt_of_le hj h.size) hg).trans (h.block j hj hg)⟩
theorem Frm.mono {H:qab} {a b:World} (h:Frm G a b) (hg:∀ k,G k->H k):Frm H a b:=⟨h.os,h.tape,h.output,h.size,fun k hk hn=>h.block k hk (fun x=>hn (hg k x))⟩
theorem Frm.mono' {H:qab} {a b:World} (h:Frm G a b) (hg:∀ k,k<a.heap.size->G k->H k):Frm H a b:=⟨h.os,h.tape,h.output,h.size,fun k hk hn=>h.block k hk (fun x=>hn (hg k hk x))⟩
theorem Frm.below (h:Below w.heap.size w w'):Frm G w w':=⟨h.os,h.tape,h.output,h.size,fun k hk _=>h.block k hk⟩
theorem Frm.grown {row:Option Nat} (h:w.grownBy w' row) (hg:∀ g,row=some g->G g):Frm G w w':=⟨h.os,h.tape,h.output,h.size,fun k hk hn=>h.block k hk (fun e=>hn (hg k e.symm))⟩
theorem Frm.keep (h:Frm G w w') (hd:∀ k,F k->k<w.heap.size->¬G k):Keep F w w':=⟨h.size,fun b hb hl=>h.block b hl (hd b hb hl)⟩
theorem Frm.to_below (h:Frm G w w') (hB:B<=w.heap.size) (hd:∀ k,k<B->¬G k):Below B w w':=⟨h.os,h.tape,h.output,h.size,fun k hk=>h.block k (Nat.lt_of_lt_of_le hk hB) (hd k hk)⟩
theorem Frm.blk {t:TypeId} {cs:Array Value} (h:Frm G w w') (hb:Blk w g t cs) (hg:¬G g):Blk w' g t cs:=(h.block g hb.lt hg).trans hb
theorem Frm.drew (G:qab) (w:World):Frm G w w.drew:=⟨rfl,rfl,rfl,zl _,fun _ _ _=>rfl⟩
def pg (l:List UInt8):List UInt8:=l++List.replicate (64 - l.length) 0
theorem qec (l:List UInt8) (h:l.length<=64):(pg l).length=64:=by simp [pg];omega
def put (l:List UInt8) (n:Nat) (x:List UInt8):List UInt8:=l.take (n * 64)++pg x++l.drop (n * 64+64)
theorem qmm (l:List UInt8) (n np:Nat) (x:List UInt8) (hl:l.length=np * 64) (hn:n<np) (hx:x.length<=64):(put l n x).length=np * 64:=by
 have:(n+1) * 64<=np * 64:=Nat.mul_le_mul_right _ hn
 simp only [put,List.length_append,List.length_take,List.length_drop,qec x hx]
 omega
theorem put_laid (l:List UInt8) (n np:Nat) (x:List UInt8) (hx:x.length<=64):laid (qaa l) (n * 64) (qaa (pg x))=qaa (put l n x):=by
 unfold laid put
 rw [lenB,qec x hx]
 simp [qaa]
def zp:List UInt8:=List.replicate 64 0
theorem qlo:zp.length=64:=rfl
theorem zp_drop (k:Nat):zp.drop k=List.replicate (64 - k) 0:=by unfold zp;rw [List.drop_replicate]
theorem page_laid (x:List UInt8):laid (qaa zp) 0 (qaa x)=qaa (pg x):=by
 unfold laid pg
 rw [lenB,List.take_zero,List.nil_append,Nat.zero_add,qbu,<-zp_drop]
 simp [qaa]
theorem zeroPage (w:World):(zeroValue 337).run Tryz.prog w=.ok (.agg (qaa zp).toArray) w:=by kernel_rfl
theorem qpk:qeo Tryz.prog 368=some (.int .i64 0::qaa zp,[(0,1),(1,64)]):=by kernel_rfl
theorem qqf:(Tryz.prog.info? 368).map (fun i=>(i.zero,i.size,i.bytes))=some (some (.agg (.int .i64 0::qaa zp).toArray),65,72):=by kernel_rfl
theorem qpw (n:Int) (x:List UInt8) (hx:x.length<=64):qco [(0,1),(1,64)] (.int .i64 0::qaa zp) [(0,.int .i64 n),(1,.agg (qaa (pg x)).toArray)]=some (.int .i64 n::qaa (pg x)):=by
 have h1:laid (.int .i64 0::qaa zp) 0 [.int .i64 n]=.int .i64 n::qaa zp:=by simp [laid]
 have h2:laid (.int .i64 n::qaa zp) 1 (qaa (pg x))=.int .i64 n::qaa (pg x):=by
  have:=qcm [.int .i64 n] (qaa zp) [] (qaa (pg x)) (by rw [lenB,lenB,qec x hx];rfl)
  simpa using this
 have c1:(Value.int .i64 n).cells.toList=[.int .i64 n]:=rfl
 have c2:(Value.agg (qaa (pg x)).toArray).cells.toList=qaa (pg x):=rfl
 unfold qco
 simp only [List.getElem?_cons_zero]
 rw [if_pos ⟨rfl,by simp⟩,c1,h1]
 unfold qco
 simp only [List.getElem?_cons_succ,List.getElem?_cons_zero]
 rw [if_pos ⟨by show (qaa (pg x)).length=64;rw [lenB,qec x hx],by rw [List.length_cons,lenB,qlo];omega⟩,c2,h2]
 rfl
theorem qnj (x:List UInt8) (h:x.length<=64):(Tryz.prog.info? 337).map (·.size)=some (qaa (pg x)).length:=by rw [lenB,qec x h];kernel_rfl
theorem write_ {d:Nat} {ws:Value} {xs:List Value} (h:Dk w d gs gn np l ws) (hw:w.ownsRow B 368 65 ws k xs) (hB:d<B/\gs<B/\gn<B) (hBw:B<=w.heap.size) (hk:k<=5000)
  (n m c:Nat) (A:Option Addr) (x:List UInt8) (hn:n<np) (hx:By w A m c x) (hm:m<=64) (h0:0<m) :
  Calls Tryz.prog 168 #[.pointer (some ⟨d,0,none⟩),.int .i64 n,.slice A m c] w fun e w'=>∃ ws' xs',e=.returned (.int .i64 0)/\Dk w' d gs gn np (put l n x) ws'/\w'.ownsRow B 368 65 ws' (k+1) xs'/\Frm (fun b=>b=d\/b=gn\/B<=b) w w':=by
 have HC:=zh (qoa h n m hn hm)
 have hxl:=hx.2
 have q:=five h.blk (zb _ _)
 have hz:=zeroPage
 go_enter Tryz.func168,Tryz.ntmps168
 go_wp2_with fail
 refine HC.out.mono ?_
 rintro e w' ⟨rfl,rfl⟩
 clear HC
 go_upto_region 5 with fail
 obtain ⟨W,hW_,hbW,BP⟩:=al1 w 337 ((qaa zp).toArray)
 rw [<-hW_]
 clear hW_
 obtain ⟨p,hp⟩:∃ p,w.heap.size=p:=⟨_,rfl⟩
 rw [hp] at BP hBw ⊢
 have hdl:=h.lt
 have hD:=h.ext hbW
 have hxW:=hx.ext hbW
 obtain ⟨bx,ox,rfl,_,_,hbxl⟩:=hx.1.some_ h0
 clear q hz hx h
 obtain ⟨i1,hi,hy0,hy1,hy2⟩:=ip Tryz.prog 5 (.int .u8 0) 1 1
 have hmin:Nat.min m 64=m:=Nat.min_eq_left hm
 have hth:=Blk.there (o:=0) (n:=m) BP (by rw [lenB,qlo];omega)
 go_wp2_with ((with_reducible refine sT 19 ?_);(refine qcx rfl (.tmp 17) (.tmp 18) 151 rfl 5 i1 1 Tryz.underlying151 hi hy1 p 0 64 64 ⟨bx,ox,none⟩ m c rfl rfl (qaa x) ?_ hxW.1.src ?_ ?_ (oneB _) ?_))
 ·rw [lenB,hxl,hmin,Nat.mul_one]
 ·exact fun j hj=>(hth j (by rw [lenB,hxl] at hj;exact hj)).1
 ·exact fun j hj=>(hth j (by rw [lenB,hxl] at hj;exact hj)).2
 obtain ⟨BP2,hg2⟩:=Blk.lay (qaa x) 0 BP (by rw [lenB,lenB,qlo];omega)
 rw [page_laid] at BP2
 generalize W.setCells p 0 (qaa x)=W2 at *
 have hD:=hD.keep (F:=fun b=>b≠p) (Keep.grown hg2 (fun g hg=>by injection hg with hg;simp [hg])) (by omega) (by omega) (by omega)
 have hb2:Below w.heap.size w W2:=hbW.grown hg2 (by have:=hbW.size;omega) (fun b hb=>by injection hb with hb;omega)
 clear hg2 BP hth hxW hbxl
 have hps:=qnj x (by omega)
 have D:=fun w' (hS:Blk w' d 137 #[.int .i64 0,.int .u32 0,.slice (some ⟨gs,0,none⟩) np np,.slice (some ⟨gn,0,none⟩) np np,ws]/\Blk w' p 337 (qaa (pg x)).toArray)=>five hS.1 (zb _ _)
 have hn1:(n:Int)<np:=by omega
 go_wp2_with fail
 go_frame
 refine qck (S:=fun w'=>Blk w' d 137 #[.int .i64 0,.int .u32 0,.slice (some ⟨gs,0,none⟩) np np,.slice (some ⟨gn,0,none⟩) np np,ws]/\Blk w' p 337 (qaa (pg x)).toArray)
  [(0,true),(1,true),(2,true),(3,true),(4,true),(5,true),(6,true)] [(7,false)] (by kernel_rfl) (by kernel_rfl) ⟨Blk.drew hD.blk,Blk.drew BP2⟩ ?_
 repeat ((first|refine pT ?_|refine pF ?_);try go_frame)
 refine qas rfl rfl (qae rfl) (fun w' hS=>qba 337 (.tmp 8) rfl p 0 rfl (qaa (pg x)) _ (Blk.whole hS.2) Tryz.underlying337 rfl hps) ?_
 go_frame
 repeat ((first|refine pT ?_|refine pF ?_);try go_frame)
 refine qak ?_
 have hthn:=Blk.there (o:=n * 64) (n:=64) hD.now (by
  have:(n+1) * 64<=np * 64:=Nat.mul_le_mul_right _ hn
  rw [lenB,hD.len];omega)
 refine qaj rfl (qae rfl) (fun K hK=>?_)
 refine qao 337 (.tmp 26) (.tmp 25) rfl rfl gn (n * 64) (qaa (pg x)) rfl rfl (by rw [lenB,qec x (by omega)];exact hthn) hps (oneB _) ?_
 refine hK.out _ _ trivial (qad ?_)
 clear hK K D hthn
 obtain ⟨BN,hgN⟩:=Blk.lay (qaa (pg x)) (n * 64) (Blk.drew hD.now) (by
  have:(n+1) * 64<=np * 64:=Nat.mul_le_mul_right _ hn
  rw [lenB,lenB,qec x (by omega),hD.len];omega)
 rw [put_laid l n np x (by omega)] at BN
 have hkN:Keep (fun b=>b≠gn) W2.drew (W2.drew.setCells gn (n * 64) (qaa (pg x))):=Keep.grown hgN (fun g hg=>by injection hg with hg;simp [hg])
 have hfN:=Frm.grown (G:=fun b=>b=d\/b=gn\/B<=b) hgN (fun g hg=>by injection hg with hg;exact .inr (.inl hg.symm))
 show Exit.then _ _ _ _ (W2.drew.setCells gn (n * 64) (qaa (pg x)))
 have BP3:=Blk.keep (Blk.drew BP2) hkN (by omega)
 have BD3:=Blk.keep (Blk.drew hD.blk) hkN hD.ne.2.1
 have BS3:∃ l',Blk (W2.drew.setCells gn (n * 64) (qaa (pg x))) gs 337 (qaa l').toArray/\l'.length=np * 64:=by
  obtain ⟨l',h1,h2⟩:=hD.syn
  exact ⟨l',Blk.keep (Blk.drew h1) hkN hD.ne.2.2,h2⟩
 have hOw:(W2.drew.setCells gn (n * 64) (qaa (pg x))).ownsRow B 368 65 ws k xs:=by
  have h1:=(qay hw hb2).drew
  refine h1.kept hgN ?_
  cases ho:ws.ownBlock with
  | none=>exact .inl rfl
  | some b =>
   have:=(h1.lt b ho).1
   exact .inr (by simp;omega)
 have hfr:=((Frm.below (G:=fun b=>b=d\/b=gn\/B<=b) hb2).trans (Frm.drew _ _)).trans hfN
 generalize W2.drew.setCells gn (n * 64) (qaa (pg x))=W3 at *
 have hne:=hD.ne
 have hlen:=qmm l n np x hD.len hn (by omega)
 have hnp:=hD.np
 have HH:=zh (za BN (za BS3 (za hOw (za hfr (za hlen (za hnp hne))))))
 clear hgN hkN hfN hD BP2 hb2 hbW hps BN BS3 hOw hfr hlen hnp hne hi hy0 hy1 hy2 hmin
 have hps:=qnj x (by omega)
 have D:=fun w' (hS:Blk w' d 137 #[.int .i64 0,.int .u32 0,.slice (some ⟨gs,0,none⟩) np np,.slice (some ⟨gn,0,none⟩) np np,ws]/\Blk w' p 337 (qaa (pg x)).toArray)=>five hS.1 (zb _ _)
 go_wp2_with fail
 refine qck (S:=fun w'=>Blk w' d 137 #[.int .i64 0,.int .u32 0,.slice (some ⟨gs,0,none⟩) np np,.slice (some ⟨gn,0,none⟩) np np,ws]/\Blk w' p 337 (qaa (pg x)).toArray)
  [(0,true),(1,true),(2,true),(3,true),(4,true),(5,true),(6,true),(7,true),(8,false),(9,false),(10,true),(11,true)] [(12,false)] (by kernel_rfl) (by kernel_rfl) ⟨Blk.drew BD3,Blk.drew BP3⟩ ?_
 iterate 6 (((first|refine pT ?_|refine pF ?_);try go_frame))
 refine qas rfl rfl (qae rfl) (fun w' hS=>qba 337 (.tmp 8) rfl p 0 rfl (qaa (pg x)) _ (Blk.whole hS.2) Tryz.underlying337 rfl hps) ?_
 go_frame
 refine qas rfl rfl (qae rfl) (fun w' hS=>qce (ps:=[(0,.int .i64 n),(1,.agg (qaa (pg x)).toArray)]) 368 _ rfl qpk rfl (qpw n x (by omega))) ?_
 go_frame
 refine qaj rfl (qae rfl) (fun K hK=>?_)
 obtain ⟨iw,hwi,hw0,hw1,hw2⟩:=info_parts qqf
 have hwl:(Value.int .i64 n::qaa (pg x)).length=65:=by rw [List.length_cons,lenB,qec x (by omega)]
 have BN:=HH.out.1
 have BS3:=HH.out.2.1
 have hOw:=HH.out.2.2.1
 have hfr:=HH.out.2.2.2.1
 have hlen:=HH.out.2.2.2.2.1
 have hnp:=HH.out.2.2.2.2.2.1
 have hne:=HH.out.2.2.2.2.2.2
 refine qbs 35 135 368 (.tmp 34) rfl rfl (.int .i64 n::qaa (pg x)) rfl iw _ Tryz.underlying135 hwi hw0 (by rw [hw1,hwl]) (by simp) (by rw [hwl];omega) ?_
 go_frame
 refine hK.out _ _ ⟨Blk.alloc (Blk.drew BD3) _,Blk.alloc (Blk.drew BP3) _⟩ ?_
 clear hK K
 have C:Blk (W3.drew.alloc (.cells (Value.int .i64 n::qaa (pg x)).toArray 368)) W3.drew.heap.size 368 (Value.int .i64 n::qaa (pg x)).toArray:=Blk.new _ _ _
 have hb4:Below W3.heap.size W3 (W3.drew.alloc (.cells (Value.int .i64 n::qaa (pg x)).toArray 368)):=((zb W3.heap.size W3).drew).alloc (zl _) _
 have BD4:=BD3.ext hb4
 have BP4:=BP3.ext hb4
 have BN4:=BN.ext hb4
 have hO4:=qay hOw hb4
 have BS4:∃ l',Blk (W3.drew.alloc (.cells (Value.int .i64 n::qaa (pg x)).toArray 368)) gs 337 (qaa l').toArray/\l'.length=np * 64:=by
  obtain ⟨l',h1,h2⟩:=BS3
  exact ⟨l',h1.ext hb4,h2⟩
 have hfr4:=hfr.trans (Frm.below hb4)
 have hBs:B<=W3.heap.size:=by have:=hfr.size;omega
 have hBs4:=Nat.le_trans hBs hb4.size
 have hg9:W3.drew.heap.size=W3.heap.size:=rfl
 generalize W3.drew.alloc (.cells (Value.int .i64 n::qaa (pg x)).toArray 368)=W4 at *
 rw [hg9] at C ⊢
 have hown4:=hO4.lt
 have hpb:∀ g,ws.ownBlock=some g->g≠p:=fun g hg=>by
  have h1:=(hw.lt g hg).2
  omega
 clear hb4 BD3 BP3 BN hOw BS3 hfr HH hg9
 refine qaj rfl (qae rfl) (fun K hK=>?_)
 refine qdo 36 (.tmp 31) (.tmp 35) 135 rfl rfl B 368 iw _ 65 72 Tryz.underlying135 hwi hw0 hw1 hw2 (by show (Value.int .i64 0::qaa zp).toArray.size=65;rw [List.size_toArray,List.length_cons,lenB,qlo]) (by decide) ws k xs rfl hO4 ⟨W3.heap.size,0,none⟩ 1 1 (.int .i64 n::qaa (pg x)) rfl hwl ?_ ?_ (by unfold maxLen;omega) (by omega) hBs4 ?_
 ·intro j u hu
  rw [Addr.add_mid]
  exact Blk.whole C j u hu
 ·intro u hu
  rcases List.mem_cons.1 hu with rfl|hu
  ·rfl
  ·exact oneB _ u hu
 intro A5 c5 W5 hO5 hg5
 go_frame
 have hk5:Keep (fun b=>∀ g,ws.ownBlock=some g->g≠b) W4 W5:=Keep.grown hg5 (fun g hg h=>h g hg rfl)
 have hlo:∀ b,b<B->∀ g,ws.ownBlock=some g->g≠b:=fun b hb g hg=>by have:=(hown4 g hg).1;omega
 have BD5:=Blk.keep BD4 hk5 (hlo d hB.1)
 have BP5:=Blk.keep BP4 hk5 hpb
 have BN5:=Blk.keep BN4 hk5 (hlo gn hB.2.2)
 have BS5:∃ l',Blk W5 gs 337 (qaa l').toArray/\l'.length=np * 64:=by
  obtain ⟨l',h1,h2⟩:=BS4
  exact ⟨l',Blk.keep h1 hk5 (hlo gs hB.2.1),h2⟩
 have hfr5:=hfr4.trans (Frm.grown hg5 (fun g hg=>.inr (.inr (hown4 g hg).1)))
 refine hK.out _ _ ⟨BD5,BP5⟩ ?_
 clear hK K hk5 hg5 BD4 BP4 BN4 BS4 hfr4 hO4 C
 repeat ((first|refine pT ?_|refine pF ?_);try go_frame)
 refine qak ?_
 clear D
 have q:=five BD5 (zb _ _)
 have f4:=BD5.frozen 4
 refine pD fun K hK=>?_;go_simp
 clear q f4
 obtain ⟨W6,hW6,BD6,hg6⟩:=Blk.set1 (i:=4) BD5 (.slice A5 (k+1) c5)
 rw [<-hW6]
 clear hW6
 have hk6:Keep (fun b=>b≠d) W5 W6:=Keep.grown hg6 (fun g hg=>by injection hg with hg;simp [hg])
 have hD6:Dk W6 d gs gn np (put l n x) (.slice A5 (k+1) c5):=by
  obtain ⟨l',h1,h2⟩:=BS5
  exact ⟨by simpa using BD6,Blk.keep BN5 hk6 (Ne.symm hne.2.1),⟨l',Blk.keep h1 hk6 (Ne.symm hne.1),h2⟩,hlen,hnp,hne⟩
 have hO6:W6.ownsRow B 368 65 (.slice A5 (k+1) c5) (k+1) (xs++(.int .i64 n::qaa (pg x))):=by
  refine hO5.kept hg6 ?_
  cases ho:(Value.slice A5 (k+1) c5).ownBlock with
  | none=>exact .inl rfl
  | some b =>
   have:=(hO5.lt b ho).1
   exact .inr (by simp;omega)
 have hfr6:=hfr5.trans (Frm.grown hg6 (fun g hg=>by injection hg with hg;exact .inl hg.symm))
 refine hK.out _ _ trivial (qad ?_)
 clear hK K BD5 BP5 BN5 BS5 hfr5 hO5 hg6 hk6 BD6
 have HR:=zh (za hD6 (za hO6 hfr6))
 have q:=five hD6.blk (zb _ _)
 have hst:=step_ (w:=W6) (b:=d) (o:=0) q.1
 have HS:=zh hst
 clear hD6 hO6 hfr6 hst
 go_wp2_with fail
 refine HS.out.mono ?_
 rintro e w7 ⟨rfl,rfl⟩
 go_wp2
 go_ret
 exact ⟨_,_,rfl,HR.out.1,HR.out.2.1,HR.out.2.2⟩
theorem sync_ {d:Nat} {ws:Value} (h:Dk w d gs gn np l ws):
  Calls Tryz.prog 170 #[.pointer (some ⟨d,0,none⟩)] w fun e w'=>e=.returned (.int .i64 0)/\Dk w' d gs gn np l (.slice none 0 0)/\Frm (fun b=>b=d\/b=gs) w w':=by
 have q:=five h.blk (zb _ _)
 have HD:=zh (dead_ (w:=w) (b:=d) (o:=0) q.2.1)
 have HS:=zh (step_ (w:=w) (b:=d) (o:=0) q.1)
 have hlen:=h.len
 have hne:=h.ne
 have hnp:=h.np
 have hr:Row w 0 (some ⟨gn,0,none⟩) np np (qaa l):=by
  have:=Row.of_blk h.now (Nat.zero_le _) np np (zl _)
  simpa using this
 have BD:=h.blk
 have BN:=h.now
 obtain ⟨l',BS,hl'⟩:=h.syn
 obtain ⟨i1,hi,hy0,hy1,hy2⟩:=ip Tryz.prog 337 (.agg (qaa zp).toArray) 64 64
 clear h
 go_enter Tryz.func170,Tryz.ntmps170
 go_wp2_with (first|(refine HD.out.mono ?_;rintro e w' ⟨rfl,rfl⟩)|(refine HS.out.mono ?_;rintro e w' ⟨rfl,rfl⟩))
 have D:=fun w' (hS:Blk w' d 137 #[.int .i64 0,.int .u32 0,.slice (some ⟨gs,0,none⟩) np np,.slice (some ⟨gn,0,none⟩) np np,ws])=>five hS (zb _ _)
 refine qck (S:=fun w'=>Blk w' d 137 #[.int .i64 0,.int .u32 0,.slice (some ⟨gs,0,none⟩) np np,.slice (some ⟨gn,0,none⟩) np np,ws])
  [(0,true),(1,true),(2,true),(3,true),(4,true),(5,true),(6,true),(7,true)] [(8,false)] (by kernel_rfl) (by kernel_rfl) (Blk.drew BD) ?_
 clear q
 repeat ((first|refine pT ?_|refine pF ?_);try go_frame)
 refine qak ?_
 clear D
 have hth:=Blk.there (o:=0) (n:=np * 64) (Blk.drew BS) (by rw [lenB,hl'];omega)
 refine qaj rfl (qae rfl) (fun K hK=>?_)
 refine qeb (.tmp 16) (.tmp 20) 129 rfl 337 i1 64 Tryz.underlying129 hi hy1 gs 0 np np ⟨gn,0,none⟩ np np rfl rfl (qaa l) (by rw [lenB,hlen,show Nat.min np np=np from Nat.min_eq_left (zl np)]) hr.src (fun j hj=>(hth j (by rw [lenB,hlen] at hj;exact hj)).1) (fun j hj=>(hth j (by rw [lenB,hlen] at hj;exact hj)).2) (oneB _) ?_
 go_frame
 obtain ⟨BS2,hg2⟩:=Blk.lay (qaa l) 0 (Blk.drew BS) (by rw [lenB,lenB,hlen,hl'];omega)
 rw [qai _ _ (by rw [lenB,lenB,hlen,hl'])] at BS2
 have hk2:Keep (fun b=>b≠gs) w.drew (w.drew.setCells gs 0 (qaa l)):=Keep.grown hg2 (fun g hg=>by injection hg with hg;simp [hg])
 have hf2:=(Frm.drew (fun b=>b=d\/b=gs) w).trans (Frm.grown hg2 (fun g hg=>by injection hg with hg;exact .inr hg.symm))
 have BD2:=Blk.keep (Blk.drew BD) hk2 hne.1
 have BN2:=Blk.keep (Blk.drew BN) hk2 (Ne.symm hne.2.2)
 refine hK.out _ _ trivial (qad ?_)
 generalize w.drew.setCells gs 0 (qaa l)=W2 at *
 clear hK K hg2 hk2 hth hr BS BD BN
 have f4:=BD2.frozen 4
 have q:=five BD2 (zb _ _)
 go_wp2
 clear q f4
 obtain ⟨W3,hW3,BD3,hg3⟩:=Blk.set1 (i:=4) BD2 (.slice none 0 0)
 rw [<-hW3]
 have hk3:Keep (fun b=>b≠d) W2 W3:=Keep.grown hg3 (fun g hg=>by injection hg with hg;simp [hg])
 have hf3:=hf2.trans (Frm.grown hg3 (fun g hg=>by injection hg with hg;exact .inl hg.symm))
 have hD:Dk W3 d gs gn np l (.slice none 0 0):=⟨by simpa using BD3,Blk.keep BN2 hk3 (Ne.symm hne.2.1),⟨l,Blk.keep BS2 hk3 (Ne.symm hne.1),hlen⟩,hlen,hnp,hne⟩
 go_ret
 exact ⟨rfl,hD,hf3⟩
def Rd (F:qab) (w:World) (r:Nat) (l:List UInt8):Prop :=
 ∃ A c,Blk w r 312 #[.slice A l.length c,.int .i64 0,.int .u32 0,.int .i32 0,.int .u32 0]/\RowF w F A l.length c (qaa l)/\F r/\∀ ad,A=some ad->ad.block≠r
theorem Rd.keep {r:Nat} (h:Rd F w r l) (k:Keep F w w'):Rd F w' r l:=by
 obtain ⟨A,c,h1,h2,h3,h4⟩:=h
 exact ⟨A,c,Blk.keep h1 k h3,h2.keep k,h3,h4⟩
theorem Rd.ext {r:Nat} (h:Rd F w r l) (hb:Below w.heap.size w w'):Rd F w' r l:=h.keep (Keep.below hb)
theorem Rd.lt {r:Nat} (h:Rd F w r l):r<w.heap.size:=by obtain ⟨A,c,h1,_⟩:=h;exact h1.lt
theorem qil (l:List UInt8) (A:Option Addr) (n c:Nat) (w:World) (hB:By w A n c l) (hn:n<=500000):
  Calls Tryz.prog 87 #[.slice A n c] w fun e w'=>∃ r,e=.returned (.pointer (some ⟨r,0,none⟩))/\Rd (fun b=>w.heap.size<=b/\b<w'.heap.size) w' r l/\w.heap.size<=r/\Below w.heap.size w w':=by
 have HC:=zh (qjk (qaa l) A n c w (by omega) hB.1 (by rw [lenB,hB.2];omega) (oneB l))
 have HL:=zh hB.2
 clear hB
 go_enter Tryz.func87,Tryz.ntmps87
 go_wp2_with fail
 refine HC.out.mono ?_
 rintro e w1 ⟨A1,c1,rfl,hown,hb1⟩
 clear HC
 have HO:=zh hown
 clear hown
 go_wp2
 obtain ⟨W,hW_,hbW,BR⟩:=al1 w1 312 #[.slice A1 n c1,.int .i64 0,.int .u32 0,.int .i32 0,.int .u32 0]
 rw [<-hW_]
 clear hW_
 have hs:=hb1.size
 have hrow:=(Row.of_own HO.out).ext hbW
 have HR:=zh (show Rd (fun b=>w.heap.size<=b/\b<W.heap.size) W w1.heap.size l from by
  refine ⟨A1,c1,by rw [HL.out];exact BR,?_,⟨hs,BR.lt⟩,?_⟩
  ·rw [HL.out]
   exact RowF.of_row hrow (fun b h1 h2=>⟨h1,h2⟩)
  ·intro ad hb
   subst hb
   rcases HO.out.2 with ⟨h1,_⟩|⟨g,cap,cur,h1,h2,h3,_⟩
   ·cases h1
   ·injection h1 with h1
    injection h1 with h1
    subst h1
    have:=(Array.getElem?_eq_some_iff.1 h3).1
    show g≠_
    omega)
 have hbw:=zt hb1 (zm hbW hb1.size)
 clear hrow BR hbW hb1
 go_ret
 exact ⟨_,rfl,HR.out,hs,hbw⟩
theorem RowF.take' {ad:Addr} (h:RowF w F (some ad) n c cs) (k:Nat) (hk:k<=n):RowF w F (some ad) k c (cs.take k):=by
 rcases h with h|⟨ad',e,h1,h2,h3⟩|⟨b,off,e,hnc,hF,hlt,hc⟩
 ·cases h.1
 ·obtain rfl:k=0:=by omega
  exact .inr (.inl ⟨ad,rfl,rfl,Nat.zero_le _,by simp⟩)
 ·refine .inr (.inr ⟨b,off,e,by omega,hF,hlt,fun i u hu=>hc i u ?_⟩)
  rw [List.getElem?_take] at hu
  split at hu
  ·exact hu
  ·cases hu
theorem RowF.drop' {ad:Addr} (h:RowF w F (some ad) n c cs) (k:Nat) (hk:k<=n):RowF w F (some (ad.add k)) (n - k) (c - k) (cs.drop k):=by
 rcases h with h|⟨ad',e,h1,h2,h3⟩|⟨b,off,e,hnc,hF,hlt,hc⟩
 ·cases h.1
 ·subst h3
  exact .inr (.inl ⟨_,rfl,by omega,by omega,by simp⟩)
 ·injection e with e
  subst e
  refine .inr (.inr ⟨b,off+k,by rw [Addr.add_lit],by omega,hF,hlt,fun i u hu=>?_⟩)
  rw [List.getElem?_drop] at hu
  rw [Nat.add_assoc]
  exact hc _ _ hu
theorem RowF.end_ (ad:Addr) (c:Nat):RowF w F (some ad) 0 c []:=.inr (.inl ⟨ad,rfl,rfl,Nat.zero_le _,rfl⟩)
theorem qng (ad:Addr) (k:Nat):(ad.add k).block=ad.block:=by
 unfold Addr.add
 split <;> rfl
theorem taker_ {r:Nat} (h:Rd F w r l) (k:Nat) (hk:k<=l.length) (hl:l.length<=500000):
  Calls Tryz.prog 192 #[.pointer (some ⟨r,0,none⟩),.int .i64 k] w fun e w'=>∃ A c,e=.returned (.slice A k c)/\RowF w' F A k c (qaa (l.take k))/\(∀ ad,A=some ad->ad.block≠r)/\Rd F w' r (l.drop k)/\w.grownBy w' (some r):=by
 obtain ⟨A,c,BR,hrow,hF,hne⟩:=h
 have q:=five BR (zb _ _)
 have f0:=BR.frozen 0
 have hlc:=hrow.row.le_
 obtain ⟨n,hn⟩:∃ n,l.length=n:=⟨_,rfl⟩
 rw [hn] at q hrow BR hk hl hlc
 have HN:=zh hn
 clear hn
 have d1:decide ((n:Int)<(k:Int))=false:=by simp;omega
 have h1:(k:Int)<=c:=by omega
 have h2:(k:Int)<=n:=by omega
 have HK:=zh (za hrow (za hne hF))
 clear hrow hne
 have hsg:=fun u=>qac w r 0 u
 have hset:=fun u=>BR.set_ 0 u
 cases A with
 | none =>
  have hr2:n=0/\c=0/\qaa l=[]:=by
   rcases HK.out.1 with h|⟨_,h,_⟩|⟨_,_,h,_⟩
   ·exact h.2
   ·cases h
   ·cases h
  obtain ⟨rfl,rfl,hl0⟩:=hr2
  obtain rfl:k=0:=by omega
  have hl1:l=[]:=List.length_eq_zero_iff.1 HN.out
  subst hl1
  have HS:=zh (za (hsg (.slice none 0 0)) (hset (.slice none 0 0)))
  clear hsg hset
  go_enter Tryz.func192,Tryz.ntmps192
  go_wp2
  go_ret
  exact ⟨none,0,rfl,RowF.nil _ _,fun _ h=>(by cases h),⟨none,0,by simpa using HS.out.2,RowF.nil _ _,HK.out.2.2,fun _ h=>(by cases h)⟩,HS.out.1⟩
 | some ad =>
  have ht:=HK.out.1.take' k hk
  have hd:=HK.out.1.drop' k hk
  have hkp:=fun u=>Keep.grown (F:=fun b=>b≠r) (hsg u) (fun g hg=>by injection hg with hg;simp [hg])
  have hnr:=HK.out.2.1 ad rfl
  have hkr:∀ {A:Option Addr} {m c':Nat} {cs:List Value} (u:Value),(∀ ad,A=some ad->ad.block≠r)->RowF w F A m c' cs->RowF (w.setCell ⟨r,0,none⟩ u) F A m c' cs:=by
   intro A m c' cs u hA h
   rcases h with h|h|⟨b,off,e,hnc,hlo,hlt,hc⟩
   ·exact .inl h
   ·exact .inr (.inl h)
   ·have hb:b≠r:=hA _ e
    exact .inr (.inr ⟨b,off,e,hnc,hlo,by simpa [World.setCell] using hlt,fun i v hv=>(World.cell?_of_block (Below.heap_setCell w ⟨r,0,none⟩ u b hb)).trans (hc i v hv)⟩)
  have HS:=zh (za hsg (za hset (za (hkr (A:=some ad) (m:=k) (c':=c) (cs:=(qaa l).take k)) (za (fun u=>hkr (A:=some (ad.add k)) u (fun a h=>by injection h with h;subst h;rw [qng];exact hnr) hd) (za ht hnr)))))
  clear hsg hset hkr hkp ht hd
  go_enter Tryz.func192,Tryz.ntmps192
  go_wp2
  ·go_ret
   obtain rfl:n=c:=by omega
   have hnk:n=k:=by omega
   subst hnk
   have hdl:l.drop n=[]:=List.drop_of_length_le (by rw [HN.out];exact zl _)
   refine ⟨ad,n,rfl,?_,(fun a h=>by injection h with h;subst h;exact HS.out.2.2.2.2.2),⟨ad,0,?_,?_,HK.out.2.2,(fun a h=>by injection h with h;subst h;exact HS.out.2.2.2.2.2)⟩,HS.out.1 _⟩
   ·have:=HS.out.2.2.1 (.slice (some ad) (n - n) 0) (fun a h=>by injection h with h;subst h;exact HS.out.2.2.2.2.2) HS.out.2.2.2.2.1
    simpa [qaa] using this
   ·rw [hdl]
    simpa using HS.out.2.1 (.slice (some ad) (n - n) 0)
   ·rw [hdl]
    exact RowF.end_ ad 0
  ·go_ret
   refine ⟨ad,c,rfl,?_,(fun a h=>by injection h with h;subst h;exact HS.out.2.2.2.2.2),⟨ad.add k,c - k,?_,?_,HK.out.2.2,(fun a h=>by injection h with h;subst h;rw [qng];exact HS.out.2.2.2.2.2)⟩,HS.out.1 _⟩
   ·have:=HS.out.2.2.1 (.slice (some (ad.add k)) (n - k) (c - k)) (fun a h=>by injection h with h;subst h;exact HS.out.2.2.2.2.2) HS.out.2.2.2.2.1
    simpa [qaa] using this
   ·rw [List.length_drop,HN.out]
    simpa using HS.out.2.1 (.slice (some (ad.add k)) (n - k) (c - k))
   ·rw [List.length_drop,HN.out]
    have:=HS.out.2.2.2.1 (.slice (some (ad.add k)) (n - k) (c - k))
    simpa [qaa] using this
theorem or_step (N j:Nat) (hj:j<8):bits .or .u64 ((N:Int) % 256 ^ j) (IntKind.u64.wrap ((N:Int) / 256 ^ j % 256 * 2 ^ (8 * j)))=((N % 256 ^ (j+1):Nat):Int):=by
 have e1:(2:Int) ^ (8 * j)=((256 ^ j:Nat):Int):=by rw [Int.pow_mul,show (2:Int) ^ 8=256 from rfl,Int.natCast_pow];rfl
 have e2:(256:Int) ^ j=((256 ^ j:Nat):Int):=by rw [Int.natCast_pow];rfl
 have hp:256 ^ j * 256<=18446744073709551616:=by
  have:256 ^ (j+1)<=256 ^ 8:=Nat.pow_le_pow_right (by decide) (by omega)
  rw [Nat.pow_succ] at this
  exact this
 have hp0:0<256 ^ j:=Nat.pow_pos (by decide)
 rw [e1,e2,Nat.mod_pow_succ]
 have e3:(256:Nat) ^ j=2 ^ (8 * j):=by rw [Nat.pow_mul]
 generalize hM:256 ^ j=M at *
 have hm:N / M % 256<256:=Nat.mod_lt _ (by decide)
 have hb:N / M % 256 * M<18446744073709551616:=by
  have:N / M % 256 * M<=255 * M:=Nat.mul_le_mul_right _ (by omega)
  omega
 have ha:N % M<M:=Nat.mod_lt _ hp0
 have c1:(N:Int) / (M:Int) % 256 * (M:Int)=((N / M % 256 * M:Nat):Int):=by
  rw [Int.natCast_mul,Int.natCast_emod,Int.natCast_ediv];rfl
 have c2:(N:Int) % (M:Int)=((N % M:Nat):Int):=by rw [Int.natCast_emod]
 rw [c1,c2]
 have c3:IntKind.u64.wrap ((N / M % 256 * M:Nat):Int)=((N / M % 256 * M:Nat):Int):=by rw [IntKind.wrap_u64];omega
 rw [c3,bits_or_u64_nat _ _ (by omega) hb]
 congr 1
 rw [Nat.or_comm,Nat.mul_comm (N / M % 256) M]
 rw [e3] at ha ⊢
 rw [<-Nat.two_pow_add_eq_or_of_lt ha]
 omega
theorem qmv {r:Nat} {rest:List UInt8} (k N:Nat) (h:Rd F w r (le k N++rest)) (hk:k<=8) (hN:N<256 ^ k) (hN2:N<9223372036854775808) (hl:rest.length<=400000):
  Calls Tryz.prog 158 #[.pointer (some ⟨r,0,none⟩),.int .i64 k] w fun e w'=>e=.returned (.int .i64 N)/\Rd F w' r rest/\w.grownBy w' (some r):=by
 have HT:=zh (taker_ h k (by rw [List.length_append,qax];omega) (by rw [List.length_append,qax];omega))
 have e1:(le k N++rest).take k=le k N:=by rw [List.take_append_of_le_length (by rw [qax];exact zl _),List.take_of_length_le (by rw [qax];exact zl _)]
 have e2:(le k N++rest).drop k=rest:=by rw [List.drop_append,qax,Nat.sub_self,List.drop_zero,List.drop_of_length_le (by rw [qax];exact zl _),List.nil_append]
 rw [e1,e2] at HT
 clear h e1 e2
 go_enter Tryz.func158,Tryz.ntmps158
 go_wp2_with fail
 refine HT.out.mono ?_
 rintro e w1 ⟨A,c,rfl,hrow,_,hR,hg⟩
 have HH:=zh (za hR hg)
 have HR:=zh hrow.row
 clear HT hR hg hrow
 go_wp2_with fail
 go_loopw [5,12] (fun u i wr=>∃ j:Nat,j<=k/\i=.int .i64 j/\u=.int .u64 ((N % 256 ^ j:Nat):Int)/\wr=w1) (fun _ i _=>k - (intOf i).toNat)
 case atStart=>exact ⟨0,Nat.zero_le _,rfl,by simp [Nat.mod_one],rfl⟩
 case round =>
  obtain ⟨j,hj,rfl,rfl,rfl⟩:=hrel
  rcases Nat.lt_or_ge j k with hlt|hge
  ·have hd:decide ((j:Int)<(k:Int))=true:=by simp;omega
   have hjk:(j:Int)<(k:Int):=by omega
   obtain ⟨b,off,rfl,_,_,hb⟩:=HR.out.some_ (by omega)
   have q:wr.cell? ⟨b,off+j,none⟩=some (.int .u8 ((UInt8.ofNat (N / 256 ^ j)).toNat:Int)):=HR.out.at_ (by
    simp only [qaa,le,List.map_map,List.getElem?_map,List.getElem?_range hlt]
    rfl)
   go_wp2_with fail
   have HO:=zh (or_step N j (by omega))
   go_roundw
   case rel=>exact ⟨j+1,by omega,by go_num,by rw [HO.out],trivial⟩
   case measure=>simp [intOf];omega
  ·have hd:decide ((j:Int)<(k:Int))=false:=by simp;omega
   obtain rfl:j=k:=by omega
   have HM:=zh (Nat.mod_eq_of_lt hN)
   rw [HM.out]
   go_wp2
   go_ret
   refine ⟨?_,HH.out⟩
   first|rfl|(congr 1;omega)
theorem qim {r:Nat} {rest:List UInt8} (N:Nat) (h:Rd F w r (le 8 N++rest)) (hN:N<9223372036854775808) (hl:rest.length<=400000):
  Calls Tryz.prog 120 #[.pointer (some ⟨r,0,none⟩)] w fun e w'=>e=.returned (.int .i64 N)/\Rd F w' r rest/\w.grownBy w' (some r):=by
 have H:=zh (qmv 8 N h (zl _) (Nat.lt_of_lt_of_le hN (by decide)) hN hl)
 clear h
 go_enter Tryz.func120,Tryz.ntmps120
 go_wp2_with fail
 refine H.out.mono ?_
 rintro e w1 ⟨rfl,hR,hg⟩
 have HH:=zh (za hR hg)
 clear hR hg
 go_wp2
 go_ret
 exact ⟨rfl,HH.out⟩
theorem qcy {r:Nat} {rest:List UInt8} (b:UInt8) (h:Rd F w r (b::rest)) (hl:rest.length<=400000):
  Calls Tryz.prog 88 #[.pointer (some ⟨r,0,none⟩)] w fun e w'=>e=.returned (.int .i64 b.toNat)/\Rd F w' r rest/\w.grownBy w' (some r):=by
 have e1:le 1 b.toNat=[b]:=by simp [le]
 have hb:=b.toNat_lt
 have H:=zh (qmv 1 b.toNat (rest:=rest) (by rw [e1];exact h) (by decide) (by omega) (by omega) hl)
 clear h
 go_enter Tryz.func88,Tryz.ntmps88
 go_wp2_with fail
 refine H.out.mono ?_
 rintro e w1 ⟨rfl,hR,hg⟩
 have HH:=zh (za hR hg)
 clear hR hg
 go_wp2
 go_ret
 exact ⟨rfl,HH.out⟩
theorem qge {r:Nat} {s rest:List UInt8} (h:Rd F w r (le 2 s.length++(s++rest))) (hs:s.length<=65535) (hl:rest.length<=200000):
  Calls Tryz.prog 123 #[.pointer (some ⟨r,0,none⟩)] w fun e w'=>e=.returned (.string ⟨s.toArray⟩)/\Rd F w' r rest/\w.grownBy w' (some r):=by
 have H:=zh (qmv 2 s.length h (by decide) (by omega) (by omega) (by rw [List.length_append];omega))
 clear h
 go_enter Tryz.func123,Tryz.ntmps123
 go_wp2_with fail
 refine H.out.mono ?_
 rintro e w1 ⟨rfl,hR,hg⟩
 have HT:=zh (taker_ hR s.length (by rw [List.length_append];omega) (by rw [List.length_append];omega))
 rw [List.take_left',List.drop_left'] at HT <;> try rfl
 have HG:=zh hg
 clear hR hg H
 go_wp2_with fail
 refine HT.out.mono ?_
 rintro e w2 ⟨A,c,rfl,hrow,_,hR,hg⟩
 have HH:=zh (za hR (qah HG.out hg))
 have hcv:=qgl (A:=A) (c:=c) (n:=s.length) (l:=s) (w:=w2) ⟨hrow.row,rfl⟩
 clear hR hg hrow HT HG
 go_wp2
 go_ret
 exact ⟨rfl,HH.out⟩
theorem rend_ {r:Nat} (h:Rd F w r []):
  Calls Tryz.prog 93 #[.pointer (some ⟨r,0,none⟩)] w fun e w'=>e=.returned (.int .i64 0)/\w=w':=by
 obtain ⟨A,c,BR,_⟩:=h
 have q:=five BR (zb _ _)
 go_enter Tryz.func93,Tryz.ntmps93
 go_wp2
 go_ret
 exact ⟨rfl,rfl⟩
theorem fail0_ (r:Nat):
  Calls Tryz.prog 124 #[.pointer (some ⟨r,0,none⟩),.int .i64 0] w fun e w'=>e=.returned (.tuple #[])/\Below w.heap.size w w':=by
 go_enter Tryz.func124,Tryz.ntmps124
 go_wp2
 first|go_end0|refine bodyPost_ret (results_none rfl _ _ _) rfl ?_
 exact ⟨rfl,((zb _ _).alloc (zl _) _).alloc (by simp) _⟩
theorem six {t:TypeId} {x0 x1 x2 x3 x4 x5:Value} (h:Blk w g t #[x0,x1,x2,x3,x4,x5]) (hb:Below w.heap.size w w'):
  w'.cell? ⟨g,0,none⟩=some x0/\w'.cell? ⟨g,1,none⟩=some x1/\w'.cell? ⟨g,2,none⟩=some x2/\w'.cell? ⟨g,3,none⟩=some x3/\w'.cell? ⟨g,4,none⟩=some x4/\w'.cell? ⟨g,5,none⟩=some x5 :=
 ⟨(h.ext hb).cell 0,(h.ext hb).cell 1,(h.ext hb).cell 2,(h.ext hb).cell 3,(h.ext hb).cell 4,(h.ext hb).cell 5⟩
theorem qdn {t:TypeId} {v u:Value} {xs:List Value} (h:w.ownsRow B t k v n xs) (hg:g<B):(w.setCell ⟨g,i,none⟩ u).ownsRow B t k v n xs:=by
 refine h.kept (qac w g i u) ?_
 cases ho:v.ownBlock with
 | none=>exact .inl rfl
 | some b =>
  have:=(h.lt b ho).1
  exact .inr (by simp;omega)
def pgs (l:List UInt8) (k:Nat):List UInt8:=(l.drop 64).take (k * 64)
theorem pgs_len (hl:l.length=np * 64) (hk:k+1<=np):(pgs l k).length=k * 64:=by
 have:(k+1) * 64<=np * 64:=Nat.mul_le_mul_right _ hk
 unfold pgs
 rw [List.length_take,List.length_drop]
 omega
theorem pgs_succ (l:List UInt8) (k:Nat):pgs l (k+1)=pgs l k++(l.drop ((k+1) * 64)).take 64:=by
 unfold pgs
 rw [Nat.succ_mul,List.take_add,List.drop_drop]
 congr 3
 omega
theorem lread_ {d q:Nat} {ws:Value} (h:Dk w d gs gn np l ws) (hq:Blk w q 267 #[.pointer (some ⟨d,0,none⟩),.int .u32 0,.int .i32 1,.int .u32 0,.slice none 0 0,.int .i64 0]) (hd:q≠d/\q≠gs/\q≠gn):
  Calls Tryz.prog 189 #[.pointer (some ⟨q,0,none⟩)] w fun e w'=>∃ A c,e=.returned (.tuple #[])/\Blk w' q 267 #[.pointer (some ⟨d,0,none⟩),.int .u32 0,.int .i32 1,.int .u32 0,.slice A ((np - 1) * 64) c,.int .i64 0] /\
   w'.ownsRow w.heap.size 5 1 (.slice A ((np - 1) * 64) c) ((np - 1) * 64) (qaa (pgs l (np - 1)))/\Frm (fun b=>b=q) w w':=by
 obtain ⟨i0,hi,hy0,hy1,hy2⟩:=ip Tryz.prog 5 (.int .u8 0) 1 1
 have hnp:=h.np
 have hlen:=h.len
 have hql:=hq.lt
 have H:=zh h
 clear h
 go_enter Tryz.func189,Tryz.ntmps189
 go_wp2_with fail
 go_loopw [2] (fun i wr=>∃ (k:Nat) (A:Option Addr) (c:Nat),i=.int .i64 (k+1:Nat)/\k+1<=np/\Blk wr q 267 #[.pointer (some ⟨d,0,none⟩),.int .u32 0,.int .i32 1,.int .u32 0,.slice A (k * 64) c,.int .i64 0] /\
   wr.ownsRow w.heap.size 5 1 (.slice A (k * 64) c) (k * 64) (qaa (pgs l k))/\Frm (fun b=>b=q\/w.heap.size<=b) w wr) (fun i _=>np - (intOf i).toNat)
 case atStart=>exact ⟨0,none,0,rfl,by omega,hq,World.ownsRow_nil _ _ _ _,Frm.refl _ _⟩
 case round =>
  clear hq
  obtain ⟨k,A,c,rfl,hk,BQ,hown,hf⟩:=hrel
  have hD:=H.out.keep (hf.keep (F:=fun b=>b≠q) (fun b hb hl h=>by rcases h with h|h <;> omega)) (Ne.symm hd.1) (Ne.symm hd.2.1) (Ne.symm hd.2.2)
  have q6:=six BQ (zb _ _)
  have HP:=zh (pages_ hD)
  have HF:=zh (za hown hf)
  clear hown hf
  rcases Nat.lt_or_ge (k+1) np with hlt|hge
  case inr =>
   have hdd:decide (((k+1:Nat):Int)<(np:Int))=false:=by simp;omega
   obtain rfl:np=k+1:=by omega
   go_wp2_with (refine HP.out.mono ?_;rintro e w' ⟨rfl,rfl⟩)
   first|go_end0|refine bodyPost_ret (results_none rfl _ _ _) rfl ?_
   exact ⟨A,c,rfl,BQ,HF.out.1,HF.out.2.mono' (fun b hb h=>by rcases h with h|h <;> omega)⟩
  have hdd:decide (((k+1:Nat):Int)<(np:Int))=true:=by simp;omega
  have hkn:((k+1:Nat):Int)<np:=by omega
  have HR:=zh (read_ hD (k+1) hlt)
  have hD:=zh hD
  go_wp2_with (refine HP.out.mono ?_;rintro e w' ⟨rfl,rfl⟩)
  refine HR.out.mono ?_
  rintro e w2 ⟨A2,c2,rfl,hown2,hb2⟩
  have BQ2:=BQ.ext hb2
  clear q6 BQ
  have q6:=six BQ2 (zb _ _)
  have f4:=BQ2.frozen 4
  have hO:=qay HF.out.1 hb2
  have hf2:=HF.out.2.trans (Frm.below hb2)
  obtain ⟨ad2,rfl⟩:∃ a,A2=some a:=by
   rcases hown2.2 with ⟨e1,_⟩|⟨g,cap,cur,e1,_⟩
   ·injection e1 with e1 e2 e3;omega
   ·injection e1 with e1;exact ⟨_,e1⟩
  have HR2:=zh (Row.of_own hown2)
  have HO:=zh hO
  have HF2:=zh hf2
  have hw2:=hf2.size
  have hpl:((l.drop ((k+1) * 64)).take 64).length=64:=by
   have:(k+1+1) * 64<=np * 64:=Nat.mul_le_mul_right _ hlt
   rw [List.length_take,List.length_drop];omega
  have HPL:=zh hpl
  clear hb2 hown2 hO hf2 hpl HR HP HF
  go_wp2_with (at_builtin;(refine wpList_append_own _ rfl (.tmp 36) (.tmp 37) 151 rfl w.heap.size 5 i0 _ 1 1 Tryz.underlying151 hi hy0 hy1 hy2 rfl (by decide) _ (k * 64) _ rfl HO.out ad2 64 c2 (qaa ((l.drop ((k+1) * 64)).take 64)) rfl ?a1 ?a2 ?a3 ?a4 ?a5 ?a6 ?_))
  all_goals try (case a1=>rw [lenB,HPL.out])
  all_goals try (case a2=>exact HR2.out.src')
  all_goals try (case a3=>exact oneB _)
  all_goals try (case a4=>unfold maxLen;omega)
  all_goals try (case a5=>omega)
  all_goals try (case a6=>exact hw2)
  intro v3 w3 hown3 hg3 _
  obtain ⟨A3,c3,rfl⟩:=qan hown3
  have hlt3:=HO.out.lt
  have hkq:Keep (fun b=>b<w.heap.size) w2 w3:=Keep.grown hg3 (fun g hg h=>by have:=(hlt3 g hg).1;omega)
  have BQ3:=Blk.keep BQ2 hkq hql
  have HF3:=HF2.out.trans (Frm.grown (G:=fun b=>b=q\/w.heap.size<=b) hg3 (fun g hg=>.inr (hlt3 g hg).1))
  clear hkq hlt3 hg3 BQ2 q6 f4
  have q6:=six BQ3 (zb _ _)
  have f4:=BQ3.frozen 4
  go_wp2
  clear q6 f4
  obtain ⟨w4,hw4,BQ4,hg4⟩:=Blk.set1 (i:=4) BQ3 (.slice A3 (k * 64+64) c3)
  have hO4:=qdn (i:=4) (u:=.slice A3 (k * 64+64) c3) hown3 hql
  rw [<-hw4] at hO4
  have hF4:=HF3.trans (Frm.grown (G:=fun b=>b=q\/w.heap.size<=b) hg4 (fun g hg=>by injection hg with hg;exact .inl hg.symm))
  have hs:=pgs_succ l k
  have HX:=zh (show Blk w4 q 267 #[.pointer (some ⟨d,0,none⟩),.int .u32 0,.int .i32 1,.int .u32 0,.slice A3 ((k+1) * 64) c3,.int .i64 0]/\w4.ownsRow w.heap.size 5 1 (.slice A3 ((k+1) * 64) c3) ((k+1) * 64) (qaa (pgs l (k+1)))/\Frm (fun b=>b=q\/w.heap.size<=b) w w4 from
   ⟨by rw [Nat.succ_mul];simpa using BQ4,by (have hO5:=hO4;rw [<-qbu,<-hs] at hO5;rw [Nat.succ_mul];exact hO5),hF4⟩)
  rw [<-hw4]
  clear hw4 BQ4 hg4 hO4 hF4 hs HF3 hown3
  go_roundw
  case rel=>exact ⟨k+1,A3,c3,by go_num,by omega,HX.out⟩
  case measure=>simp [intOf];omega
theorem lbytes_ {d q:Nat} {ws:Value} (h:Dk w d gs gn np l ws) (hq:Blk w q 267 #[.pointer (some ⟨d,0,none⟩),.int .u32 0,.int .i32 0,.int .u32 0,.slice none 0 0,.int .i64 0]) (hd:q≠d/\q≠gs/\q≠gn):
  Calls Tryz.prog 119 #[.pointer (some ⟨q,0,none⟩)] w fun e w'=>∃ A c,e=.returned (.tuple #[.slice A ((np - 1) * 64) c,.int .i64 0])/\By w' A ((np - 1) * 64) c (pgs l (np - 1))/\Frm (fun b=>b=q) w w':=by
 have B1:Blk (w.setCell ⟨q,1+1,none⟩ (.int .i32 1)) q 267 #[.pointer (some ⟨d,0,none⟩),.int .u32 0,.int .i32 1,.int .u32 0,.slice none 0 0,.int .i64 0]:=by simpa using hq.set_ 2 (.int .i32 1)
 have g1:=qac w q 2 (.int .i32 1)
 have hD1:=h.keep (F:=fun b=>b≠q) (Keep.grown g1 (fun g hg=>by injection hg with hg;simp [hg])) (Ne.symm hd.1) (Ne.symm hd.2.1) (Ne.symm hd.2.2)
 have HO:=zh (onceG (q:=q) (o:=1) (f:=189) (a1:=#[.pointer (some ⟨q,0,none⟩)]) (a2:=#[])
  (R:=fun w'=>∃ A c,Blk w' q 267 #[.pointer (some ⟨d,0,none⟩),.int .u32 0,.int .i32 1,.int .u32 0,.slice A ((np - 1) * 64) c,.int .i64 0]/\w'.ownsRow w.heap.size 5 1 (.slice A ((np - 1) * 64) c) ((np - 1) * 64) (qaa (pgs l (np - 1)))/\Frm (fun b=>b=q) w w')
  (hq.cell 1) (hq.cell 2) (hq.frozen 2) (enters_of Tryz.func189 (by kernel_rfl) rfl)
  (fun w' ⟨A,c,b,_⟩=>⟨b.cell 1,b.cell 2,b.frozen 1,b.frozen 2⟩)
  ((lread_ hD1 B1 hd).mono (fun e w' ⟨A,c,he,hb,ho,hf⟩=>⟨he,A,c,hb,qat ho g1.size,(Frm.grown (G:=fun b=>b=q) g1 (fun g hg=>by injection hg with hg;exact hg.symm)).trans hf⟩)))
 have hql:=hq.lt
 clear B1 g1 hD1 h hq
 go_enter Tryz.func119,Tryz.ntmps119
 go_wp2_with fail
 refine HO.out.mono ?_
 rintro e w1 ⟨w2,rfl,⟨A,c,hb,ho,hf⟩,rfl⟩
 have B2:Blk ((w2.drew.setCell ⟨q,1,none⟩ (.int .u32 1)).setCell ⟨q,1+1,none⟩ (.int .i32 0)) q 267 #[.pointer (some ⟨d,0,none⟩),.int .u32 1,.int .i32 0,.int .u32 0,.slice A ((np - 1) * 64) c,.int .i64 0]:=by
  have:=((Blk.drew hb).set_ 1 (.int .u32 1)).set_ 2 (.int .i32 0)
  simpa using this
 have hO2:=qdn (i:=1+1) (u:=.int .i32 0) (qdn (i:=1) (u:=.int .u32 1) ho.drew hql) hql
 have hf2:=((hf.trans (Frm.drew _ _)).trans (Frm.grown (G:=fun b=>b=q) (qac _ q 1 (.int .u32 1)) (fun g hg=>by injection hg with hg;exact hg.symm))).trans (Frm.grown (G:=fun b=>b=q) (qac _ q (1+1) (.int .i32 0)) (fun g hg=>by injection hg with hg;exact hg.symm))
 generalize (w2.drew.setCell ⟨q,1,none⟩ (.int .u32 1)).setCell ⟨q,1+1,none⟩ (.int .i32 0)=w3 at *
 have HR:=zh (za (By.of_own hO2) hf2)
 clear hO2 hf2 hb ho hf HO
 have D:=fun w' (h:Below w3.heap.size w3.drew w')=>six B2 (zt (zb _ _).drew h)
 go_wp2_with fail
 refine r1 [(0,true),(1,true),(2,true),(3,true),(4,true),(5,true),(6,true),(7,true),(8,true),(9,true)] ?_
 repeat ((first|refine pT ?_|refine pF ?_);try go_frame)
 refine qad ?_
 clear D
 go_wp2
 go_ret2
 exact ⟨A,c,rfl,HR.out.1.ext ((zb _ _).drew),HR.out.2.trans (Frm.drew _ _)⟩
theorem qnh {B' k' n':Nat} {t t':TypeId} {v v':Value} {xs xs':List Value} (h:w.ownsRow B t k v n xs) (ho:w.ownsRow B' t' k' v' n' xs') (ht:t≠t') (hg:w.grownBy w' v'.ownBlock):w'.ownsRow B t k v n xs:=by
 refine h.kept hg ?_
 rcases h.2 with ⟨e,_⟩|⟨g,cap,cur,e,_,hb,_⟩
 ·left;rw [e];rfl
 ·right
  rcases ho.2 with ⟨e',_⟩|⟨g',cap',cur',e',_,hb',_⟩
  ·rw [e,e'];simp [Value.ownBlock]
  ·rw [e,e']
   intro hx
   have hx:g=g':=by simpa [Value.ownBlock] using hx
   subst hx
   rw [hb] at hb'
   injection hb' with hb'
   injection hb' with _ h2
   exact ht h2
def rec1 (r:List UInt8):List UInt8:=le 8 r.length++r
def recs (rs:List (List UInt8)):List UInt8:=rs.flatMap rec1
theorem qjs (r:List UInt8) (rs:List (List UInt8)):recs (r::rs)=le 8 r.length++(r++recs rs):=by simp [recs,rec1]
def Recs (w:World) (F:qab) (A:Option Addr) (n c:Nat) (rs:List (List UInt8)):Prop :=
 ∃ hs,RowF w F A n c hs/\hs.length=rs.length/\rs.length=n/\∀ (i:Nat) h r,hs[i]? = some h->rs[i]? = some r->∃ A' c',h=.slice A' r.length c'/\RowF w F A' r.length c' (qaa r)
theorem Recs.keep (h:Recs w F A n c rs) (k:Keep F w w'):Recs w' F A n c rs:=by
 obtain ⟨hs,h1,h2,h3,h4⟩:=h
 exact ⟨hs,h1.keep k,h2,h3,fun i x r e1 e2=>by obtain ⟨A',c',e,hB⟩:=h4 i x r e1 e2;exact ⟨A',c',e,hB.keep k⟩⟩
theorem Recs.ext (h:Recs w F A n c rs) (hb:Below w.heap.size w w'):Recs w' F A n c rs:=h.keep (Keep.below hb)
theorem Recs.mono (h:Recs w F A n c rs) (k:∀ b,F b->G b):Recs w G A n c rs:=by
 obtain ⟨hs,h1,h2,h3,h4⟩:=h
 exact ⟨hs,h1.mono k,h2,h3,fun i x r e1 e2=>by obtain ⟨A',c',e,hB⟩:=h4 i x r e1 e2;exact ⟨A',c',e,hB.mono k⟩⟩
theorem Recs.at_ (h:Recs w F (some ⟨b,off,none⟩) n c rs) (hr:rs[i]? = some r):∃ A' c',w.cell? ⟨b,off+i,none⟩=some (.slice A' r.length c')/\By w A' r.length c' r:=by
 obtain ⟨hs,h1,h2,h3,h4⟩:=h
 have hi:i<hs.length:=by rw [h2];exact (List.getElem?_eq_some_iff.1 hr).1
 obtain ⟨A',c',e,hB⟩:=h4 i _ r (List.getElem?_eq_getElem hi) hr
 refine ⟨A',c',?_,hB.row,rfl⟩
 rw [<-e]
 exact h1.row.at_ (List.getElem?_eq_getElem hi)
def OwnRs (w:World) (B:Nat) (hs:List Value) (rs:List (List UInt8)):Prop:=hs.length=rs.length/\∀ (i:Nat) h r,hs[i]? = some h->rs[i]? = some r->∃ A' c',h=.slice A' r.length c'/\w.ownsRow B 5 1 (.slice A' r.length c') r.length (qaa r)
theorem OwnRs.ext {hs:List Value} (h:OwnRs w B hs rs) (hb:Below w.heap.size w w'):OwnRs w' B hs rs :=
 ⟨h.1,fun i x r e1 e2=>by obtain ⟨A',c',e,ho⟩:=h.2 i x r e1 e2;exact ⟨A',c',e,qay ho hb⟩⟩
theorem OwnRs.grown {B' k' n':Nat} {t':TypeId} {v':Value} {xs' hs:List Value} (h:OwnRs w B hs rs) (ho:w.ownsRow B' t' k' v' n' xs') (ht:5≠t') (hg:w.grownBy w' v'.ownBlock):OwnRs w' B hs rs :=
 ⟨h.1,fun i x r e1 e2=>by obtain ⟨A',c',e,h1⟩:=h.2 i x r e1 e2;exact ⟨A',c',e,qnh h1 ho ht hg⟩⟩
theorem OwnRs.snoc {hs:List Value} (h:OwnRs w B hs rs) (ho:w.ownsRow B 5 1 (.slice A r.length c) r.length (qaa r)):OwnRs w B (hs++[.slice A r.length c]) (rs++[r]):=by
 refine ⟨by simp [h.1],fun i x r' e1 e2=>?_⟩
 rcases Nat.lt_or_ge i hs.length with hi|hi
 ·rw [List.getElem?_append_left hi] at e1
  rw [List.getElem?_append_left (by rw [<-h.1];exact hi)] at e2
  exact h.2 i x r' e1 e2
 ·rw [List.getElem?_append_right hi] at e1
  rw [List.getElem?_append_right (by rw [<-h.1];exact hi),<-h.1] at e2
  match hq:i - hs.length with
  | 0 =>
   rw [hq] at e1 e2
   simp at e1 e2
   subst e1 e2
   exact ⟨A,c,rfl,ho⟩
  | k+1=>rw [hq] at e1;simp at e1
theorem OwnRs.one {hs:List Value} (h:OwnRs w B hs rs):∀ u∈hs,u.oneCell'=true:=fun u hu=>by
 obtain ⟨i,hi⟩:=List.getElem?_of_mem hu
 have hl:i<rs.length:=by rw [<-h.1];exact (List.getElem?_eq_some_iff.1 hi).1
 obtain ⟨A,c,e,_⟩:=h.2 i u _ hi (List.getElem?_eq_getElem hl)
 rw [e];rfl
theorem By.mid {x y z:List UInt8} (h:By w (some ⟨b,off,none⟩) n c (x++(y++z))) (c':Nat) (hc:y.length<=c'):By w (some ⟨b,off+x.length,none⟩) y.length c' y:=by
 have hn:y.length<=n:=by rw [<-h.2];simp;omega
 have h1:=(h.1.drop y.length c' x.length hc hn).take y.length c' y.length hc (zl _)
 refine ⟨?_,rfl⟩
 simpa [qaa] using h1
theorem By.front {x y:List UInt8} (h:By w (some ⟨b,off,none⟩) n c (x++y)) (c':Nat) (hc:x.length<=c'):By w (some ⟨b,off,none⟩) x.length c' x:=by
 have hn:x.length<=n:=by rw [<-h.2];simp
 have h1:=h.1.take x.length c' x.length hc hn
 refine ⟨?_,rfl⟩
 simpa [qaa] using h1
theorem By.rest {x y:List UInt8} (h:By w (some ⟨b,off,none⟩) n c (x++y)) (c':Nat) (hc:y.length<=c'):By w (some ⟨b,off+x.length,none⟩) y.length c' y:=by
 have hn:y.length<=n:=by rw [<-h.2];simp
 have h1:=h.1.drop y.length c' x.length hc hn
 refine ⟨?_,rfl⟩
 simpa [qaa] using h1
theorem By.none_ (w:World) (b off c:Nat):By w (some ⟨b,off,none⟩) 0 c []:=⟨.inr (.inl ⟨_,rfl,rfl,Nat.zero_le _,rfl⟩),rfl⟩
theorem cut_ (rs:List (List UInt8)) (A:Option Addr) (n c most:Nat) (w:World) (hB:By w A n c (recs rs)) (hn:n<=400000) (hne:∀ r∈rs,1<=r.length) (hm:rs.length<=most) (hm2:most<=400000):
  Calls Tryz.prog 121 #[.slice A n c,.int .i64 most] w fun e w'=>∃ A' c',e=.returned (.tuple #[.slice A' rs.length c',.bool true])/\Recs w' (fun b=>w.heap.size<=b) A' rs.length c' rs/\Below w.heap.size w w':=by
 obtain ⟨i0,hi,hy0,hy1,hy2⟩:=ip Tryz.prog 151 (.slice none 0 0) 1 24
 have HNE:=zh hne
 clear hne
 have HB0:=zh hB
 clear hB
 go_enter Tryz.func121,Tryz.ntmps121
 go_wp2_with fail
 go_loopw [0,6] (fun bv ov wr=>∃ (done todo:List (List UInt8)) (A:Option Addr) (n c:Nat) (Ao:Option Addr) (co:Nat) (hs:List Value),Hid (rs=done++todo)/\bv=.slice A n c/\ov=.slice Ao done.length co/\n<=400000/\done.length<=most/\Hid (By w A n c (recs todo))/\Hid (wr.ownsRow w.heap.size 151 1 (.slice Ao done.length co) done.length hs/\OwnRs wr w.heap.size hs done)/\Below w.heap.size w wr) (fun bv _ _=>match bv with | .slice _ n _=>n|_=>0)
 case atStart=>exact ⟨[],rs,A,n,c,none,0,[],zh rfl,rfl,rfl,hn,Nat.zero_le _,HB0,zh ⟨World.ownsRow_nil _ _ _ _,rfl,fun i h r e1 _=>(by cases e1)⟩,zb _ _⟩
 case round =>
  clear HB0 hn
  obtain ⟨done,todo,A,n,c,Ao,co,hs,HRS,rfl,rfl,hn,hdm,HB,HO,hbw⟩:=hrel
  cases todo with
  | nil =>
   obtain rfl:n=0:=by have:=HB.out.2;simpa [recs] using this.symm
   have hdone:rs=done:=by have:=HRS.out;simpa using this
   subst hdone
   have hrow:=(Row.of_own HO.out.1)
   have HC:=zh (cloneR hs Ao rs.length co wr (by omega) (hrow.base (Nat.zero_le _)) (by have:=HO.out.1.1;simpa using this) HO.out.2.one)
   clear hrow
   go_wp2_with fail
   refine HC.out.mono ?_
   rintro e w2 ⟨A2,c2,rfl,hown,hb2⟩
   have hR:Recs w2 (fun b=>w.heap.size<=b) A2 rs.length c2 rs:=⟨hs,RowF.of_row (Row.of_own hown) (fun b h _=>Nat.le_trans hbw.size h),HO.out.2.1,rfl,fun i h r e1 e2=>by
    obtain ⟨A',c',e,ho⟩:=HO.out.2.2 i h r e1 e2
    exact ⟨A',c',e,RowF.of_row (Row.of_own (qay ho hb2)) (fun b h _=>h)⟩⟩
   have HR:=zh (za hR (zt hbw (zm hb2 hbw.size)))
   clear hown hR hb2
   go_wp2
   go_ret2
   exact ⟨A2,c2,rfl,HR.out⟩
  | cons r todo =>
   have hr1:1<=r.length:=HNE.out r (by rw [HRS.out];simp)
   have hlen:n=8+(r.length+(recs todo).length):=by
    have:=HB.out.2
    rw [qjs] at this
    simp only [List.length_append,qax] at this
    omega
   have hdl:done.length<most:=by
    have:=HRS.out
    rw [this] at hm
    simp at hm
    omega
   have hc:=HB.out.1.le_
   obtain ⟨b0,off,rfl,_,_,hbl⟩:=HB.out.1.some_ (by omega)
   have hBy:=HB.out
   rw [qjs] at hBy
   have h8:=(By.front hBy c (by rw [qax];omega)).ext hbw
   rw [qax] at h8
   have hmid:=By.mid hBy (c - 8) (by omega)
   have hrst:=By.rest (x:=le 8 r.length++r) (y:=recs todo) (by rw [List.append_assoc];exact hBy)
   rw [qax] at hmid
   have HN:=zh (qil (le 8 r.length) _ 8 c wr h8 (by omega))
   have HM:=zh (za hmid hrst)
   clear h8 hmid hrst hBy
   have d1:decide ((8:Int)<=(n:Int))=true:=by simp;omega
   have d2:decide ((done.length:Int)<(most:Int))=true:=by simp;omega
   have h81:(8:Int)<=c:=by omega
   have d3:decide ((r.length:Int)<0)=false:=by simp
   have d4:decide ((n:Int) - 8<(r.length:Int))=false:=by simp;omega
   have h82:((8:Int)+(r.length:Int))<=c:=by omega
   have h83:((8:Int)+(r.length:Int))<=n:=by omega
   have h84:¬c=8:=by omega
   obtain ⟨rl,hrl⟩:∃ m,r.length=m:=⟨_,rfl⟩
   have HRL:=zh hrl
   have HLEN:=zh hlen
   have hcn:8+rl<=n:=by omega
   rw [hrl] at hr1 d3 d4 h82 h83 HN
   clear hlen hrl hm
   go_wp2_with fail
   refine HN.out.mono ?_
   rintro e w2 ⟨r0,rfl,hRd,hlo,hb2⟩
   have HI:=zh (qim (rest:=[]) rl (by rw [List.append_nil];exact hRd) (by omega) (by simp))
   clear hRd HN
   go_wp2_with fail
   refine HI.out.mono ?_
   rintro e w3 ⟨rfl,_,hg3⟩
   have hb3:Below wr.heap.size wr w3:=(hb2.gw hg3)
   have hbw3:=zt hbw (zm hb3 hbw.size)
   have HCl:=zh (qjk (qaa r) (some ⟨b0,off+8,none⟩) rl (c - 8) w3 (by omega) (by have:=(HM.out.1.ext hbw3).1;rw [HRL.out] at this;exact this) (by rw [lenB,HRL.out,Nat.mul_one]) (oneB _))
   have HO3:=zh (za (qay HO.out.1 hb3) (HO.out.2.ext hb3))
   have hz3:=hbw3.size
   clear hg3 hb2 HI hlo hb3 HO hbw
   go_wp2_with fail
   refine HCl.out.mono ?_
   rintro e w4 ⟨A4,c4,rfl,hown4,hb4⟩
   have hbw4:=zt hbw3 (zm hb4 hz3)
   have HO4:=zh (za (qay HO3.out.1 hb4) (za (HO3.out.2.ext hb4) (qat hown4 hz3)))
   clear hown4 hb4 HCl HO3
   have hz4:=hbw4.size
   go_wp2_with (at_builtin;(refine wpList_append_own _ rfl (.tmp 30) (.tmp 36) 139 rfl w.heap.size 151 i0 _ 1 24 Tryz.underlying139 hi hy0 hy1 hy2 rfl (by decide) _ done.length hs rfl (HO4.out.1.alloc _) ⟨w4.heap.size,0,none⟩ 1 1 [.slice A4 rl c4] rfl ?a1 ?a2 ?a3 ?a4 ?a5 ?a6 ?_))
   all_goals try (case a1=>rfl)
   all_goals try (case a2=>exact (Row.of_blk (Blk.new w4 _ _) (Nat.zero_le _) 1 1 (zl _)).src)
   all_goals try (case a3=>intro u hu;rw [List.mem_singleton] at hu;rw [hu];rfl)
   all_goals try (case a4=>unfold maxLen;omega)
   all_goals try (case a5=>omega)
   all_goals try (case a6=>simp;omega)
   intro v5 w5 hown5 hg5 _
   obtain ⟨A5,c5,rfl⟩:=qan hown5
   have hal:=(zb w4.heap.size w4).alloc (zl _) (.cells #[.slice A4 rl c4] 151)
   have hl5:=HO4.out.1.lt
   have hoa:(w4.alloc (.cells #[.slice A4 rl c4] 151)).ownsRow w.heap.size 151 1 (.slice Ao done.length co) done.length hs:=HO4.out.1.alloc _
   have hrs5:OwnRs w5 w.heap.size (hs++[.slice A4 rl c4]) (done++[r]):=by
    have h1:=(HO4.out.2.1.ext hal).grown hoa (by decide) hg5
    have h2:=qnh (qay HO4.out.2.2 hal) hoa (by decide) hg5
    rw [<-HRL.out] at h2 ⊢
    exact h1.snoc h2
   have hbw5:=(hbw4.alloc hz4 (.cells #[.slice A4 rl c4] 151)).grown hg5 (by simp;omega) (fun b hb=>(hl5 b hb).1)
   have HO5:=zh (za hown5 hrs5)
   clear hown5 hrs5 hg5 hal hl5 hoa HO4
   have hN:rs=(done++[r])++todo:=by rw [HRS.out];simp
   have HN:=zh hN
   have HT:=zh (show By w (some ⟨b0,off+(8+rl),none⟩) (n - (8+rl)) (c - (8+rl)) (recs todo) from by
    have h:=HM.out.2 (c - (8+rl)) (by have:=HLEN.out;rw [HRL.out] at this;omega)
    rw [List.length_append,qax,HRL.out] at h
    have e:(recs todo).length=n - (8+rl):=by have:=HLEN.out;rw [HRL.out] at this;omega
    rw [e] at h
    exact h)
   have HT0:=zh (show c=8+rl->recs todo=[] from fun hc0=>by
    have:=HLEN.out
    rw [HRL.out] at this
    exact List.length_eq_zero_iff.1 (by omega))
   clear hN d3 d4
   have hdl2:(done++[r]).length=done.length+1:=by simp
   go_wp2
   go_roundw
   case rel =>
    by_cases hc0:c=8+rl
    ·have hz:=HT0.out hc0
     have hn0:n - (8+rl)=0:=by have:=HT.out.2;rw [hz] at this;simpa using this.symm
     refine ⟨done++[r],todo,some ⟨b0,off,none⟩,0,0,A5,c5,hs++[.slice A4 rl c4],HN,by rw [if_pos hc0,hn0,hc0,Nat.sub_self],by rw [hdl2],by omega,by rw [hdl2];omega,zh (by rw [hz];exact By.none_ _ _ _ _),?_,hbw5⟩
     rw [hdl2];exact HO5
    ·refine ⟨done++[r],todo,some ⟨b0,off+(8+rl),none⟩,n - (8+rl),c - (8+rl),A5,c5,hs++[.slice A4 rl c4],HN,by rw [if_neg hc0],by rw [hdl2],by omega,by rw [hdl2];omega,HT,?_,hbw5⟩
     rw [hdl2];exact HO5
   case measure=>simp only [];omega
structure Logd (l:List UInt8) (np:Nat) (rs:List (List UInt8)):Prop where
 head:∃ j,l.take 64=le 8 (recs rs).length++(le 8 rs.length++j)
 body:∃ j,pgs l (np - 1)=recs rs++j
 one:∀ r∈rs,1<=r.length
theorem qko:∀ (rs:List (List UInt8)),rs.length<=(recs rs).length
 | []=>zl _
 | r::rs=>by
  have ih:=qko rs
  rw [qjs]
  simp only [List.length_cons,List.length_append,qax]
  omega
theorem four {t:TypeId} {x0 x1 x2 x3:Value} (h:Blk w g t #[x0,x1,x2,x3]) (hb:Below w.heap.size w w'):
  w'.cell? ⟨g,0,none⟩=some x0/\w'.cell? ⟨g,1,none⟩=some x1/\w'.cell? ⟨g,2,none⟩=some x2/\w'.cell? ⟨g,3,none⟩=some x3 :=
 ⟨(h.ext hb).cell 0,(h.ext hb).cell 1,(h.ext hb).cell 2,(h.ext hb).cell 3⟩
theorem look_ {d:Nat} {ws:Value} (h:Dk w d gs gn np l ws) (hl:Logd l np rs):
  Calls Tryz.prog 85 #[.pointer (some ⟨d,0,none⟩)] w fun e w'=>∃ A c,e=.returned (.tuple #[.agg #[.int .i64 (recs rs).length,.int .i64 rs.length,.slice A rs.length c,.bool false],.int .i64 0])/\Recs w' (fun b=>w.heap.size<=b) A rs.length c rs/\Below w.heap.size w w':=by
 have hnp:=h.np
 have hdl:=h.lt
 have hlen:=h.len
 obtain ⟨j0,hj0⟩:=hl.head
 obtain ⟨j1,hj1⟩:=hl.body
 have hone:=hl.one
 have hge:=qko rs
 have hpl:=pgs_len hlen (show np - 1+1<=np by omega)
 have hszb:(recs rs).length<=(np - 1) * 64:=by rw [<-hpl,hj1,List.length_append];omega
 have hnb:(np - 1) * 64<=262080:=by omega
 obtain ⟨sz,hsz⟩:∃ m,(recs rs).length=m:=⟨_,rfl⟩
 obtain ⟨ct,hct⟩:∃ m,rs.length=m:=⟨_,rfl⟩
 have HJ:=zh (za hj0 (za hj1 (za hone (za hsz (za hct hpl)))))
 rw [hsz] at hszb hge ⊢
 rw [hct] at hge ⊢
 have H:=zh h
 have HR:=zh (fun w' (hb:Below w.heap.size w w')=>read_ (h.ext hb) 0 (by omega))
 clear h hl hj0 hj1 hone hsz hct hpl hlen
 go_enter Tryz.func85,Tryz.ntmps85
 go_upto_region 1 with fail
 obtain ⟨W,hW_,hbW,BF⟩:=al1 w 223 #[.int .i64 0,.int .i64 0,.slice none 0 0,.bool false]
 rw [<-hW_]
 clear hW_
 go_wp2_with fail
 refine (HR.out W hbW).mono ?_
 rintro e w2 ⟨A2,c2,rfl,hown2,hb2⟩
 have hbw2:=zt hbW (zm hb2 hbW.size)
 have BF2:=BF.ext hb2
 have hBy:=By.of_own hown2
 have hz2:=hbw2.size
 have HN:=zh (qil _ A2 64 c2 w2 hBy (by omega))
 clear hown2 hBy hb2 BF HR
 go_wp2_with fail
 refine HN.out.mono ?_
 rintro e w3 ⟨r0,rfl,hRd,hlo,hb3⟩
 have hbw3:=zt hbw2 (zm hb3 hbw2.size)
 have BF3:=BF2.ext hb3
 rw [Nat.zero_mul,List.drop_zero,HJ.out.1,HJ.out.2.2.2.1,HJ.out.2.2.2.2.1] at hRd
 have hjl:j0.length<=64:=by
  have:=congrArg List.length HJ.out.1
  simp only [List.length_append,List.length_take,qax] at this
  omega
 have hBF3:=BF3.lt
 have hfr:w.heap.size<w2.heap.size:=BF2.lt
 have HI:=zh (qim sz hRd (by omega) (by simp [qax];omega))
 clear HN BF2 hRd hb3
 go_wp2_with fail
 refine HI.out.mono ?_
 rintro e w4 ⟨rfl,hRd,hg4⟩
 have BF4:=Blk.keep (F:=fun b=>b≠r0) BF3 (Keep.grown hg4 (fun g hg=>by injection hg with hg;simp [hg])) (by omega)
 have hbw4:=(hbw3.gw hg4)
 have HI2:=zh (qim ct hRd (by omega) (by omega))
 clear HI hg4 BF3 hbw3 hRd
 go_wp2_with fail
 refine HI2.out.mono ?_
 rintro e w5 ⟨rfl,_,hg5⟩
 have BF5:=Blk.keep (F:=fun b=>b≠r0) BF4 (Keep.grown hg5 (fun g hg=>by injection hg with hg;simp [hg])) (by omega)
 have hbw5:=(hbw4.gw hg5)
 clear HI2 hg5 BF4 hbw4
 have q:=four BF5 (zb _ _)
 have f0:=BF5.frozen 0
 have f1:=BF5.frozen 1
 go_wp2_with fail
 clear q f0 f1
 have BF6:Blk ((w5.setCell ⟨w.heap.size,0,none⟩ (.int .i64 (sz:Int))).setCell ⟨w.heap.size,1,none⟩ (.int .i64 (ct:Int))) w.heap.size 223 #[.int .i64 sz,.int .i64 ct,.slice none 0 0,.bool false]:=by
  have:=(BF5.set_ 0 (.int .i64 (sz:Int))).set_ 1 (.int .i64 (ct:Int))
  simpa using this
 have hbw6:Below w.heap.size w ((w5.setCell ⟨w.heap.size,0,none⟩ (.int .i64 (sz:Int))).setCell ⟨w.heap.size,1,none⟩ (.int .i64 (ct:Int))):=(hbw5.setCell (p:=⟨w.heap.size,0,none⟩) (zl _) _).setCell (p:=⟨w.heap.size,1,none⟩) (zl _) _
 have hz6:((w5.setCell ⟨w.heap.size,0,none⟩ (.int .i64 (sz:Int))).setCell ⟨w.heap.size,1,none⟩ (.int .i64 (ct:Int))).heap.size=w5.heap.size:=by simp [World.setCell]
 obtain ⟨g5,hg5⟩:∃ g,w5.heap.size=g:=⟨_,rfl⟩
 rw [hg5] at hz6 ⊢
 generalize (w5.setCell ⟨w.heap.size,0,none⟩ (.int .i64 (sz:Int))).setCell ⟨w.heap.size,1,none⟩ (.int .i64 (ct:Int))=W6 at *
 subst hz6
 clear BF5 hbw5 hg5
 obtain ⟨W7,hW_,hb7,BQ⟩:=al1 W6 267 #[.pointer (some ⟨d,0,none⟩),.int .u32 0,.int .i32 0,.int .u32 0,.slice none 0 0,.int .i64 0]
 rw [<-hW_]
 clear hW_
 have hbw7:=zt hbw6 (zm hb7 hbw6.size)
 have BF7:=BF6.ext hb7
 have hz6:=hbw6.size
 have hBF6:=BF6.lt
 have HB:=zh (lbytes_ (H.out.ext hbw7) BQ (by omega))
 clear BF6 hb7
 refine HB.out.mono ?_
 rintro e w8 ⟨A8,c8,rfl,hBy8,hf8⟩
 have hbw8:=zt hbw7 (hf8.to_below (B:=w.heap.size) hbw7.size (fun k hk h=>by omega))
 have BF8:=hf8.blk BF7 (by omega)
 rw [HJ.out.2.1] at hBy8
 have HY:=zh hBy8
 clear hf8 BF7 BQ HB hbw7 hbw6 hBy8
 have q:=four BF8 (zb _ _)
 have d1:decide ((sz:Int)<0)=false:=by simp
 have d2:decide ((ct:Int)<0)=false:=by simp
 have d3:decide ((((np - 1) * 64:Nat):Int)<(sz:Int))=false:=by simp;omega
 have hc8:=HY.out.1.le_
 obtain ⟨n8,hn8⟩:∃ m,(np - 1) * 64=m:=⟨_,rfl⟩
 have HN8:=zh hn8
 rw [hn8] at d3 hc8 hszb hnb HY ⊢
 clear hn8
 have h1:(sz:Int)<=c8:=by omega
 obtain ⟨ad,rfl⟩:∃ a,A8=some a:=by
  cases A8 with
  | some a=>exact ⟨a,rfl⟩
  | none =>
   have:=HN8.out
   rcases HY.out.1 with h|⟨_,h,_⟩|⟨_,_,h,_⟩
   ·omega
   ·cases h
   ·cases h
 obtain ⟨b8,o8,hn,_,_,hb8⟩:=HY.out.1.some_ (by have:=HN8.out;omega)
 injection hn with hn
 subst hn
 have HC:=zh (fun w' (hb:Below w8.heap.size w8 w')=>cut_ rs (some ⟨b8,o8,none⟩) sz c8 ct w' (by
  have:=(By.front HY.out c8 (by rw [HJ.out.2.2.2.1];omega)).ext hb
  rw [HJ.out.2.2.2.1] at this
  exact this) (by omega) HJ.out.2.2.1 (by rw [HJ.out.2.2.2.2.1];exact zl _) (by omega))
 go_wp2_with fail
 clear q
 have D:=fun (w':World) (hS:w'.cell? ⟨w.heap.size,0,none⟩=some (.int .i64 sz)/\w'.cell? ⟨w.heap.size,1,none⟩=some (.int .i64 ct))=>hS
 refine qcv (S:=fun (w':World)=>w'.cell? ⟨w.heap.size,0,none⟩=some (.int .i64 sz)/\w'.cell? ⟨w.heap.size,1,none⟩=some (.int .i64 ct))
  [(0,true),(1,true),(2,true),(3,true),(4,true),(5,true),(6,false),(7,true),(8,true),(9,true),(10,true),(11,false),(12,true)] (by kernel_rfl) (by kernel_rfl) (by kernel_rfl) (by decide) ⟨BF8.cell 0,BF8.cell 1⟩ ?_
 repeat ((first|refine pT ?_|refine pF ?_);try go_frame)
 refine pD fun K hK=>?_;go_simp
 refine (HC.out _ ((zb _ _).drew)).mono ?_
 rintro e w9 ⟨A9,c9,rfl,hR9,hb9⟩
 have hb89:=zt ((zb _ w8).drew) hb9
 have BF9:=BF8.ext hb89
 have hbw9:=zt hbw8 (zm hb89 hbw8.size)
 have HR9:=zh hR9
 have hz89:w.heap.size<w8.heap.size:=BF8.lt
 clear hb9 hb89 hbw8 BF8 hR9
 refine hK.out _ _ ⟨BF9.cell 0,BF9.cell 1⟩ ?_
 clear hK K
 repeat ((first|refine pT ?_|refine pF ?_);try go_frame)
 have f2:=BF9.frozen 2
 have q:=four BF9 (zb _ _)
 refine pD fun K hK=>?_;go_simp
 clear f2 q
 have BF10:Blk (w9.setCell ⟨w.heap.size,2,none⟩ (.slice A9 rs.length c9)) w.heap.size 223 #[.int .i64 sz,.int .i64 ct,.slice A9 rs.length c9,.bool false]:=by
  have:=BF9.set_ 2 (.slice A9 rs.length c9)
  simpa using this
 have hbw10:Below w.heap.size w (w9.setCell ⟨w.heap.size,2,none⟩ (.slice A9 rs.length c9)):=hbw9.setCell (p:=⟨w.heap.size,2,none⟩) (zl _) _
 refine hK.out _ _ ⟨BF10.cell 0,BF10.cell 1⟩ ?_
 clear hK K D
 repeat ((first|refine pT ?_|refine pF ?_);try go_frame)
 refine qad ?_
 have hk10:Keep (fun b=>w8.heap.size<=b) w9 (w9.setCell ⟨w.heap.size,2,none⟩ (.slice A9 rs.length c9)):=Keep.grown (qac w9 w.heap.size 2 _) (fun g hg h=>by injection hg with hg;omega)
 have HR10:=zh ((show Recs w9 (fun b=>w8.heap.size<=b) A9 rs.length c9 rs from HR9.out).keep hk10)
 have hct:=HJ.out.2.2.2.2.1
 rw [hct] at BF10 hbw10 HR10 ⊢
 generalize w9.setCell ⟨w.heap.size,2,none⟩ (.slice A9 ct c9)=W10 at *
 clear hk10 HR9 hbw9 BF9 hct
 have q:=four BF10 (zb _ _)
 have f0:=BF10.frozen 0
 have f1:=BF10.frozen 1
 have f2:=BF10.frozen 2
 have f3:=BF10.frozen 3
 have HBF:=zh BF10
 clear BF10
 go_wp2
 clear q f0 f1 f2 f3
 have hsets:∃ W11,W11=((((W10.setCell ⟨w.heap.size,3,none⟩ (.bool false)).setCell ⟨w.heap.size,0,none⟩ (.int .i64 (sz:Int))).setCell ⟨w.heap.size,1,none⟩ (.int .i64 (ct:Int))).setCell ⟨w.heap.size,2,none⟩ (.slice A9 ct c9)).setCell ⟨w.heap.size,3,none⟩ (.bool false)/\Blk W11 w.heap.size 223 #[.int .i64 sz,.int .i64 ct,.slice A9 ct c9,.bool false]/\W10.grownBy W11 (some w.heap.size):=by
  refine ⟨_,rfl,?_,?_⟩
  ·have:=((((HBF.out.set_ 3 (.bool false)).set_ 0 (.int .i64 (sz:Int))).set_ 1 (.int .i64 (ct:Int))).set_ 2 (.slice A9 ct c9)).set_ 3 (.bool false)
   simpa using this
  ·exact qah (qah (qah (qah (qac _ _ _ _) (qac _ _ _ _)) (qac _ _ _ _)) (qac _ _ _ _)) (qac _ _ _ _)
 obtain ⟨W11,hW11,B11,hg11⟩:=hsets
 rw [<-hW11]
 clear hW11
 have hbw11:=(hbw10.gw hg11)
 have hR11:=(HR10.out.keep (Keep.grown hg11 (fun g hg h=>by injection hg with hg;omega))).mono (G:=fun b=>w.heap.size<=b) (fun b hb=>by omega)
 have q:=four B11 (zb _ _)
 exact bodyPost_ret (v:=.tuple #[.agg #[.int .i64 sz,.int .i64 ct,.slice A9 ct c9,.bool false],.int .i64 0]) (by simp [results,Tryz.results85,go_sem,q];try rfl) rfl ⟨A9,c9,rfl,hR11,hbw11⟩
theorem RowF.bound (h:RowF w F A n c cs):RowF w (fun b=>F b/\b<w.heap.size) A n c cs:=by
 rcases h with h|h|⟨b,off,e,hnc,hlo,hlt,hc⟩
 ·exact .inl h
 ·exact .inr (.inl h)
 ·exact .inr (.inr ⟨b,off,e,hnc,⟨hlo,hlt⟩,hlt,hc⟩)
theorem Recs.bound (h:Recs w F A n c rs):Recs w (fun b=>F b/\b<w.heap.size) A n c rs:=by
 obtain ⟨hs,h1,h2,h3,h4⟩:=h
 exact ⟨hs,h1.bound,h2,h3,fun i x r e1 e2=>by obtain ⟨A',c',e,hB⟩:=h4 i x r e1 e2;exact ⟨A',c',e,hB.bound⟩⟩
theorem scan_ {d:Nat} {ws:Value} (h:Dk w d gs gn np l ws) (hl:Logd l np rs):
  Calls Tryz.prog 51 #[.pointer (some ⟨d,0,none⟩)] w fun e w'=>∃ A c,e=.returned (.tuple #[.slice A rs.length c,.bool true])/\Recs w' (fun b=>w.heap.size<=b) A rs.length c rs/\Below w.heap.size w w':=by
 have HK:=zh (look_ h hl)
 clear h hl
 go_enter Tryz.func51,Tryz.ntmps51
 go_wp2_with fail
 refine HK.out.mono ?_
 rintro e w1 ⟨A,c,rfl,hR,hb⟩
 have HH:=zh (za hR hb)
 clear hR hb HK
 go_upto_region 2 with fail
 obtain ⟨W,hW_,hbW,BW⟩:=al1 w1 223 #[.int .i64 ((recs rs).length:Int),.int .i64 (rs.length:Int),.slice A rs.length c,.bool false]
 rw [<-hW_]
 clear hW_
 have q:=four BW (zb _ _)
 have HX:=zh (za (HH.out.1.ext hbW) (zt HH.out.2 (zm hbW HH.out.2.size)))
 clear BW hbW HH
 go_wp2
 go_ret2
 exact ⟨A,c,rfl,HX.out⟩
structure Lg (w:World) (g d:Nat) (sz ct:Nat):Prop where
 blk:Blk w g 227 #[.pointer (some ⟨d,0,none⟩),.int .i64 sz,.int .i64 ct]
theorem open_ {d:Nat} {ws:Value} (h:Dk w d gs gn np l ws) (hl:Logd l np rs):
  Calls Tryz.prog 34 #[.pointer (some ⟨d,0,none⟩)] w fun e w'=>∃ g A c,e=.returned (.tuple #[.pointer (some ⟨g,0,none⟩),.slice A rs.length c,.int .i64 0])/\Recs w' (fun b=>w.heap.size<=b) A rs.length c rs/\Lg w' g d (recs rs).length rs.length/\w.heap.size<=g/\Below w.heap.size w w':=by
 have HK:=zh (look_ h hl)
 clear h hl
 obtain ⟨sz,hsz⟩:∃ m,(recs rs).length=m:=⟨_,rfl⟩
 obtain ⟨ct,hct⟩:∃ m,rs.length=m:=⟨_,rfl⟩
 rw [hsz,hct] at HK
 rw [hsz,hct]
 clear hsz hct
 go_enter Tryz.func34,Tryz.ntmps34
 go_wp2_with fail
 refine HK.out.mono ?_
 rintro e w1 ⟨A,c,rfl,hR,hb⟩
 have HH:=zh (za hR hb)
 have hz1:=hb.size
 clear hR hb HK
 go_upto_region 2 with fail
 obtain ⟨W,hW_,hbW,BW⟩:=al1 w1 223 #[.int .i64 (sz:Int),.int .i64 (ct:Int),.slice A ct c,.bool false]
 rw [<-hW_]
 clear hW_
 have q:=four BW (zb _ _)
 have HX:=zh (za (HH.out.1.bound.ext hbW) (zt HH.out.2 (zm hbW HH.out.2.size)))
 have hzW:=hbW.size
 clear hbW HH
 go_wp2_with fail
 clear q
 obtain ⟨W2,hW_,hb2,BL⟩:=al1 W 227 #[.pointer (some ⟨d,0,none⟩),.int .i64 0,.int .i64 0]
 rw [<-hW_]
 clear hW_
 have BF2:=BW.ext hb2
 have hBW:=BW.lt
 have hbW2:=zt HX.out.2 (zm hb2 HX.out.2.size)
 have HX2:=zh (HX.out.1.ext hb2)
 clear hb2 HX BW
 have D:=fun w' (h:Below W2.heap.size W2.drew w')=>za ((BF2.ext (zt (zb _ _).drew h)).cell 0) ((BF2.ext (zt (zb _ _).drew h)).cell 1)
 refine r3 (S:=fun w'=>Below W2.heap.size W2.drew w') [(0,true),(1,true),(2,true),(3,true),(4,true)] [(5,false)] (zb _ _) ?_
 repeat ((first|refine pT ?_|refine pF ?_);try go_frame)
 refine qak ?_
 refine pD fun K hK=>?_;go_simp
 refine (qkt ⟨W.heap.size,1,none⟩ _ sz _ ((Blk.drew BL).cell 1) ((Blk.drew BL).frozen 1)).mono ?_
 rintro e w3 ⟨rfl,rfl⟩
 refine hK.out _ _ trivial ?_
 clear hK K D
 refine qad ?_
 have BL3:Blk (W2.drew.setCell ⟨W.heap.size,1,none⟩ (.int .i64 sz)) W.heap.size 227 #[.pointer (some ⟨d,0,none⟩),.int .i64 sz,.int .i64 0]:=by
  have:=(Blk.drew BL).set_ 1 (.int .i64 (sz:Int))
  simpa using this
 have hg3:=qac W2.drew W.heap.size 1 (.int .i64 (sz:Int))
 have hk3:Keep (fun b=>b<W.heap.size) W2.drew (W2.drew.setCell ⟨W.heap.size,1,none⟩ (.int .i64 (sz:Int))):=Keep.grown hg3 (fun g hg h=>by injection hg with hg;omega)
 have BF3:=Blk.keep (Blk.drew BF2) hk3 hBW
 have hR3:=(HX2.out.keep (Keep.drew _ W2)).keep (hk3.mono (fun b hb=>by omega))
 have hb3:Below w.heap.size w (W2.drew.setCell ⟨W.heap.size,1,none⟩ (.int .i64 (sz:Int))):=(hbW2.drew).setCell (p:=⟨W.heap.size,1,none⟩) (by show w.heap.size<=W.heap.size;omega) _
 generalize W2.drew.setCell ⟨W.heap.size,1,none⟩ (.int .i64 (sz:Int))=W3 at *
 have HX:=zh (za hR3 hb3)
 clear hg3 hk3 hR3 hb3 BL BF2 HX2 hbW2
 have D:=fun w' (h:Below W3.heap.size W3.drew w')=>za ((BF3.ext (zt (zb _ _).drew h)).cell 0) ((BF3.ext (zt (zb _ _).drew h)).cell 1)
 go_wp2_with fail
 refine r3 (S:=fun w'=>Below W3.heap.size W3.drew w') [(0,true),(1,true),(2,true),(3,true),(4,true)] [(5,false)] (zb _ _) ?_
 repeat ((first|refine pT ?_|refine pF ?_);try go_frame)
 refine qak ?_
 refine pD fun K hK=>?_;go_simp
 refine (qkt ⟨W.heap.size,2,none⟩ _ ct _ ((Blk.drew BL3).cell 2) ((Blk.drew BL3).frozen 2)).mono ?_
 rintro e w4 ⟨rfl,rfl⟩
 refine hK.out _ _ trivial ?_
 clear hK K D
 refine qad ?_
 have BL4:Blk (W3.drew.setCell ⟨W.heap.size,2,none⟩ (.int .i64 ct)) W.heap.size 227 #[.pointer (some ⟨d,0,none⟩),.int .i64 sz,.int .i64 ct]:=by
  have:=(Blk.drew BL3).set_ 2 (.int .i64 (ct:Int))
  simpa using this
 have hg4:=qac W3.drew W.heap.size 2 (.int .i64 (ct:Int))
 have hk4:Keep (fun b=>b<W.heap.size) W3.drew (W3.drew.setCell ⟨W.heap.size,2,none⟩ (.int .i64 (ct:Int))):=Keep.grown hg4 (fun g hg h=>by injection hg with hg;omega)
 have BF4:=Blk.keep (Blk.drew BF3) hk4 hBW
 have hR4:=(HX.out.1.keep (Keep.drew _ W3)).keep (hk4.mono (fun b hb=>by omega))
 have hb4:Below w.heap.size w (W3.drew.setCell ⟨W.heap.size,2,none⟩ (.int .i64 (ct:Int))):=(HX.out.2.drew).setCell (p:=⟨W.heap.size,2,none⟩) (by show w.heap.size<=W.heap.size;omega) _
 generalize W3.drew.setCell ⟨W.heap.size,2,none⟩ (.int .i64 (ct:Int))=W4 at *
 have HY:=zh (za hR4 (za hb4 BL4))
 clear hg4 hk4 hR4 hb4 BL3 BF3 HX BL4
 have D:=fun w' (h:Below W4.heap.size W4.drew w')=>(BF4.ext (zt (zb _ _).drew h)).cell 2
 go_wp2_with fail
 refine r1 [(0,true),(1,true),(2,true),(3,true),(4,true),(5,true)] ?_
 repeat ((first|refine pT ?_|refine pF ?_);try go_frame)
 refine qad ?_
 clear D BF4
 have hzz:w.heap.size<=W.heap.size:=by omega
 go_wp2
 exact bodyPost_ret (v:=.tuple #[.pointer (some ⟨W.heap.size,0,none⟩),.slice A ct c,.int .i64 0]) (by simp [results,Tryz.results34,go_sem];try rfl) rfl
  ⟨_,A,c,rfl,(HY.out.1.keep (Keep.drew _ W4)).mono (fun b hb=>hb.1),⟨Blk.drew HY.out.2.2⟩,hzz,HY.out.2.1.drew⟩
theorem qdj {t:TypeId} {x y z:Value} (h:Blk w g t #[x,y,z]):w.cell? ⟨g,0,none⟩=some x/\w.cell? ⟨g,1,none⟩=some y/\w.cell? ⟨g,2,none⟩=some z:=⟨h.cell 0,h.cell 1,h.cell 2⟩
theorem count_ {d sz ct:Nat} (h:Lg w g d sz ct):
  Calls Tryz.prog 169 #[.pointer (some ⟨g,0,none⟩)] w fun e w'=>e=.returned (.int .i64 ct)/\w=w':=by
 have H:=zh (qhv ⟨g,2,none⟩ ct w (h.blk.cell 2))
 go_enter Tryz.func169,Tryz.ntmps169
 go_wp2_with fail
 refine H.out.mono ?_
 rintro e w' ⟨rfl,rfl⟩
 go_wp2
 go_ret
 exact ⟨rfl,rfl⟩
def qbw:Nat->List UInt8->Nat->List UInt8->List UInt8
 | 0,l,_,_=>l
 | f+1,l,p,y=>if y=[] then l else qbw f (put l p (y.take 64)) (p+1) (y.drop 64)
theorem qow (l:List UInt8) (p np:Nat) (x:List UInt8) (hl:l.length=np * 64) (hp:p<np) (hx:x.length<=64):(put l p x).take (p * 64+x.length)=l.take (p * 64)++x:=by
 have:(p+1) * 64<=np * 64:=Nat.mul_le_mul_right _ hp
 unfold put pg
 rw [List.append_assoc,List.append_assoc,List.take_append,List.length_take,List.take_of_length_le (by rw [List.length_take];omega),Nat.min_eq_left (by omega),Nat.add_sub_cancel_left,List.take_left']
 rfl
theorem qhg:∀ (f:Nat) (l:List UInt8) (p np:Nat) (y:List UInt8),l.length=np * 64->p * 64+y.length<=np * 64->y.length<=f->(qbw f l p y).take (p * 64+y.length)=l.take (p * 64)++y
 | 0,l,p,np,y,hl,hy,hf=>by
  have:y=[]:=List.length_eq_zero_iff.1 (by omega)
  subst this
  simp [qbw]
 | f+1,l,p,np,y,hl,hy,hf=>by
  unfold qbw
  split
  ·rename_i h;subst h;simp
  ·rename_i hne
   have h0:0<y.length:=List.length_pos_iff.2 hne
   have hp:p<np:=by
    rcases Nat.lt_or_ge p np with h|h
    ·exact h
    ·have:=Nat.mul_le_mul_right 64 h;omega
   rcases Nat.lt_or_ge 64 y.length with h64|h64
   ·have ih:=qhg f (put l p (y.take 64)) (p+1) np (y.drop 64) (qmm l p np _ hl hp (by simp;omega)) (by simp;omega) (by simp;omega)
    have e:(p+1) * 64+(y.drop 64).length=p * 64+y.length:=by simp;omega
    rw [e] at ih
    rw [ih]
    have h1:=qow l p np (y.take 64) hl hp (by simp;omega)
    have e2:p * 64+(y.take 64).length=(p+1) * 64:=by simp;omega
    rw [e2] at h1
    rw [h1,List.append_assoc,List.take_append_drop]
   ·have hd:y.drop 64=[]:=List.drop_of_length_le h64
    have ht:y.take 64=y:=List.take_of_length_le h64
    rw [hd,ht]
    have h1:=qow l p np y hl hp h64
    cases f with
    | zero=>exact h1
    | succ f=>unfold qbw;rw [if_pos rfl];exact h1
theorem qmi (f:Nat) (l:List UInt8) (p:Nat):qbw f l p []=l:=by
 cases f with
 | zero=>rfl
 | succ f=>unfold qbw;rw [if_pos rfl]
theorem qfo (f:Nat) (l:List UInt8) (p:Nat) (y:List UInt8) (h:y≠[]):qbw (f+1) l p y=qbw f (put l p (y.take 64)) (p+1) (y.drop 64):=by
 conv=>lhs;unfold qbw
 rw [if_neg h]
theorem qqb (l:List UInt8) (np sz:Nat) (hl:l.length=np * 64) (hs:64+sz<=np * 64):l.take ((1+sz / 64) * 64)++((l.drop ((1+sz / 64) * 64)).take 64).take (sz % 64)=l.take (64+sz):=by
 have e:(1+sz / 64) * 64+sz % 64=64+sz:=by omega
 rw [List.take_take,Nat.min_eq_left (by omega),<-e,List.take_add]
theorem pagesA_ {d sz ct:Nat} {x:List UInt8} (h:Dk w d gs gn np l (.slice none 0 0)) (hg:Lg w g d sz ct) (hgd:g≠d/\g≠gs/\g≠gn) (hx:RowF w (fun b=>b≠d/\b≠gs/\b≠gn) A m c (qaa x)) (hm:x.length=m) (hm1:1<=m) (hm2:m<=200000) (hfit:64+sz+m<=np * 64) (h64:sz % 64=0):
  Calls Tryz.prog 166 #[.pointer (some ⟨g,0,none⟩),.slice A m c] w fun e w'=>∃ l',e=.returned (.int .i64 0)/\Dk w' d gs gn np l' (.slice none 0 0)/\l'.take (64+sz+m)=l.take (64+sz)++x/\Frm (fun b=>b=d\/b=gs\/b=gn) w w':=by
 have hnp:=h.np
 have hlen:=h.len
 have hdl:=h.lt
 have hgl:=hg.blk.lt
 have HLd:=zh (qhv ⟨g,1,none⟩ sz w (hg.blk.cell 1))
 have q:=qdj hg.blk
 have BG0:=hg.blk
 have HD0:=zh h
 have HY0:=zh hx.bound
 clear h hg hx
 have d0:decide (0<(sz:Int) % 64)=false:=by simp;omega
 obtain ⟨P0,hP0⟩:∃ P,1+sz / 64=P:=⟨_,rfl⟩
 have hPI:(1:Int)+(sz:Int) / 64=(P0:Int):=by omega
 have hP64:P0 * 64=64+sz:=by omega
 have hyl:=hm
 go_enter Tryz.func166,Tryz.ntmps166
 go_wp2_with fail
 refine HLd.out.mono ?_
 rintro e w' ⟨rfl,rfl⟩
 clear HLd
 go_wp2_with fail
 clear q
 have hB0:=w.heap.size
 obtain ⟨L,hL⟩:∃ L,qbw (x).length l P0 (x)=L:=⟨_,rfl⟩
 have HL:=zh hL
 clear hL hB0
 go_loopw [1,6] (fun bv pv wr=>∃ (y l1:List UInt8) (f k p:Nat) (ws1:Value) (xs1:List Value) (Ay:Option Addr) (n cy:Nat),bv=.slice Ay n cy/\y.length=n/\pv=.int .i64 p/\Hid (qbw f l1 p y=L)/\n<=f/\p * 64+n<=np * 64/\k<=p/\Hid (Dk wr d gs gn np l1 ws1)/\Hid (wr.ownsRow w.heap.size 368 65 ws1 k xs1)/\Hid (RowF wr (fun b=>(b≠d/\b≠gs/\b≠gn)/\b<w.heap.size) Ay n cy (qaa y))/\Blk wr g 227 #[.pointer (some ⟨d,0,none⟩),.int .i64 sz,.int .i64 ct]/\Frm (fun b=>b=d\/b=gn\/w.heap.size<=b) w wr) (fun bv _ _=>match bv with | .slice _ n _=>n|_=>0)
 case atStart=>exact ⟨x,l,(x).length,0,P0,.slice none 0 0,[],A,m,c,rfl,hyl,rfl,HL,by omega,by omega,Nat.zero_le _,HD0,zh (World.ownsRow_nil _ _ _ _),HY0,BG0,Frm.refl _ _⟩
 case round =>
  clear HD0 HY0 BG0
  obtain ⟨y,l1,f,k,p,ws1,xs1,Ay,n,cy,rfl,hyn,rfl,HPA,hnf,hpn,hkp,HD,HOW,HY,BG,hf⟩:=hrel
  have q:=qdj BG
  rcases Nat.eq_zero_or_pos n with rfl|hn0
  ·obtain rfl:y=[]:=List.length_eq_zero_iff.1 hyn
   have hpa:=HPA.out
   rw [qmi] at hpa
   subst hpa
   have HS:=zh (sync_ HD.out)
   go_wp2_with fail
   refine HS.out.mono ?_
   rintro e w9 ⟨rfl,hD9,hf9⟩
   have hff:=(hf.mono (H:=fun b=>b=d\/b=gs\/b=gn\/w.heap.size<=b) (fun b h=>by rcases h with h|h|h <;> simp [h])).trans (hf9.mono (H:=fun b=>b=d\/b=gs\/b=gn\/w.heap.size<=b) (fun b h=>by rcases h with h|h <;> simp [h]))
   have HH:=zh (za hD9 hff)
   clear hD9 hf9 hff hf
   go_wp2
   go_ret
   refine ⟨l1,rfl,HH.out.1,?_,?_⟩
   ·exact (by
   have h1:=qhg x.length l P0 np x hlen (by omega) (zl _)
   rw [HL.out] at h1
   rw [hm,hP64] at h1
   exact h1)
   ·exact HH.out.2.mono' (fun b hb h=>by omega)
  ·obtain ⟨n1,hn1⟩:∃ n1,(if n<=64 then n else 64)=n1:=⟨_,rfl⟩
   have hmin:min (n:Int) 64=(n1:Int):=by
    split at hn1 <;> omega
   have hn1b:n1<=64/\n1<=n/\1<=n1/\((n1=n/\n<=64)\/(n1=64/\64<n)):=by
    split at hn1 <;> omega
   clear hn1
   have hyc:=HY.out.row.le_
   have htl:(y.take 64).length=n1:=by rw [List.length_take];omega
   have hdl2:(y.drop 64).length=n - n1:=by rw [List.length_drop];omega
   obtain ⟨by_,oy,rfl,_,_,hby⟩:=HY.out.row.some_ hn0
   have hrowT:RowF wr (fun b=>(b≠d/\b≠gs/\b≠gn)/\b<w.heap.size) (some ⟨by_,oy,none⟩) n1 cy (qaa (y.take 64)):=by
    have h1:=HY.out.take' n1 hn1b.2.1
    have e:(qaa y).take n1=qaa (y.take 64):=by
     rw [<-htl];simp [qaa]
    rwa [e] at h1
   have hpnp:p<np:=by
    rcases Nat.lt_or_ge p np with h|h
    ·exact h
    ·have:=Nat.mul_le_mul_right 64 h;omega
   have hBw:=hf.size
   have HW:=zh (fun w' (hb:Below wr.heap.size wr w')=>write_ (HD.out.ext hb) (qay HOW.out hb) ⟨by omega,by omega,by omega⟩ (Nat.le_trans hBw hb.size) (by omega) p n1 cy (some ⟨by_,oy,none⟩) (y.take 64) hpnp ⟨hrowT.row.ext hb,htl⟩ hn1b.1 hn1b.2.2.1)
   have HRT:=zh hrowT
   clear hrowT
   have d1:decide (0<(n:Int))=true:=by simp;omega
   have hc1:(n1:Int)<=cy:=by omega
   have hc2:(n1:Int)<=n:=by omega
   rcases hn1b.2.2.2 with ⟨hq,hql⟩|⟨hq,hql⟩
   ·have hq2:=hq.symm
    clear hq
    subst hq2
    go_wp2_with fail
    have D:=fun (w':World) (hS:w'.cell? ⟨g,0,none⟩=some (.pointer (some ⟨d,0,none⟩)))=>hS
    refine r2 (S:=fun (w':World)=>w'.cell? ⟨g,0,none⟩=some (.pointer (some ⟨d,0,none⟩))) [(0,true),(1,true),(2,true),(3,true),(4,true),(5,true),(6,true),(7,true),(8,false),(9,true)] (BG.cell 0) ?_
    repeat ((first|refine pT ?_|refine pF ?_);try go_frame)
    refine pD fun K hK=>?_;go_simp
    refine (HW.out _ ((zb _ _).drew)).mono ?_
    rintro e w5 ⟨ws5,xs5,rfl,hD5,hO5,hf5⟩
    have hf5':=(Frm.drew (fun b=>b=d\/b=gn\/w.heap.size<=b) wr).trans hf5
    have BG5:=hf5'.blk BG (by omega)
    have hff:=hf.trans hf5'
    have hk5:=hf5'.keep (F:=fun b=>(b≠d/\b≠gs/\b≠gn)/\b<w.heap.size) (fun b h _ hg=>by omega)
    have HY5:=zh (HY.out.keep hk5)
    have HD5:=zh hD5
    have HO5:=zh hO5
    clear hD5 hO5 hf5 hf5' hk5 hf
    refine hK.out _ _ (BG5.cell 0) ?_
    clear hK K D
    repeat ((first|refine pT ?_|refine pF ?_);try go_frame)
    refine qad ?_
    clear q BG
    have q:=qdj BG5
    have hne:y≠[]:=by intro h;rw [h] at hyn;simp at hyn;omega
    have HPA2:Hid (qbw (f - 1) (put l1 p (y.take 64)) (p+1) (y.drop 64)=L):=zh (by
     have:=qfo (f - 1) l1 p y hne
     rw [show f - 1+1=f by omega,HPA.out] at this
     exact this.symm)
    have hpn2:(p+1) * 64+(n - n)<=np * 64:=by
     have:=Nat.mul_le_mul_right 64 hpnp
     omega
    go_wp2
    go_roundw
    case rel =>
     by_cases hc0:cy=n
     ·have hnn:n - n=0:=by omega
      have hy0:y.drop 64=[]:=List.length_eq_zero_iff.1 (by omega)
      refine ⟨y.drop 64,put l1 p (y.take 64),f - 1,k+1,p+1,ws5,xs5,some ⟨by_,oy,none⟩,n - n,0,by rw [if_pos hc0,hc0,Nat.sub_self],hdl2,by go_num,HPA2,by omega,hpn2,by omega,HD5,HO5,zh ?_,BG5,hff⟩
      rw [hnn,hy0]
      exact RowF.end_ _ _
     ·refine ⟨y.drop 64,put l1 p (y.take 64),f - 1,k+1,p+1,ws5,xs5,some ⟨by_,oy+n,none⟩,n - n,cy - n,by rw [if_neg hc0] <;> simp,hdl2,by go_num,HPA2,by omega,hpn2,by omega,HD5,HO5,zh ?_,BG5,hff⟩
      have h1:=HY5.out.drop' n hn1b.2.1
      rw [Addr.add_lit] at h1
      have e:(qaa y).drop n=qaa (y.drop 64):=by
       rcases hn1b.2.2.2 with ⟨h,_⟩|⟨h,_⟩
       ·have h2:y.drop 64=[]:=List.length_eq_zero_iff.1 (by omega)
        rw [h2,List.drop_of_length_le (by rw [lenB];omega)];rfl
       ·rw [h];simp [qaa]
      rwa [e] at h1
    case measure=>simp only [];omega
   ·have hq2:=hq.symm
    clear hq
    subst hq2
    have hq64:(64:Int)<n:=by omega
    have hq65:¬(n:Int)<=64:=by omega
    have hc64:(64:Int)<=cy:=by omega
    have hc65:64<=cy:=by omega
    go_wp2_with fail
    have D:=fun (w':World) (hS:w'.cell? ⟨g,0,none⟩=some (.pointer (some ⟨d,0,none⟩)))=>hS
    refine r2 (S:=fun (w':World)=>w'.cell? ⟨g,0,none⟩=some (.pointer (some ⟨d,0,none⟩))) [(0,true),(1,true),(2,true),(3,true),(4,true),(5,true),(6,true),(7,true),(8,false),(9,true)] (BG.cell 0) ?_
    repeat ((first|refine pT ?_|refine pF ?_);try go_frame)
    refine pD fun K hK=>?_;go_simp
    refine (HW.out _ ((zb _ _).drew)).mono ?_
    rintro e w5 ⟨ws5,xs5,rfl,hD5,hO5,hf5⟩
    have hf5':=(Frm.drew (fun b=>b=d\/b=gn\/w.heap.size<=b) wr).trans hf5
    have BG5:=hf5'.blk BG (by omega)
    have hff:=hf.trans hf5'
    have hk5:=hf5'.keep (F:=fun b=>(b≠d/\b≠gs/\b≠gn)/\b<w.heap.size) (fun b h _ hg=>by omega)
    have HY5:=zh (HY.out.keep hk5)
    have HD5:=zh hD5
    have HO5:=zh hO5
    clear hD5 hO5 hf5 hf5' hk5 hf
    refine hK.out _ _ (BG5.cell 0) ?_
    clear hK K D
    repeat ((first|refine pT ?_|refine pF ?_);try go_frame)
    refine qad ?_
    clear q BG
    have q:=qdj BG5
    have hne:y≠[]:=by intro h;rw [h] at hyn;simp at hyn;omega
    have HPA2:Hid (qbw (f - 1) (put l1 p (y.take 64)) (p+1) (y.drop 64)=L):=zh (by
     have:=qfo (f - 1) l1 p y hne
     rw [show f - 1+1=f by omega,HPA.out] at this
     exact this.symm)
    have hpn2:(p+1) * 64+(n - 64)<=np * 64:=by
     have:=Nat.mul_le_mul_right 64 hpnp
     omega
    by_cases hc0:cy=64
    ·go_wp2
     go_roundw
     case rel =>
      have hnn:n - 64=0:=by omega
      have hy0:y.drop 64=[]:=List.length_eq_zero_iff.1 (by omega)
      refine ⟨y.drop 64,put l1 p (y.take 64),f - 1,k+1,p+1,ws5,xs5,some ⟨by_,oy,none⟩,n - 64,0,by first|rfl|simp [hc0],hdl2,by go_num,HPA2,by omega,hpn2,by omega,HD5,HO5,zh ?_,BG5,hff⟩
      rw [hnn,hy0]
      exact RowF.end_ _ _
     case measure=>simp only [];omega
    ·go_wp2
     go_roundw
     case rel =>
      refine ⟨y.drop 64,put l1 p (y.take 64),f - 1,k+1,p+1,ws5,xs5,some ⟨by_,oy+64,none⟩,n - 64,cy - 64,by first|rfl|simp [hc0],hdl2,by go_num,HPA2,by omega,hpn2,by omega,HD5,HO5,zh ?_,BG5,hff⟩
      have h1:=HY5.out.drop' 64 hn1b.2.1
      rw [Addr.add_lit] at h1
      have e:(qaa y).drop 64=qaa (y.drop 64):=by simp [qaa]
      rwa [e] at h1
     case measure=>simp only [];omega
theorem pagesB_ {d sz ct:Nat} {x:List UInt8} (h:Dk w d gs gn np l (.slice none 0 0)) (hg:Lg w g d sz ct) (hgd:g≠d/\g≠gs/\g≠gn) (hx:RowF w (fun b=>b≠d/\b≠gs/\b≠gn) A m c (qaa x)) (hm:x.length=m) (hm1:1<=m) (hm2:m<=200000) (hfit:64+sz+m<=np * 64) (h64:sz % 64≠0):
  Calls Tryz.prog 166 #[.pointer (some ⟨g,0,none⟩),.slice A m c] w fun e w'=>∃ l',e=.returned (.int .i64 0)/\Dk w' d gs gn np l' (.slice none 0 0)/\l'.take (64+sz+m)=l.take (64+sz)++x/\Frm (fun b=>b=d\/b=gs\/b=gn) w w':=by
 have hnp:=h.np
 have hlen:=h.len
 have hdl:=h.lt
 have hgl:=hg.blk.lt
 have HLd:=zh (qhv ⟨g,1,none⟩ sz w (hg.blk.cell 1))
 have q:=qdj hg.blk
 have BG0:=hg.blk
 have d0:decide (0<(sz:Int) % 64)=true:=by simp;omega
 obtain ⟨P0,hP0⟩:∃ P,1+sz / 64=P:=⟨_,rfl⟩
 have hPI:(1:Int)+(sz:Int) / 64=(P0:Int):=by omega
 obtain ⟨o0,ho0⟩:∃ o,sz % 64=o:=⟨_,rfl⟩
 have hoI:(sz:Int) % 64=(o0:Int):=by omega
 have hP64:P0 * 64+o0=64+sz:=by omega
 have ho64:o0<=64/\1<=o0:=by omega
 have hPnp:P0<np:=by
  rcases Nat.lt_or_ge P0 np with h|h
  ·exact h
  ·have:=Nat.mul_le_mul_right 64 h;omega
 have HRd:=zh (read_ h P0 hPnp)
 have H:=zh h
 have HX:=zh hx
 have hpl:((l.drop (P0 * 64)).take 64).length=64:=by
  have:=Nat.mul_le_mul_right 64 hPnp
  rw [List.length_take,List.length_drop];omega
 have hpf:=qqb l np sz hlen (by omega)
 rw [hP0,ho0] at hpf
 have HPF:=zh hpf
 obtain ⟨pgx,hpx⟩:∃ z,(l.drop (P0 * 64)).take 64=z:=⟨_,rfl⟩
 rw [hpx] at hpl HRd HPF
 have hyl:(pgx.take o0++x).length=o0+m:=by rw [List.length_append,List.length_take,hpl,hm];omega
 clear h hg hx hpf hpx
 go_enter Tryz.func166,Tryz.ntmps166
 go_wp2_with fail
 refine HLd.out.mono ?_
 rintro e w' ⟨rfl,rfl⟩
 clear HLd
 go_wp2_with fail
 refine HRd.out.mono ?_
 rintro e w2 ⟨A2,c2,rfl,hown2,hb2⟩
 clear HRd q
 have hB2:=By.of_own hown2
 obtain ⟨b2,o2,rfl,h64c,_,hb2l⟩:=hB2.1.some_ (by omega)
 have hBf:By w2 (some ⟨b2,o2,none⟩) o0 c2 (pgx.take o0):=by
  have h1:=hB2
  have e:pgx=pgx.take o0++pgx.drop o0:=(List.take_append_drop _ _).symm
  rw [e] at h1
  have h2:=By.front h1 c2 (by rw [List.length_take];omega)
  rw [List.length_take,hpl,Nat.min_eq_left ho64.1] at h2
  exact h2
 have HBf:=zh hBf
 have hBX2:By w2 A m c x:=⟨HX.out.row.ext hb2,hm⟩
 have HBX:=zh hBX2
 have hbw2:=hb2
 have BG2:=BG0.ext hb2
 clear hB2 hBf hBX2 hown2 hb2 BG0
 have ho2:(o0:Int)<=c2:=by omega
 go_wp2_with fail
 obtain ⟨W,hW_,hbW,BC⟩:=al1 w2 151 #[.slice (some ⟨b2,o2,none⟩) o0 c2,.slice A m c]
 rw [<-hW_]
 clear hW_
 have hps:=qgy BC (HBf.out.ext hbW) (HBX.out.ext hbW)
 have hsm:sumN [Part.mk (some ⟨b2,o2,none⟩) o0 c2 (qaa (pgx.take o0)),Part.mk A m c (qaa x)]=o0+m:=by simp [sumN]
 have hcc:=qdl _ _ 2 W rfl BC.lt hps (by rw [hsm];omega) (by omega)
 rw [hsm] at hcc
 have HCC:=zh hcc
 have hbwW:=zt hbw2 (zm hbW hbw2.size)
 have BGW:=BG2.ext hbW
 clear hcc hps hsm hbW BC BG2 hbw2
 refine HCC.out.mono ?_
 rintro e w3 ⟨A3,c3,rfl,hown3,hb3⟩
 have hbw3:=zt hbwW (zm hb3 hbwW.size)
 have BG0:=BGW.ext hb3
 have HD0:=zh (H.out.ext hbw3)
 have hrow3:=(Row.of_own hown3)
 have hzW:=hbwW.size
 have HY0:=zh (show RowF w3 (fun b=>(b≠d/\b≠gs/\b≠gn)/\b<w3.heap.size) A3 (o0+m) c3 (qaa (pgx.take o0++x)) from by
  have h1:=(RowF.of_row (F:=fun b=>b≠d/\b≠gs/\b≠gn) hrow3 (fun b h1 _=>⟨by omega,by omega,by omega⟩)).bound
  have e:allC [Part.mk (some ⟨b2,o2,none⟩) o0 c2 (qaa (pgx.take o0)),Part.mk A m c (qaa x)]=qaa (pgx.take o0++x):=by simp [allC,qaa]
  rw [e] at h1
  exact h1)
 clear HCC hown3 hb3 BGW hrow3 HBf HBX
 have hgl3:g<w3.heap.size:=by have:=hbw3.size;omega
 have hz3:=hbw3.size
 go_wp2_with fail
 have hB0:=w3.heap.size
 obtain ⟨L,hL⟩:∃ L,qbw (pgx.take o0++x).length l P0 (pgx.take o0++x)=L:=⟨_,rfl⟩
 have HL:=zh hL
 clear hL hB0
 go_loopw [1,6] (fun bv pv wr=>∃ (y l1:List UInt8) (f k p:Nat) (ws1:Value) (xs1:List Value) (Ay:Option Addr) (n cy:Nat),bv=.slice Ay n cy/\y.length=n/\pv=.int .i64 p/\Hid (qbw f l1 p y=L)/\n<=f/\p * 64+n<=np * 64/\k<=p/\Hid (Dk wr d gs gn np l1 ws1)/\Hid (wr.ownsRow w3.heap.size 368 65 ws1 k xs1)/\Hid (RowF wr (fun b=>(b≠d/\b≠gs/\b≠gn)/\b<w3.heap.size) Ay n cy (qaa y))/\Blk wr g 227 #[.pointer (some ⟨d,0,none⟩),.int .i64 sz,.int .i64 ct]/\Frm (fun b=>b=d\/b=gn\/w3.heap.size<=b) w3 wr) (fun bv _ _=>match bv with | .slice _ n _=>n|_=>0)
 case atStart=>exact ⟨pgx.take o0++x,l,(pgx.take o0++x).length,0,P0,.slice none 0 0,[],A3,(o0+m),c3,rfl,hyl,rfl,HL,by omega,by omega,Nat.zero_le _,HD0,zh (World.ownsRow_nil _ _ _ _),HY0,BG0,Frm.refl _ _⟩
 case round =>
  clear HD0 HY0 BG0
  obtain ⟨y,l1,f,k,p,ws1,xs1,Ay,n,cy,rfl,hyn,rfl,HPA,hnf,hpn,hkp,HD,HOW,HY,BG,hf⟩:=hrel
  have q:=qdj BG
  rcases Nat.eq_zero_or_pos n with rfl|hn0
  ·obtain rfl:y=[]:=List.length_eq_zero_iff.1 hyn
   have hpa:=HPA.out
   rw [qmi] at hpa
   subst hpa
   have HS:=zh (sync_ HD.out)
   go_wp2_with fail
   refine HS.out.mono ?_
   rintro e w9 ⟨rfl,hD9,hf9⟩
   have hff:=(hf.mono (H:=fun b=>b=d\/b=gs\/b=gn\/w3.heap.size<=b) (fun b h=>by rcases h with h|h|h <;> simp [h])).trans (hf9.mono (H:=fun b=>b=d\/b=gs\/b=gn\/w3.heap.size<=b) (fun b h=>by rcases h with h|h <;> simp [h]))
   have HH:=zh (za hD9 hff)
   clear hD9 hf9 hff hf
   go_wp2
   go_ret
   refine ⟨l1,rfl,HH.out.1,?_,?_⟩
   ·exact (by
   have h1:=qhg (pgx.take o0++x).length l P0 np (pgx.take o0++x) hlen (by omega) (zl _)
   rw [HL.out] at h1
   rw [hyl,show P0 * 64+(o0+m)=64+sz+m by omega,<-List.append_assoc,HPF.out] at h1
   exact h1)
   ·exact ((Frm.below hbw3).trans HH.out.2).mono' (fun b hb h=>by omega)
  ·obtain ⟨n1,hn1⟩:∃ n1,(if n<=64 then n else 64)=n1:=⟨_,rfl⟩
   have hmin:min (n:Int) 64=(n1:Int):=by
    split at hn1 <;> omega
   have hn1b:n1<=64/\n1<=n/\1<=n1/\((n1=n/\n<=64)\/(n1=64/\64<n)):=by
    split at hn1 <;> omega
   clear hn1
   have hyc:=HY.out.row.le_
   have htl:(y.take 64).length=n1:=by rw [List.length_take];omega
   have hdl2:(y.drop 64).length=n - n1:=by rw [List.length_drop];omega
   obtain ⟨by_,oy,rfl,_,_,hby⟩:=HY.out.row.some_ hn0
   have hrowT:RowF wr (fun b=>(b≠d/\b≠gs/\b≠gn)/\b<w3.heap.size) (some ⟨by_,oy,none⟩) n1 cy (qaa (y.take 64)):=by
    have h1:=HY.out.take' n1 hn1b.2.1
    have e:(qaa y).take n1=qaa (y.take 64):=by
     rw [<-htl];simp [qaa]
    rwa [e] at h1
   have hpnp:p<np:=by
    rcases Nat.lt_or_ge p np with h|h
    ·exact h
    ·have:=Nat.mul_le_mul_right 64 h;omega
   have hBw:=hf.size
   have HW:=zh (fun w' (hb:Below wr.heap.size wr w')=>write_ (HD.out.ext hb) (qay HOW.out hb) ⟨by omega,by omega,by omega⟩ (Nat.le_trans hBw hb.size) (by omega) p n1 cy (some ⟨by_,oy,none⟩) (y.take 64) hpnp ⟨hrowT.row.ext hb,htl⟩ hn1b.1 hn1b.2.2.1)
   have HRT:=zh hrowT
   clear hrowT
   have d1:decide (0<(n:Int))=true:=by simp;omega
   have hc1:(n1:Int)<=cy:=by omega
   have hc2:(n1:Int)<=n:=by omega
   rcases hn1b.2.2.2 with ⟨hq,hql⟩|⟨hq,hql⟩
   ·have hq2:=hq.symm
    clear hq
    subst hq2
    go_wp2_with fail
    have D:=fun (w':World) (hS:w'.cell? ⟨g,0,none⟩=some (.pointer (some ⟨d,0,none⟩)))=>hS
    refine r2 (S:=fun (w':World)=>w'.cell? ⟨g,0,none⟩=some (.pointer (some ⟨d,0,none⟩))) [(0,true),(1,true),(2,true),(3,true),(4,true),(5,true),(6,true),(7,true),(8,false),(9,true)] (BG.cell 0) ?_
    repeat ((first|refine pT ?_|refine pF ?_);try go_frame)
    refine pD fun K hK=>?_;go_simp
    refine (HW.out _ ((zb _ _).drew)).mono ?_
    rintro e w5 ⟨ws5,xs5,rfl,hD5,hO5,hf5⟩
    have hf5':=(Frm.drew (fun b=>b=d\/b=gn\/w3.heap.size<=b) wr).trans hf5
    have BG5:=hf5'.blk BG (by omega)
    have hff:=hf.trans hf5'
    have hk5:=hf5'.keep (F:=fun b=>(b≠d/\b≠gs/\b≠gn)/\b<w3.heap.size) (fun b h _ hg=>by omega)
    have HY5:=zh (HY.out.keep hk5)
    have HD5:=zh hD5
    have HO5:=zh hO5
    clear hD5 hO5 hf5 hf5' hk5 hf
    refine hK.out _ _ (BG5.cell 0) ?_
    clear hK K D
    repeat ((first|refine pT ?_|refine pF ?_);try go_frame)
    refine qad ?_
    clear q BG
    have q:=qdj BG5
    have hne:y≠[]:=by intro h;rw [h] at hyn;simp at hyn;omega
    have HPA2:Hid (qbw (f - 1) (put l1 p (y.take 64)) (p+1) (y.drop 64)=L):=zh (by
     have:=qfo (f - 1) l1 p y hne
     rw [show f - 1+1=f by omega,HPA.out] at this
     exact this.symm)
    have hpn2:(p+1) * 64+(n - n)<=np * 64:=by
     have:=Nat.mul_le_mul_right 64 hpnp
     omega
    go_wp2
    go_roundw
    case rel =>
     by_cases hc0:cy=n
     ·have hnn:n - n=0:=by omega
      have hy0:y.drop 64=[]:=List.length_eq_zero_iff.1 (by omega)
      refine ⟨y.drop 64,put l1 p (y.take 64),f - 1,k+1,p+1,ws5,xs5,some ⟨by_,oy,none⟩,n - n,0,by rw [if_pos hc0,hc0,Nat.sub_self],hdl2,by go_num,HPA2,by omega,hpn2,by omega,HD5,HO5,zh ?_,BG5,hff⟩
      rw [hnn,hy0]
      exact RowF.end_ _ _
     ·refine ⟨y.drop 64,put l1 p (y.take 64),f - 1,k+1,p+1,ws5,xs5,some ⟨by_,oy+n,none⟩,n - n,cy - n,by rw [if_neg hc0] <;> simp,hdl2,by go_num,HPA2,by omega,hpn2,by omega,HD5,HO5,zh ?_,BG5,hff⟩
      have h1:=HY5.out.drop' n hn1b.2.1
      rw [Addr.add_lit] at h1
      have e:(qaa y).drop n=qaa (y.drop 64):=by
       rcases hn1b.2.2.2 with ⟨h,_⟩|⟨h,_⟩
       ·have h2:y.drop 64=[]:=List.length_eq_zero_iff.1 (by omega)
        rw [h2,List.drop_of_length_le (by rw [lenB];omega)];rfl
       ·rw [h];simp [qaa]
      rwa [e] at h1
    case measure=>simp only [];omega
   ·have hq2:=hq.symm
    clear hq
    subst hq2
    have hq64:(64:Int)<n:=by omega
    have hq65:¬(n:Int)<=64:=by omega
    have hc64:(64:Int)<=cy:=by omega
    have hc65:64<=cy:=by omega
    go_wp2_with fail
    have D:=fun (w':World) (hS:w'.cell? ⟨g,0,none⟩=some (.pointer (some ⟨d,0,none⟩)))=>hS
    refine r2 (S:=fun (w':World)=>w'.cell? ⟨g,0,none⟩=some (.pointer (some ⟨d,0,none⟩))) [(0,true),(1,true),(2,true),(3,true),(4,true),(5,true),(6,true),(7,true),(8,false),(9,true)] (BG.cell 0) ?_
    repeat ((first|refine pT ?_|refine pF ?_);try go_frame)
    refine pD fun K hK=>?_;go_simp
    refine (HW.out _ ((zb _ _).drew)).mono ?_
    rintro e w5 ⟨ws5,xs5,rfl,hD5,hO5,hf5⟩
    have hf5':=(Frm.drew (fun b=>b=d\/b=gn\/w3.heap.size<=b) wr).trans hf5
    have BG5:=hf5'.blk BG (by omega)
    have hff:=hf.trans hf5'
    have hk5:=hf5'.keep (F:=fun b=>(b≠d/\b≠gs/\b≠gn)/\b<w3.heap.size) (fun b h _ hg=>by omega)
    have HY5:=zh (HY.out.keep hk5)
    have HD5:=zh hD5
    have HO5:=zh hO5
    clear hD5 hO5 hf5 hf5' hk5 hf
    refine hK.out _ _ (BG5.cell 0) ?_
    clear hK K D
    repeat ((first|refine pT ?_|refine pF ?_);try go_frame)
    refine qad ?_
    clear q BG
    have q:=qdj BG5
    have hne:y≠[]:=by intro h;rw [h] at hyn;simp at hyn;omega
    have HPA2:Hid (qbw (f - 1) (put l1 p (y.take 64)) (p+1) (y.drop 64)=L):=zh (by
     have:=qfo (f - 1) l1 p y hne
     rw [show f - 1+1=f by omega,HPA.out] at this
     exact this.symm)
    have hpn2:(p+1) * 64+(n - 64)<=np * 64:=by
     have:=Nat.mul_le_mul_right 64 hpnp
     omega
    by_cases hc0:cy=64
    ·go_wp2
     go_roundw
     case rel =>
      have hnn:n - 64=0:=by omega
      have hy0:y.drop 64=[]:=List.length_eq_zero_iff.1 (by omega)
      refine ⟨y.drop 64,put l1 p (y.take 64),f - 1,k+1,p+1,ws5,xs5,some ⟨by_,oy,none⟩,n - 64,0,by first|rfl|simp [hc0],hdl2,by go_num,HPA2,by omega,hpn2,by omega,HD5,HO5,zh ?_,BG5,hff⟩
      rw [hnn,hy0]
      exact RowF.end_ _ _
     case measure=>simp only [];omega
    ·go_wp2
     go_roundw
     case rel =>
      refine ⟨y.drop 64,put l1 p (y.take 64),f - 1,k+1,p+1,ws5,xs5,some ⟨by_,oy+64,none⟩,n - 64,cy - 64,by first|rfl|simp [hc0],hdl2,by go_num,HPA2,by omega,hpn2,by omega,HD5,HO5,zh ?_,BG5,hff⟩
      have h1:=HY5.out.drop' 64 hn1b.2.1
      rw [Addr.add_lit] at h1
      have e:(qaa y).drop 64=qaa (y.drop 64):=by simp [qaa]
      rwa [e] at h1
     case measure=>simp only [];omega
theorem logpages_ {d sz ct:Nat} {x:List UInt8} (h:Dk w d gs gn np l (.slice none 0 0)) (hg:Lg w g d sz ct) (hgd:g≠d/\g≠gs/\g≠gn) (hx:RowF w (fun b=>b≠d/\b≠gs/\b≠gn) A m c (qaa x)) (hm:x.length=m) (hm1:1<=m) (hm2:m<=200000) (hfit:64+sz+m<=np * 64):
  Calls Tryz.prog 166 #[.pointer (some ⟨g,0,none⟩),.slice A m c] w fun e w'=>∃ l',e=.returned (.int .i64 0)/\Dk w' d gs gn np l' (.slice none 0 0)/\l'.take (64+sz+m)=l.take (64+sz)++x/\Frm (fun b=>b=d\/b=gs\/b=gn) w w':=by
 by_cases h64:sz % 64=0
 ·exact pagesA_ h hg hgd hx hm hm1 hm2 hfit h64
 ·exact pagesB_ h hg hgd hx hm hm1 hm2 hfit h64
theorem qod (l:List UInt8) (np:Nat) (hl:l.length=np * 64) (hn:1<=np):pgs l (np - 1)=l.drop 64:=by
 unfold pgs
 rw [List.take_of_length_le]
 rw [List.length_drop]
 omega
theorem put0_take (l:List UInt8) (x:List UInt8) (hx:x.length<=64):(put l 0 x).take 64=pg x:=by
 unfold put
 have:=qec x hx
 rw [Nat.zero_mul,List.take_zero,List.nil_append,List.take_append_of_le_length (by omega),List.take_of_length_le (by omega)]
theorem put0_drop (l:List UInt8) (x:List UInt8) (hx:x.length<=64):(put l 0 x).drop 64=l.drop 64:=by
 unfold put
 have:=qec x hx
 rw [Nat.zero_mul,List.take_zero,List.nil_append,List.drop_append,List.drop_of_length_le (by omega),this]
 simp
theorem Logd.more {l1:List UInt8} {x:List UInt8} (h:Logd l np rs) (hl:l.length=np * 64) (hl1:l1.length=np * 64) (hn:2<=np) (hx:1<=x.length)
  (ht:l1.take (64+(recs rs).length+(8+x.length))=l.take (64+(recs rs).length)++(le 8 x.length++x)):Logd (put l1 0 (le 8 ((recs rs).length+8+x.length)++le 8 (rs.length+1))) np (rs++[x]):=by
 have hr:recs (rs++[x])=recs rs++(le 8 x.length++x):=by simp [recs,rec1]
 have hz:(recs (rs++[x])).length=(recs rs).length+8+x.length:=by rw [hr];simp [qax];omega
 have hh:(le 8 ((recs rs).length+8+x.length)++le 8 (rs.length+1)).length<=64:=by simp [qax]
 refine ⟨?_,?_,?_⟩
 ·rw [put0_take _ _ hh,hz,List.length_append]
  exact ⟨_,by unfold pg;rw [List.append_assoc];rfl⟩
 ·have hpl:(put l1 0 (le 8 ((recs rs).length+8+x.length)++le 8 (rs.length+1))).length=np * 64:=qmm l1 0 np _ hl1 (by omega) hh
  rw [qod _ np hpl (by omega),put0_drop _ _ hh,hr]
  obtain ⟨j,hj⟩:=h.body
  rw [qod _ np hl (by omega)] at hj
  refine ⟨l1.drop (64+(recs rs).length+(8+x.length)),?_⟩
  have e1:l1=l1.take (64+(recs rs).length+(8+x.length))++l1.drop (64+(recs rs).length+(8+x.length)):=(List.take_append_drop _ _).symm
  have hlz:(recs rs).length+64<=l.length:=by
   have:=congrArg List.length hj
   rw [List.length_drop,List.length_append] at this
   omega
  have e2:(l.take (64+(recs rs).length)).drop 64=recs rs:=by
   rw [List.drop_take,hj]
   simp
  conv=>lhs;rw [e1,ht]
  rw [List.append_assoc,List.drop_append_of_le_length (by rw [List.length_take];omega),e2]
  simp
 ·intro r hr
  rcases List.mem_append.1 hr with hr|hr
  ·exact h.one r hr
  ·rw [List.mem_singleton] at hr
   rw [hr];exact hx
theorem append_ {d:Nat} {x:List UInt8} (h:Dk w d gs gn np l (.slice none 0 0)) (hg:Lg w g d (recs rs).length rs.length) (hgd:g≠d/\g≠gs/\g≠gn) (hl:Logd l np rs)
  (hx:By w A m c x) (hm1:1<=m) (hm2:m<=65536) (hfit:64+(recs rs).length+(8+m)<=np * 64) (hct:rs.length<=900000) :
  Calls Tryz.prog 97 #[.pointer (some ⟨g,0,none⟩),.slice A m c] w fun e w'=>∃ l',e=.returned (.int .i64 0)/\Dk w' d gs gn np l' (.slice none 0 0)/\Logd l' np (rs++[x])/\Lg w' g d (recs (rs++[x])).length (rs++[x]).length/\Frm (fun b=>b=d\/b=gs\/b=gn\/b=g) w w':=by
 have hnp:=h.np
 have hlen:=h.len
 have hdl:=h.lt
 have hgl:=hg.blk.lt
 have HL:=zh (qhv ⟨g,1,none⟩ (recs rs).length w (hg.blk.cell 1))
 have HP:=zh (pages_ h)
 have q:=qdj hg.blk
 have BG:=hg.blk
 obtain ⟨sz,hsz⟩:∃ m,(recs rs).length=m:=⟨_,rfl⟩
 obtain ⟨ct,hctd⟩:∃ m,rs.length=m:=⟨_,rfl⟩
 have hxm:=hx.2
 have HZ:=zh (za hsz (za hctd (za hxm hl)))
 rw [hsz] at q BG HL hfit
 rw [hctd] at q BG hct
 have H:=zh h
 have HX:=zh hx
 clear h hg hx hsz hctd hl
 have d1:decide (65536<(m:Int))=false:=by simp;omega
 have d2:decide (((np:Int) - 1) * 64 - (sz:Int)<(m:Int)+8)=false:=by simp;omega
 have HI:=zh (fun w'=>int_ [] m none 0 0 w' (By.nil _) (by omega) (by omega))
 go_enter Tryz.func97,Tryz.ntmps97
 go_wp2_with (first|(refine HP.out.mono ?_;rintro e w' ⟨rfl,rfl⟩)|(refine HL.out.mono ?_;rintro e w' ⟨rfl,rfl⟩))
 refine (HI.out w).mono ?_
 rintro e w2 ⟨A2,c2,rfl,hown2,hb2⟩
 rw [List.nil_append,qax] at hown2 ⊢
 have HB2:=zh (By.of_own hown2)
 have hbw2:=hb2
 clear hown2 hb2 HP HL q
 go_wp2_with fail
 obtain ⟨W,hW_,hbW,BC⟩:=al1 w2 151 #[.slice A2 8 c2,.slice A m c]
 rw [<-hW_]
 clear hW_
 have hps:=qgy BC (HB2.out.ext hbW) (HX.out.ext (zt hbw2 (zm hbW hbw2.size)))
 have hsm:sumN [Part.mk A2 8 c2 (qaa (le 8 m)),Part.mk A m c (qaa x)]=8+m:=by simp [sumN]
 have hcc:=qdl _ _ 2 W rfl BC.lt hps (by rw [hsm];omega) (by omega)
 rw [hsm] at hcc
 have HCC:=zh hcc
 have hbwW:=zt hbw2 (zm hbW hbw2.size)
 clear hcc hps hsm hbW BC hbw2 HB2
 refine HCC.out.mono ?_
 rintro e w3 ⟨A3,c3,rfl,hown3,hb3⟩
 have hbw3:=zt hbwW (zm hb3 hbwW.size)
 have BG3:=BG.ext hbw3
 have hzW:=hbwW.size
 have hrow3:RowF w3 (fun b=>b≠d/\b≠gs/\b≠gn) A3 (8+m) c3 (qaa (le 8 m++x)):=by
  have h1:=RowF.of_row (F:=fun b=>b≠d/\b≠gs/\b≠gn) (Row.of_own hown3) (fun b h1 _=>⟨by omega,by omega,by omega⟩)
  have e:allC [Part.mk A2 8 c2 (qaa (le 8 m)),Part.mk A m c (qaa x)]=qaa (le 8 m++x):=by simp [allC,qaa]
  rw [e] at h1
  exact h1
 have HLP:=zh (logpages_ (H.out.ext hbw3) ⟨BG3⟩ hgd hrow3 (by rw [List.length_append,qax,HZ.out.2.2.1]) (by omega) (by omega) hfit)
 clear HCC hown3 hb3 hrow3 hbwW BG
 go_wp2_with fail
 refine HLP.out.mono ?_
 rintro e w4 ⟨l1,rfl,hD4,ht4,hf4⟩
 have hfw4:=(Frm.below (G:=fun b=>b=d\/b=gs\/b=gn\/b=g) hbw3).trans (hf4.mono (H:=fun b=>b=d\/b=gs\/b=gn\/b=g) (fun b h=>by omega))
 have BG4:=hf4.blk BG3 (by omega)
 have HH4:=zh (za hD4 ht4)
 have q:=qdj BG4
 have HI2:=zh (int_ [] (sz+8+m) none 0 0 w4 (By.nil _) (by omega) (by omega))
 have hsi:(sz:Int)+8+(m:Int)=((sz+8+m:Nat):Int):=by omega
 have hszb:sz<=262144:=by omega
 have hw1:IntKind.i64.wrap ((sz:Int)+8+(m:Int))=(sz:Int)+8+(m:Int):=IntWalk.i64_in _ ⟨by omega,by omega⟩
 have hw0:IntKind.i64.wrap ((sz:Int)+8)=(sz:Int)+8:=IntWalk.i64_in _ ⟨by omega,by omega⟩
 clear hD4 ht4 hf4 BG3 hbw3 HLP HI
 rw [<-hsi] at HI2
 clear hsi
 go_wp2_with fail
 refine HI2.out.mono ?_
 rintro e w5 ⟨A5,c5,rfl,hown5,hb5⟩
 rw [List.nil_append,qax] at hown5 ⊢
 have HB5:=zh (By.of_own hown5)
 have BG5:=BG4.ext hb5
 have HCt:=zh (count_ (w:=w5) (g:=g) (d:=d) (sz:=sz) (ct:=ct) ⟨BG5⟩)
 have HI3:=zh (int_ (le 8 (sz+8+m)) (ct+1) A5 8 c5 w5 (By.of_own hown5) (by omega) (by omega))
 have hci:(ct:Int)+1=((ct+1:Nat):Int):=by omega
 rw [<-hci] at HI3
 clear hci
 have hfw5:=hfw4.trans (Frm.below hb5)
 have HH5:=zh (za (HH4.out.1.ext hb5) HH4.out.2)
 have HT:=zh HH4.out.2
 have HL1:=zh HH4.out.1.len
 clear HI2 hown5 hb5 q BG4 hfw4 HH4
 go_wp2_with (refine HCt.out.mono ?_;rintro e w' ⟨rfl,rfl⟩)
 refine HI3.out.mono ?_
 rintro e w6 ⟨A6,c6,rfl,hown6,hb6⟩
 rw [List.length_append,qax,qax] at hown6 ⊢
 have BG6:=BG5.ext hb6
 have hfw6:=hfw5.trans (Frm.below hb6)
 have hz6:=hfw6.size
 have HWr:=zh (write_ (HH5.out.1.ext hb6) (World.ownsRow_nil w6 w6.heap.size _ _) ⟨by omega,by omega,by omega⟩ (zl _) (Nat.zero_le _) 0 16 c6 A6 (le 8 (sz+8+m)++le 8 (ct+1)) (by omega) (By.of_own hown6) (by omega) (by omega))
 clear HI3 hown6 hb6 HCt hfw5 BG5 HB5
 go_wp2_with fail
 refine HWr.out.mono ?_
 rintro e w7 ⟨ws7,xs7,rfl,hD7,hO7,hf7⟩
 have BG7:=hf7.blk BG6 (by omega)
 have hfw7:=hfw6.trans (hf7.mono' (H:=fun b=>b=d\/b=gs\/b=gn\/b=g) (fun b hb h=>by omega))
 have q:=qdj BG7
 have HS:=zh (sync_ hD7)
 clear HWr hD7 hO7 hf7 hfw6 BG6 HH5
 go_wp2_with fail
 refine HS.out.mono ?_
 rintro e w8 ⟨rfl,hD8,hf8⟩
 have BG8:=hf8.blk BG7 (by omega)
 have hfw8:=hfw7.trans (hf8.mono (H:=fun b=>b=d\/b=gs\/b=gn\/b=g) (fun b h=>by omega))
 have HSt:=zh (qkt ⟨g,1,none⟩ _ ((sz:Int)+8+(m:Int)) w8 (BG8.cell 1) (BG8.frozen 1))
 have HD8:=zh hD8
 clear HS hD8 hf8 hfw7 BG7 q
 have q:=qdj BG8
 go_wp2_with fail
 refine HSt.out.mono ?_
 rintro e w9 ⟨rfl,rfl⟩
 have BG9:Blk (w8.setCell ⟨g,1,none⟩ (.int .i64 ((sz:Int)+8+(m:Int)))) g 227 #[.pointer (some ⟨d,0,none⟩),.int .i64 ((sz:Int)+8+(m:Int)),.int .i64 ct]:=by
  have:=BG8.set_ 1 (.int .i64 ((sz:Int)+8+(m:Int)))
  simpa using this
 have hg9:=qac w8 g 1 (.int .i64 ((sz:Int)+8+(m:Int)))
 have HD9:=zh (HD8.out.keep (F:=fun b=>b≠g) (Keep.grown hg9 (fun x hx=>by injection hx with hx;simp [hx])) (Ne.symm hgd.1) (Ne.symm hgd.2.1) (Ne.symm hgd.2.2))
 have hfw9:=hfw8.trans (Frm.grown (G:=fun b=>b=d\/b=gs\/b=gn\/b=g) hg9 (fun x hx=>by injection hx with hx;omega))
 generalize w8.setCell ⟨g,1,none⟩ (.int .i64 ((sz:Int)+8+(m:Int)))=w9 at *
 have HAd:=zh (add64_ ⟨g,2,none⟩ ct 1 w9 (BG9.cell 2) (BG9.frozen 2) ⟨by omega,by omega⟩ ⟨by omega,by omega⟩)
 clear HSt hg9 HD8 hfw8 BG8 q
 go_wp2_with fail
 refine HAd.out.mono ?_
 rintro e w10 ⟨rfl,rfl⟩
 have BG10:Blk (w9.setCell ⟨g,2,none⟩ (.int .i64 ((ct:Int)+1))) g 227 #[.pointer (some ⟨d,0,none⟩),.int .i64 ((sz:Int)+8+(m:Int)),.int .i64 ((ct:Int)+1)]:=by
  have:=BG9.set_ 2 (.int .i64 ((ct:Int)+1))
  simpa using this
 have hg10:=qac w9 g 2 (.int .i64 ((ct:Int)+1))
 have HD10:=zh (HD9.out.keep (F:=fun b=>b≠g) (Keep.grown hg10 (fun x hx=>by injection hx with hx;simp [hx])) (Ne.symm hgd.1) (Ne.symm hgd.2.1) (Ne.symm hgd.2.2))
 have hfw10:=hfw9.trans (Frm.grown (G:=fun b=>b=d\/b=gs\/b=gn\/b=g) hg10 (fun x hx=>by injection hx with hx;omega))
 generalize w9.setCell ⟨g,2,none⟩ (.int .i64 ((ct:Int)+1))=w10 at *
 have HF:=zh hfw10
 clear HAd hg10 HD9 hfw9 BG9 hw0 hw1
 go_wp2
 go_ret
 have hrl:(recs (rs++[x])).length=sz+8+m:=by
  have e:recs (rs++[x])=recs rs++(le 8 x.length++x):=by simp [recs,rec1]
  rw [e]
  simp only [List.length_append,qax,HZ.out.1,HZ.out.2.2.1]
  omega
 have hcl:(rs++[x]).length=ct+1:=by rw [List.length_append,HZ.out.2.1];rfl
 have hLg:=Logd.more (x:=x) HZ.out.2.2.2 hlen HL1.out hnp.1 (by rw [HZ.out.2.2.1];exact hm1) (by rw [HZ.out.1,HZ.out.2.2.1];exact HT.out)
 rw [HZ.out.1,HZ.out.2.1,HZ.out.2.2.1] at hLg
 refine ⟨_,rfl,HD10.out,hLg,⟨?_⟩,HF.out⟩
 rw [hrl,hcl]
 have e1:((sz+8+m:Nat):Int)=(sz:Int)+8+(m:Int):=by omega
 have e2:((ct+1:Nat):Int)=(ct:Int)+1:=by omega
 rw [e1,e2]
 exact BG10
def rr (x:Int) (a b:Int):Int:=bits .or .u32 (IntKind.u32.wrap (x * a)) (x / b)
theorem rot2 (x:Int) (w:World):
  Calls Tryz.prog 263 #[.int .u32 x,.int .i64 (-2)] w fun e w'=>e=.returned (.int .u32 (rr x 1073741824 4))/\w=w':=by
 have hb:bits .and .u64 (IntKind.u64.wrap (-2)) 31=30:=by kernel_rfl
 go_enter Tryz.func263,Tryz.ntmps263
 go_wp2
 go_ret
 exact ⟨rfl,rfl⟩
theorem right2 (x:Int) (w:World):
  Calls Tryz.prog 255 #[.int .u32 x,.int .i64 2] w fun e w'=>e=.returned (.int .u32 (rr x 1073741824 4))/\w=w':=by
 go_enter Tryz.func255,Tryz.ntmps255
 go_wp2_with fail
 refine (rot2 x w).mono ?_
 rintro e w' ⟨rfl,rfl⟩
 go_wp2
 go_ret
 exact ⟨rfl,rfl⟩
theorem rot6 (x:Int) (w:World):
  Calls Tryz.prog 263 #[.int .u32 x,.int .i64 (-6)] w fun e w'=>e=.returned (.int .u32 (rr x 67108864 64))/\w=w':=by
 have hb:bits .and .u64 (IntKind.u64.wrap (-6)) 31=26:=by kernel_rfl
 go_enter Tryz.func263,Tryz.ntmps263
 go_wp2
 go_ret
 exact ⟨rfl,rfl⟩
theorem right6 (x:Int) (w:World):
  Calls Tryz.prog 255 #[.int .u32 x,.int .i64 6] w fun e w'=>e=.returned (.int .u32 (rr x 67108864 64))/\w=w':=by
 go_enter Tryz.func255,Tryz.ntmps255
 go_wp2_with fail
 refine (rot6 x w).mono ?_
 rintro e w' ⟨rfl,rfl⟩
 go_wp2
 go_ret
 exact ⟨rfl,rfl⟩
theorem rot7 (x:Int) (w:World):
  Calls Tryz.prog 263 #[.int .u32 x,.int .i64 (-7)] w fun e w'=>e=.returned (.int .u32 (rr x 33554432 128))/\w=w':=by
 have hb:bits .and .u64 (IntKind.u64.wrap (-7)) 31=25:=by kernel_rfl
 go_enter Tryz.func263,Tryz.ntmps263
 go_wp2
 go_ret
 exact ⟨rfl,rfl⟩
theorem right7 (x:Int) (w:World):
  Calls Tryz.prog 255 #[.int .u32 x,.int .i64 7] w fun e w'=>e=.returned (.int .u32 (rr x 33554432 128))/\w=w':=by
 go_enter Tryz.func255,Tryz.ntmps255
 go_wp2_with fail
 refine (rot7 x w).mono ?_
 rintro e w' ⟨rfl,rfl⟩
 go_wp2
 go_ret
 exact ⟨rfl,rfl⟩
theorem rot11 (x:Int) (w:World):
  Calls Tryz.prog 263 #[.int .u32 x,.int .i64 (-11)] w fun e w'=>e=.returned (.int .u32 (rr x 2097152 2048))/\w=w':=by
 have hb:bits .and .u64 (IntKind.u64.wrap (-11)) 31=21:=by kernel_rfl
 go_enter Tryz.func263,Tryz.ntmps263
 go_wp2
 go_ret
 exact ⟨rfl,rfl⟩
theorem right11 (x:Int) (w:World):
  Calls Tryz.prog 255 #[.int .u32 x,.int .i64 11] w fun e w'=>e=.returned (.int .u32 (rr x 2097152 2048))/\w=w':=by
 go_enter Tryz.func255,Tryz.ntmps255
 go_wp2_with fail
 refine (rot11 x w).mono ?_
 rintro e w' ⟨rfl,rfl⟩
 go_wp2
 go_ret
 exact ⟨rfl,rfl⟩
theorem rot13 (x:Int) (w:World):
  Calls Tryz.prog 263 #[.int .u32 x,.int .i64 (-13)] w fun e w'=>e=.returned (.int .u32 (rr x 524288 8192))/\w=w':=by
 have hb:bits .and .u64 (IntKind.u64.wrap (-13)) 31=19:=by kernel_rfl
 go_enter Tryz.func263,Tryz.ntmps263
 go_wp2
 go_ret
 exact ⟨rfl,rfl⟩
theorem right13 (x:Int) (w:World):
  Calls Tryz.prog 255 #[.int .u32 x,.int .i64 13] w fun e w'=>e=.returned (.int .u32 (rr x 524288 8192))/\w=w':=by
 go_enter Tryz.func255,Tryz.ntmps255
 go_wp2_with fail
 refine (rot13 x w).mono ?_
 rintro e w' ⟨rfl,rfl⟩
 go_wp2
 go_ret
 exact ⟨rfl,rfl⟩
theorem rot17 (x:Int) (w:World):
  Calls Tryz.prog 263 #[.int .u32 x,.int .i64 (-17)] w fun e w'=>e=.returned (.int .u32 (rr x 32768 131072))/\w=w':=by
 have hb:bits .and .u64 (IntKind.u64.wrap (-17)) 31=15:=by kernel_rfl
 go_enter Tryz.func263,Tryz.ntmps263
 go_wp2
 go_ret
 exact ⟨rfl,rfl⟩
theorem right17 (x:Int) (w:World):
  Calls Tryz.prog 255 #[.int .u32 x,.int .i64 17] w fun e w'=>e=.returned (.int .u32 (rr x 32768 131072))/\w=w':=by
 go_enter Tryz.func255,Tryz.ntmps255
 go_wp2_with fail
 refine (rot17 x w).mono ?_
 rintro e w' ⟨rfl,rfl⟩
 go_wp2
 go_ret
 exact ⟨rfl,rfl⟩
theorem rot18 (x:Int) (w:World):
  Calls Tryz.prog 263 #[.int .u32 x,.int .i64 (-18)] w fun e w'=>e=.returned (.int .u32 (rr x 16384 262144))/\w=w':=by
 have hb:bits .and .u64 (IntKind.u64.wrap (-18)) 31=14:=by kernel_rfl
 go_enter Tryz.func263,Tryz.ntmps263
 go_wp2
 go_ret
 exact ⟨rfl,rfl⟩
theorem right18 (x:Int) (w:World):
  Calls Tryz.prog 255 #[.int .u32 x,.int .i64 18] w fun e w'=>e=.returned (.int .u32 (rr x 16384 262144))/\w=w':=by
 go_enter Tryz.func255,Tryz.ntmps255
 go_wp2_with fail
 refine (rot18 x w).mono ?_
 rintro e w' ⟨rfl,rfl⟩
 go_wp2
 go_ret
 exact ⟨rfl,rfl⟩
theorem rot19 (x:Int) (w:World):
  Calls Tryz.prog 263 #[.int .u32 x,.int .i64 (-19)] w fun e w'=>e=.returned (.int .u32 (rr x 8192 524288))/\w=w':=by
 have hb:bits .and .u64 (IntKind.u64.wrap (-19)) 31=13:=by kernel_rfl
 go_enter Tryz.func263,Tryz.ntmps263
 go_wp2
 go_ret
 exact ⟨rfl,rfl⟩
theorem right19 (x:Int) (w:World):
  Calls Tryz.prog 255 #[.int .u32 x,.int .i64 19] w fun e w'=>e=.returned (.int .u32 (rr x 8192 524288))/\w=w':=by
 go_enter Tryz.func255,Tryz.ntmps255
 go_wp2_with fail
 refine (rot19 x w).mono ?_
 rintro e w' ⟨rfl,rfl⟩
 go_wp2
 go_ret
 exact ⟨rfl,rfl⟩
theorem rot22 (x:Int) (w:World):
  Calls Tryz.prog 263 #[.int .u32 x,.int .i64 (-22)] w fun e w'=>e=.returned (.int .u32 (rr x 1024 4194304))/\w=w':=by
 have hb:bits .and .u64 (IntKind.u64.wrap (-22)) 31=10:=by kernel_rfl
 go_enter Tryz.func263,Tryz.ntmps263
 go_wp2
 go_ret
 exact ⟨rfl,rfl⟩
theorem right22 (x:Int) (w:World):
  Calls Tryz.prog 255 #[.int .u32 x,.int .i64 22] w fun e w'=>e=.returned (.int .u32 (rr x 1024 4194304))/\w=w':=by
 go_enter Tryz.func255,Tryz.ntmps255
 go_wp2_with fail
 refine (rot22 x w).mono ?_
 rintro e w' ⟨rfl,rfl⟩
 go_wp2
 go_ret
 exact ⟨rfl,rfl⟩
theorem rot25 (x:Int) (w:World):
  Calls Tryz.prog 263 #[.int .u32 x,.int .i64 (-25)] w fun e w'=>e=.returned (.int .u32 (rr x 128 33554432))/\w=w':=by
 have hb:bits .and .u64 (IntKind.u64.wrap (-25)) 31=7:=by kernel_rfl
 go_enter Tryz.func263,Tryz.ntmps263
 go_wp2
 go_ret
 exact ⟨rfl,rfl⟩
theorem right25 (x:Int) (w:World):
  Calls Tryz.prog 255 #[.int .u32 x,.int .i64 25] w fun e w'=>e=.returned (.int .u32 (rr x 128 33554432))/\w=w':=by
 go_enter Tryz.func255,Tryz.ntmps255
 go_wp2_with fail
 refine (rot25 x w).mono ?_
 rintro e w' ⟨rfl,rfl⟩
 go_wp2
 go_ret
 exact ⟨rfl,rfl⟩
def qag (l:List Int):List Value:=l.map (Value.int .u32)
theorem lenW (l:List Int):(qag l).length=l.length:=by simp [qag]
theorem oneW (l:List Int):∀ u∈qag l,u.oneCell'=true:=fun u hu=>by
 simp only [qag,List.mem_map] at hu
 obtain ⟨b,_,rfl⟩:=hu
 rfl
def z64:List Int:=List.replicate 64 0
theorem qcj:z64.length=64:=rfl
def keysL:List Int:=[1116352408,1899447441,3049323471,3921009573,961987163,1508970993,2453635748,2870763221,3624381080,310598401,607225278,1426881987,1925078388,2162078206,2614888103,3248222580,3835390401,4022224774,264347078,604807628,770255983,1249150122,1555081692,1996064986,2554220882,2821834349,2952996808,3210313671,3336571891,3584528711,113926993,338241895,666307205,773529912,1294757372,1396182291,1695183700,1986661051,2177026350,2456956037,2730485921,2820302411,3259730800,3345764771,3516065817,3600352804,4094571909,275423344,430227734,506948616,659060556,883997877,958139571,1322822218,1537002063,1747873779,1955562222,2024104815,2227730452,2361852424,2428436474,2756734187,3204031479,3329325298]
theorem qfq:keysL.length=64:=rfl
def qhl:List Int:=[1779033703,3144134277,1013904242,2773480762,1359893119,2600822924,528734635,1541459225]
theorem zero64 (w:World):(zeroValue 397).run Tryz.prog w=.ok (.agg (qag z64).toArray) w:=by kernel_rfl
theorem qjw (l:List Int) (h:l.length=64):(Tryz.prog.info? 397).map (·.size)=some (qag l).length:=by rw [lenW,h];kernel_rfl
theorem qii (l:List Int) (h:l.length=8):(Tryz.prog.info? 388).map (·.size)=some (qag l).length:=by rw [lenW,h];kernel_rfl
theorem keys_ (w:World):Calls Tryz.prog 254 #[] w fun e w'=>e=.returned (.agg (qag keysL).toArray)/\Below w.heap.size w w':=by
 have hz:=zero64
 go_enter Tryz.func254,Tryz.ntmps254
 go_upto_region 1 with fail
 obtain ⟨W,hW_,hbW,B⟩:=al1 w 397 ((qag z64).toArray)
 rw [<-hW_]
 clear hW_
 clear hz
 have hth:=Blk.there (o:=0) (n:=64) B (by rw [lenW,qcj];omega)
 go_wp2_with (first|((with_reducible refine sT 1 ?_);(refine wpList_buildFlatArr rfl 397 100 64 _ rfl .u32 keysL Tryz.underlying397 (by kernel_rfl) (by kernel_rfl) rfl ?_)) |
  ((with_reducible show wpList _ _ _ (Oper.mk none _ _ _ _ _::_) _ _);(refine wpList_store_mid rfl 397 _ _ rfl w.heap.size 0 (qag keysL).toArray rfl rfl ?s1 ?s2 (all_oneCell_toArray (oneW _)) ?_)))
 case s1=>exact (show (qag keysL).toArray.size=64 by simp [lenW,qfq]) ▸ hth
 case s2=>exact (show (qag keysL).toArray.size=(qag keysL).length by simp) ▸ qjw _ qfq
 obtain ⟨B2,hg2⟩:=Blk.lay (qag keysL) 0 B (by rw [lenW,lenW,qcj,qfq];omega)
 rw [qai _ _ (by rw [lenW,lenW,qcj,qfq])] at B2
 have hbw:=(hbW.gw hg2)
 generalize W.setCells w.heap.size 0 (qag keysL)=W2 at *
 clear hth B hg2
 go_wp2
 exact bodyPost_ret (v:=.agg (qag keysL).toArray) (results_cell_row rfl _ _ w.heap.size _ _ (0,0) _ rfl B2 Tryz.underlying397 rfl (by rw [List.size_toArray];exact qjw _ qfq)) rfl ⟨rfl,hbw⟩
theorem begun_ (w:World):Calls Tryz.prog 242 #[] w fun e w'=>e=.returned (.agg (qag qhl).toArray)/\Below w.heap.size w w':=by
 go_enter Tryz.func242,Tryz.ntmps242
 go_wp2
 have B:=Blk.new w 388 (qag qhl).toArray
 exact bodyPost_ret (v:=.agg (qag qhl).toArray) (results_cell_row rfl _ _ w.heap.size _ _ (0,0) _ rfl B Tryz.underlying388 rfl (by rw [List.size_toArray];exact qii _ rfl)) rfl ⟨rfl,(zb _ _).alloc (zl _) _⟩
def byI (b:List UInt8) (i:Nat):Int:=((b.getD i 0).toNat:Int)
def woI (l:List Int) (i:Nat):Int:=l.getD i 0
def be4 (b:List UInt8) (i:Nat):Int :=
 bits .or .u32 (bits .or .u32 (bits .or .u32 (IntKind.u32.wrap (IntKind.u32.wrap (byI b (4 * i)) * 16777216)) (IntKind.u32.wrap (IntKind.u32.wrap (byI b (4 * i+1)) * 65536))) (IntKind.u32.wrap (IntKind.u32.wrap (byI b (4 * i+2)) * 256))) (IntKind.u32.wrap (byI b (4 * i+3)))
def mix (l:List Int) (i:Nat):Int :=
 IntKind.u32.wrap (IntKind.u32.wrap (IntKind.u32.wrap (woI l (i - 16)+bits .xor .u32 (bits .xor .u32 (rr (woI l (i - 15)) 33554432 128) (rr (woI l (i - 15)) 16384 262144)) (woI l (i - 15) / 8))+woI l (i - 7))+bits .xor .u32 (bits .xor .u32 (rr (woI l (i - 2)) 32768 131072) (rr (woI l (i - 2)) 8192 524288)) (woI l (i - 2) / 1024))
def sp (b:List UInt8):Nat->List Int
 | 0=>z64
 | i+1=>(sp b i).set i (if i<16 then be4 b i else mix (sp b i) i)
theorem qeq (b:List UInt8):∀ i,(sp b i).length=64
 | 0=>qcj
 | i+1=>by unfold sp;rw [List.length_set];exact qeq b i
theorem qkj (h:By w (some ⟨b,off,none⟩) n c l) (i:Nat) (hi:i<n):w.cell? ⟨b,off+i,none⟩=some (.int .u8 (byI l i)):=by
 have hl:i<l.length:=by rw [h.2];exact hi
 refine h.1.at_ ?_
 simp only [qaa,List.getElem?_map,List.getElem?_eq_getElem hl,Option.map_some,byI,List.getD_eq_getElem?_getD,Option.getD_some]
theorem qar {t:TypeId} {l:List Int} (h:Blk w g t (qag l).toArray) (i:Nat) (hi:i<l.length):w.cell? ⟨g,i,none⟩=some (.int .u32 (woI l i)):=by
 rw [h.cell]
 simp only [qag,List.getElem?_toArray,List.getElem?_map,List.getElem?_eq_getElem hi,Option.map_some,woI,List.getD_eq_getElem?_getD,Option.getD_some]
theorem Blk.setW {t:TypeId} {l:List Int} (h:Blk w g t (qag l).toArray) (i:Nat) (x:Int):Blk (w.setCell ⟨g,i,none⟩ (.int .u32 x)) g t (qag (l.set i x)).toArray:=by
 have:=h.set_ i (.int .u32 x)
 have e:(qag l).toArray.setIfInBounds i (.int .u32 x)=(qag (l.set i x)).toArray:=by simp [qag]
 rwa [e] at this
theorem spread_ (w:World) (A:Option Addr) (c:Nat) (b:List UInt8) (hB:By w A 64 c b):Calls Tryz.prog 253 #[.slice A 64 c] w fun e w'=>e=.returned (.agg (qag (sp b 64)).toArray)/\Below w.heap.size w w':=by
 obtain ⟨b0,off,rfl,_,_,hb0⟩:=hB.1.some_ (by omega)
 have HB:=zh hB
 clear hB
 have hz:=zero64
 go_enter Tryz.func253,Tryz.ntmps253
 go_upto_region 2 with fail
 obtain ⟨W,hW_,hbW,B2,B3⟩:=al2 w 397 397 ((qag z64).toArray) ((qag z64).toArray)
 rw [<-hW_]
 clear hW_
 clear hz
 obtain ⟨g3,hg3⟩:∃ g,w.heap.size+1=g:=⟨_,rfl⟩
 have hg3n:w.heap.size≠g3:=by omega
 have hbg3:b0<g3:=by omega
 have hg3w:w.heap.size<=g3:=by omega
 rw [hg3] at B3 ⊢
 clear hg3
 go_wp2_with fail
 go_loopw [8] (fun i wr=>∃ k:Nat,i=.int .i64 k/\k<=16/\Blk wr w.heap.size 397 (qag z64).toArray/\Blk wr g3 397 (qag (sp b k)).toArray/\Below w.heap.size w wr) (fun i _=>16 - (intOf i).toNat)
 case atStart=>exact ⟨0,rfl,by omega,B2,B3,hbW⟩
 case round =>
  clear B2 B3 hbW
  obtain ⟨k,rfl,hk,B2,B3,hbw⟩:=hrel
  rcases Nat.lt_or_ge k 16 with hlt|hge
  ·have hd:decide ((k:Int)<16)=true:=by simp;omega
   have hk16:(k:Int)<16:=by omega
   have hk64:(k:Int)<64:=by omega
   have hw0:IntKind.i64.wrap (4 * (k:Int))=4 * (k:Int):=IntWalk.i64_in _ ⟨by omega,by omega⟩
   have hw1:IntKind.i64.wrap (4 * (k:Int)+1)=4 * (k:Int)+1:=IntWalk.i64_in _ ⟨by omega,by omega⟩
   have hw2:IntKind.i64.wrap (4 * (k:Int)+2)=4 * (k:Int)+2:=IntWalk.i64_in _ ⟨by omega,by omega⟩
   have hw3:IntKind.i64.wrap (4 * (k:Int)+3)=4 * (k:Int)+3:=IntWalk.i64_in _ ⟨by omega,by omega⟩
   have hn0:(0:Int)<=4 * (k:Int):=by omega
   have hn1:(0:Int)<=4 * (k:Int)+1:=by omega
   have hn2:(0:Int)<=4 * (k:Int)+2:=by omega
   have hn3:(0:Int)<=4 * (k:Int)+3:=by omega
   have hl0:4 * (k:Int)<64:=by omega
   have hl1:4 * (k:Int)+1<64:=by omega
   have hl2:4 * (k:Int)+2<64:=by omega
   have hl3:4 * (k:Int)+3<64:=by omega
   have ht0:(4 * (k:Int)).toNat=4 * k:=by omega
   have ht1:(4 * (k:Int)+1).toNat=4 * k+1:=by omega
   have ht2:(4 * (k:Int)+2).toNat=4 * k+2:=by omega
   have ht3:(4 * (k:Int)+3).toNat=4 * k+3:=by omega
   go_wp2_with fail
   have D:∀ w',Below wr.heap.size wr.drew w'->w'.cell? ⟨b0,off+4 * k,none⟩=some (.int .u8 (byI b (4 * k)))/\w'.cell? ⟨b0,off+(4 * k+1),none⟩=some (.int .u8 (byI b (4 * k+1)))/\w'.cell? ⟨b0,off+(4 * k+2),none⟩=some (.int .u8 (byI b (4 * k+2)))/\w'.cell? ⟨b0,off+(4 * k+3),none⟩=some (.int .u8 (byI b (4 * k+3))):=fun w' h=>by
    have hB:=(HB.out.ext hbw).ext (zt (zb _ _).drew h)
    exact ⟨qkj hB _ (by omega),qkj hB _ (by omega),qkj hB _ (by omega),qkj hB _ (by omega)⟩
   refine r3 (S:=fun w'=>Below wr.heap.size wr.drew w') [(0,true),(1,true),(2,true),(3,true),(4,true),(5,true),(6,true),(7,true),(8,true),(9,true),(10,true),(11,true),(12,true),(13,true),(14,true),(15,true),(16,true),(17,true),(18,true),(19,true),(20,true),(21,true),(22,true),(23,true),(24,true),(25,true),(26,true),(27,true),(28,true),(29,true),(30,true),(31,true),(32,true),(33,true),(34,true)] [(35,false)] (zb _ _) ?_
   repeat ((first|refine pT ?_|refine pF ?_);try go_frame)
   refine qak ?_
   clear D hw0 hw1 hw2 hw3 hn0 hn1 hn2 hn3 hl0 hl1 hl2 hl3 ht0 ht1 ht2 ht3
   have q:=qar (Blk.drew B3) k (by rw [qeq];omega)
   have f:=(Blk.drew B3).frozen k
   refine pD fun K hK=>?_;go_simp
   clear q f
   have B3':=Blk.setW (Blk.drew B3) k (be4 b k)
   have e:(sp b k).set k (be4 b k)=sp b (k+1):=by
    conv=>rhs;unfold sp
    rw [if_pos hlt]
   rw [e] at B3'
   have hg4:=qac wr.drew g3 k (.int .u32 (be4 b k))
   have B2':=Blk.keep (F:=fun b=>b≠g3) (Blk.drew B2) (Keep.grown hg4 (fun g hg=>by injection hg with hg;simp [hg])) hg3n
   have hbw4:=(hbw.drew).grown hg4 hbw.size (fun k hk=>by injection hk with hk;omega)
   have HX:=zh (za B2' (za B3' hbw4))
   unfold be4 at HX
   clear B2' B3' hg4 hbw4 e
   refine hK.out _ _ trivial (qad ?_)
   clear hK K
   go_wp2
   go_roundw
   case rel=>exact ⟨k+1,by go_num,by omega,HX.out⟩
   case measure=>simp [intOf];omega
  ·obtain rfl:k=16:=by omega
   have hd:decide (((16:Nat):Int)<16)=false:=by decide
   go_wp2_with fail
   have e16:((16:Nat):Int)=16:=rfl
   rw [e16]
   clear e16
   go_loopw [5] (fun i wr=>∃ k:Nat,i=.int .i64 k/\16<=k/\k<=64/\Blk wr w.heap.size 397 (qag z64).toArray/\Blk wr g3 397 (qag (sp b k)).toArray/\Below w.heap.size w wr) (fun i _=>64 - (intOf i).toNat)
   case atStart=>exact ⟨16,rfl,by omega,by omega,B2,B3,hbw⟩
   case round =>
    clear B2 B3 hbw
    obtain ⟨k,rfl,hk16,hk,B2,B3,hbw⟩:=hrel
    rcases Nat.lt_or_ge k 64 with hlt|hge
    ·have hd:decide ((k:Int)<64)=true:=by simp;omega
     have hk64:(k:Int)<64:=by omega
     have hw15:IntKind.i64.wrap ((k:Int) - 15)=(k:Int) - 15:=IntWalk.i64_in _ ⟨by omega,by omega⟩
     have hw16:IntKind.i64.wrap ((k:Int) - 16)=(k:Int) - 16:=IntWalk.i64_in _ ⟨by omega,by omega⟩
     have hw7:IntKind.i64.wrap ((k:Int) - 7)=(k:Int) - 7:=IntWalk.i64_in _ ⟨by omega,by omega⟩
     have hw2:IntKind.i64.wrap ((k:Int) - 2)=(k:Int) - 2:=IntWalk.i64_in _ ⟨by omega,by omega⟩
     have hn15:(15:Int)<=(k:Int):=by omega
     have hn16:(16:Int)<=(k:Int):=by omega
     have hn7:(7:Int)<=(k:Int):=by omega
     have hn2:(2:Int)<=(k:Int):=by omega
     have hl15:(k:Int) - 15<64:=by omega
     have hl16:(k:Int) - 16<64:=by omega
     have hl7:(k:Int) - 7<64:=by omega
     have hl2:(k:Int) - 2<64:=by omega
     have ht15:((k:Int) - 15).toNat=k - 15:=by omega
     have ht16:((k:Int) - 16).toNat=k - 16:=by omega
     have ht7:((k:Int) - 7).toNat=k - 7:=by omega
     have ht2:((k:Int) - 2).toNat=k - 2:=by omega
     have D:∀ w',Below wr.heap.size wr.drew w'->w'.cell? ⟨g3,k - 15,none⟩=some (.int .u32 (woI (sp b k) (k - 15)))/\w'.cell? ⟨g3,k - 2,none⟩=some (.int .u32 (woI (sp b k) (k - 2))):=fun w' h=>by
      have hB:=B3.ext (zt (zb _ _).drew h)
      exact ⟨qar hB _ (by rw [qeq];omega),qar hB _ (by rw [qeq];omega)⟩
     go_wp2_with fail
     refine r1 [(0,true),(1,true),(2,true),(3,true),(4,true),(5,true),(6,true),(7,true),(8,true),(9,true)] ?_
     repeat ((first|refine pT ?_|refine pF ?_);try go_frame)
     refine qad ?_
     clear D
     have B2:=Blk.drew B2
     have B3:=Blk.drew B3
     have hbw:=hbw.drew
     generalize wr.drew=wr at *
     have D:∀ w',Below wr.heap.size wr.drew w'->w'.cell? ⟨g3,k - 16,none⟩=some (.int .u32 (woI (sp b k) (k - 16)))/\w'.cell? ⟨g3,k - 7,none⟩=some (.int .u32 (woI (sp b k) (k - 7))):=fun w' h=>by
      have hB:=B3.ext (zt (zb _ _).drew h)
      exact ⟨qar hB _ (by rw [qeq];omega),qar hB _ (by rw [qeq];omega)⟩
     go_wp2_with fail
     refine r3 (S:=fun w'=>Below wr.heap.size wr.drew w') [(0,true),(1,true),(2,true),(3,true),(4,true),(5,true),(7,true),(10,true),(11,true),(14,true),(15,true),(16,true),(17,true),(19,true),(21,true),(24,true),(25,true),(6,false),(8,false),(9,true),(12,true),(13,true),(18,true),(20,false),(22,false),(23,true),(26,true),(27,true),(28,true)] [(29,false)] (zb _ _) ?_
     repeat ((first|refine pT ?_|refine pF ?_);try go_frame)
     refine pD fun K hK=>?_;go_simp
     refine (right7 _ _).mono ?_
     rintro e w' ⟨rfl,rfl⟩
     refine hK.out _ _ (zb _ _) ?_
     clear hK K
     refine pD fun K hK=>?_;go_simp
     refine (right18 _ _).mono ?_
     rintro e w' ⟨rfl,rfl⟩
     refine hK.out _ _ (zb _ _) ?_
     clear hK K
     repeat ((first|refine pT ?_|refine pF ?_);try go_frame)
     refine pD fun K hK=>?_;go_simp
     refine (right17 _ _).mono ?_
     rintro e w' ⟨rfl,rfl⟩
     refine hK.out _ _ (zb _ _) ?_
     clear hK K
     refine pD fun K hK=>?_;go_simp
     refine (right19 _ _).mono ?_
     rintro e w' ⟨rfl,rfl⟩
     refine hK.out _ _ (zb _ _) ?_
     clear hK K
     repeat ((first|refine pT ?_|refine pF ?_);try go_frame)
     refine qak ?_
     clear D
     have q:=qar (Blk.drew B3) k (by rw [qeq];omega)
     have f:=(Blk.drew B3).frozen k
     refine pD fun K hK=>?_;go_simp
     clear q f
     have B3':=Blk.setW (Blk.drew B3) k (mix (sp b k) k)
     have e:(sp b k).set k (mix (sp b k) k)=sp b (k+1):=by
      conv=>rhs;unfold sp
      rw [if_neg (by omega)]
     rw [e] at B3'
     have hg4:=qac wr.drew g3 k (.int .u32 (mix (sp b k) k))
     have B2':=Blk.keep (F:=fun b=>b≠g3) (Blk.drew B2) (Keep.grown hg4 (fun g hg=>by injection hg with hg;simp [hg])) hg3n
     have hbw4:=(hbw.drew).grown hg4 hbw.size (fun k hk=>by injection hk with hk;omega)
     have HX:=zh (za B2' (za B3' hbw4))
     unfold mix at HX
     clear B2' B3' hg4 hbw4 e
     refine hK.out _ _ trivial (qad ?_)
     clear hK K
     go_wp2
     go_roundw
     case rel=>exact ⟨k+1,by go_num,by omega,by omega,HX.out⟩
     case measure=>simp [intOf];omega
    ·obtain rfl:k=64:=by omega
     have hd:decide (((64:Nat):Int)<64)=false:=by decide
     obtain ⟨S,hS⟩:∃ S,sp b 64=S:=⟨_,rfl⟩
     have hSl:S.length=64:=by rw [<-hS];exact qeq b 64
     have HS:=zh hS
     rw [hS] at B3
     clear hS
     have hsz:=qjw S hSl
     have hth:=Blk.there (o:=0) (n:=64) B2 (by rw [lenW,qcj];omega)
     go_wp2_with (first|((with_reducible refine sT 88 ?_);(refine wpList_load_mid rfl 397 _ rfl g3 0 rfl (qag S) _ (Blk.whole B3) Tryz.underlying397 rfl hsz ?_)) |
      ((with_reducible show wpList _ _ _ (Oper.mk none _ _ _ _ _::_) _ _);(refine wpList_store_mid rfl 397 _ _ rfl w.heap.size 0 (qag S).toArray rfl rfl ?s1 ?s2 (all_oneCell_toArray (oneW _)) ?_)))
     case s1=>exact (show (qag S).toArray.size=64 by simp [lenW,hSl]) ▸ hth
     case s2=>exact (show (qag S).toArray.size=(qag S).length by simp) ▸ hsz
     obtain ⟨B4,hg4⟩:=Blk.lay (qag S) 0 B2 (by rw [lenW,lenW,qcj,hSl];omega)
     rw [qai _ _ (by rw [lenW,lenW,qcj,hSl])] at B4
     have hbw4:=(hbw.gw hg4)
     generalize wr.setCells w.heap.size 0 (qag S)=W4 at *
     clear hth B2 B3 hg4
     go_wp2
     exact bodyPost_ret (v:=.agg (qag S).toArray) (results_cell_row rfl _ _ w.heap.size _ _ (0,0) _ rfl B4 Tryz.underlying397 rfl (by rw [List.size_toArray];exact hsz)) rfl ⟨by rw [HS.out],hbw4⟩
attribute [irreducible] sp
end Go.Proofs.YtdjbpcnhnkemiaaGreat.tp
