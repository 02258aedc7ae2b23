/- Laws of its own that the claim's proof needs; no condition beyond those that each states. -/
import Derived.Test.YtdjbpcnhnkemiaaGreatRows
import Derived.WalkKit
import Derived.ProofKit
import Derived.OpenShut
import Derived.Lib.Bytealg
import Derived.Lib.Hide
import Derived.Deep.RegionHeld3
import Derived.Lib.SmallJoins
import Derived.JoinedCond
import Derived.ChangeSame
import Derived.Maps.RangeWalk
import Derived.Tactics
import Derived.Tactics2
import Derived.RegionTactic
import Derived.RegionCalls
import Derived.OwnWalk
import Derived.Lib.SliceRun
import Derived.WalkSpells
import Derived.ArgAppend
import Derived.Laws.Append
import Derived.Laws.AppendOwn
import Derived.Laws.IdiomCopy
import Derived.Lib.AppendZeros
import Derived.Defers
import Derived.Laws.Pointers
import Derived.Laws.LoneSync
import Derived.ChangeAlike
import Derived.Laws.AppendOwnNone
import Derived.Deep.AppendSrc
import Derived.Laws.IdiomStrings
import Derived.Laws.BytesString
import Derived.Laws.Cells
import Derived.Deep.MidRow
import Derived.Deep.CutRange
import Derived.Laws.MakeOwn
set_option linter.unusedVariables false
set_option maxRecDepth 1000000
set_option maxHeartbeats 16000000
namespace Go.Proofs.YtdjbpcnhnkemiaaGreat.lib
open Go.ChangeShapes Go.WideShapes Go.ChangeAt Go.RowKit
theorem qcp {k:IntKind} {a b:Int} (h:a=b):Ending.returned (.int k a)=.returned (.int k b):=by rw [h]
theorem ret_bool {a b:Bool} (h:a=b):Ending.returned (.bool a)=.returned (.bool b):=by rw [h]
section
variable {P:Program} {ops:Array Oper} {Q:Exit→Act→World→Prop} {md:Region.Mode} {S:World→Prop}
def qcs (md:Region.Mode) (ops:Array Oper):List (Nat × Bool)→Array Bool→Bool
 | [],listed=>(Region.ready md ops listed).isEmpty
 | (i,true)::r,listed=>(Region.ready md ops listed).contains i && Region.free md ops listed i && qcs md ops r (listed.setIfInBounds i true)
 | (i,false)::r,listed=>(match Region.ready md ops listed with | [j]=>j == i|_=>false) && qcs md ops r (listed.setIfInBounds i true)
def qam (P:Program) (ops:Array Oper) (Q:Exit→Act→World→Prop) (S:World→Prop):List (Nat × Bool)→Act→World→Prop
 | [],a,w=>Q .normal a w
 | (i,true)::r,a,w=>∃ o v,ops[i]? = some o∧YieldsIf P ops S o v a∧qam P ops Q S r (a.put o.dst v) w
 | (i,false)::r,a,w=>wpOp P ops Q i (fun a' w'=>S w'∧qam P ops Q S r a' w') a w
theorem qbx (hs:Region.noSelect ops=true) (hQ:∀ c a d v w,Q (.panic c) (a.put d v) w→Q (.panic c) a w) :
  ∀ (l:List (Nat × Bool)) (fuel:Nat) (listed:Array Bool) (a:Act) (w:World),qcs md ops l listed=true→l.length≤fuel→S w→qam P ops Q S l a w→wpAnyH P md ops Q S fuel listed a w
 | [],fuel,listed,a,w,hp,_,_,h=>wpAnyH_done (by simpa [qcs] using hp) h fuel
 | (i,true)::r,0,listed,a,w,_,hf,_,_=>absurd hf (by simp)
 | (i,false)::r,0,listed,a,w,_,hf,_,_=>absurd hf (by simp)
 | (i,true)::r,fuel+1,listed,a,w,hp,hf,hS,h=>by
  simp only [qcs,Bool.and_eq_true] at hp
  obtain ⟨⟨h1,h2⟩,h3⟩:=hp
  obtain ⟨o,v,ho,hy,hr⟩:=h
  exact wpAnyH_take ho hs h2 h1 (fun c a w=>hQ c a _ _ w) hy hS (qbx hs hQ r fuel _ _ _ h3 (by simp at hf;omega) hS hr)
 | (i,false)::r,fuel+1,listed,a,w,hp,hf,hS,h=>by
  simp only [qcs,Bool.and_eq_true] at hp
  obtain ⟨h1,h3⟩:=hp
  have hr:Region.ready md ops listed=[i]:=by
   revert h1
   match Region.ready md ops listed with
   | []=>simp
   | [j]=>simp
   | _::_::_=>simp
  refine wpAnyH_all hr (by simp) ?_
  intro j hj
  have hj:j=i:=by simpa using hj
  subst hj
  exact wpOp_mono (fun a' w' h'=>⟨h'.1,qbx hs hQ r fuel _ a' w' h3 (by simp at hf;omega) h'.1 h'.2⟩) h
theorem qhx {id:Nat} {a:Act} {w:World} (l:List (Nat × Bool)) (hm:P.follows .mixedOrders=true) (hs:Region.noSelect ops=true)
  (hp:qcs .any ops l (Array.replicate ops.size false)=true) (hl:l.length≤ops.size) (hQ:∀ c a d v w,Q (.panic c) (a.put d v) w→Q (.panic c) a w)
  (hS:S w.drew) (h:qam P ops Q S l a w.drew):(Code.region id ops true).wp P Q a w :=
 wp_region_held_drew (S:=S) hm hS (fun _=>qbx hs hQ l ops.size _ a _ hp hl hS h)
theorem qqo {i:Nat} {r:List (Nat × Bool)} {a:Act} {w:World} {o:Oper} {d:Tmp} (ho:ops[i]? = some o) (hd:o.dst=some d) (hw:Region.wanted o (yielded ops a.tmps)=false)
  (h:qam P ops Q S r { a with tmps:=a.tmps.setIfInBounds d undef } w):qam P ops Q S ((i,true)::r) a w :=
 ⟨o,undef,ho,.inr ⟨hw,rfl⟩,by rw [hd];exact h⟩
theorem qas {i:Nat} {r:List (Nat × Bool)} {a:Act} {w:World} {o:Oper} {v:Value} {d:Tmp} (ho:ops[i]? = some o) (hd:o.dst=some d) (hw:Region.wanted o (yielded ops a.tmps)=true)
  (hy:∀ w,S w→(execOp a.eval o).run P w=.ok (.value v) w)
  (h:qam P ops Q S r { a with tmps:=a.tmps.setIfInBounds d v } w):qam P ops Q S ((i,true)::r) a w :=
 ⟨o,v,ho,.inl ⟨hw,hy⟩,by rw [hd];exact h⟩
theorem qaj {i:Nat} {r:List (Nat × Bool)} {a:Act} {w:World} {o:Oper} (ho:ops[i]? = some o) (hw:Region.wanted o (yielded ops a.tmps)=true)
  (h:∀ K:Act→World→Prop,Shut (∀ a w,S w→qam P ops Q S r a w→K a w)→Oper.wp P o a w K Q):qam P ops Q S ((i,false)::r) a w:=by
 have:=wpOp_step (P:=P) (ops:=ops) (Q:=Q) (a:=a) (w:=w) (K:=fun a' w'=>S w'∧qam P ops Q S r a' w') ho (fun K hK=>by
  rw [if_pos hw]
  exact h K (fun a w hs hr=>hK a w ⟨hs,hr⟩))
 exact this
theorem wpPerm_no {i:Nat} {r:List (Nat × Bool)} {a:Act} {w:World} {o:Oper} (ho:ops[i]? = some o) (hw:Region.wanted o (yielded ops a.tmps)=false) (hS:S w)
  (h:qam P ops Q S r (a.put o.dst undef) w):qam P ops Q S ((i,false)::r) a w:=by
 show wpOp P ops Q i (fun a' w'=>S w'∧qam P ops Q S r a' w') a w
 unfold wpOp
 simp only [ho,hw]
 exact ⟨hS,h⟩
structure Alc where
 j:Nat
 d:Tmp
 val:Nat→Value
 o:Obj
def upd (γ:Nat→Option Nat) (j g:Nat):Nat→Option Nat:=fun k=>if k=j then some g else γ k
def qbb (γ:Nat→Option Nat) (a:Act):List Alc→Act
 | []=>a
 | x::A=>match γ x.j with
  | some g=>(qbb γ a A).put (some x.d) (x.val g)
  | none=>qbb γ a A
def qau (γ:Nat→Option Nat) (l:Array Bool):List Alc→Array Bool
 | []=>l
 | x::A=>match γ x.j with
  | some _=>(qau γ l A).setIfInBounds x.j true
  | none=>qau γ l A
theorem qdb {γ:Nat→Option Nat} (a:Act) (dst:Option Tmp) (v:Value):∀ (A:List Alc),(∀ x∈A,dst≠some x.d)→qbb γ (a.put dst v) A=(qbb γ a A).put dst v
 | [],_=>rfl
 | x::A,h=>by
  have ih:=qdb (γ:=γ) a dst v A (fun y hy=>h y (List.mem_cons_of_mem _ hy))
  unfold qbb
  cases γ x.j with
  | none=>exact ih
  | some g =>
   simp only [ih]
   exact Act.put_comm _ v _ (fun d hd hx=>by injection hx with hx;exact h x (List.mem_cons_self ..) (by rw [hd,hx]))
theorem qjn {γ:Nat→Option Nat} (a:Act) (d:Deferred):∀ (A:List Alc),qbb γ { a with defers:=d::a.defers } A = { qbb γ a A with defers:=d::(qbb γ a A).defers }
 | []=>rfl
 | x::A=>by
  have ih:=qjn (γ:=γ) a d A
  unfold qbb
  cases γ x.j with
  | none=>exact ih
  | some g=>simp only [ih];rfl
theorem qiy {γ:Nat→Option Nat} (a:Act) (j g:Nat):∀ (A:List Alc),(∀ x∈A,x.j≠j)→qbb (upd γ j g) a A=qbb γ a A
 | [],_=>rfl
 | x::A,h=>by
  have ih:=qiy (γ:=γ) a j g A (fun y hy=>h y (List.mem_cons_of_mem _ hy))
  have hx:upd γ j g x.j=γ x.j:=by unfold upd;rw [if_neg (h x (List.mem_cons_self ..))]
  unfold qbb
  rw [hx,ih]
theorem qhk {γ:Nat→Option Nat} (l:Array Bool) (j g:Nat):∀ (A:List Alc),(∀ x∈A,x.j≠j)→qau (upd γ j g) l A=qau γ l A
 | [],_=>rfl
 | x::A,h=>by
  have ih:=qhk (γ:=γ) l j g A (fun y hy=>h y (List.mem_cons_of_mem _ hy))
  have hx:upd γ j g x.j=γ x.j:=by unfold upd;rw [if_neg (h x (List.mem_cons_self ..))]
  unfold qau
  rw [hx,ih]
theorem qnd {γ:Nat→Option Nat} (a:Act) (x:Alc) (g:Nat) (hγ:γ x.j=none):∀ (A:List Alc),(A.map (·.j)).Nodup→(A.map (·.d)).Nodup→x∈A →
  qbb (upd γ x.j g) a A=(qbb γ a A).put (some x.d) (x.val g)
 | [],_,_,h=>by cases h
 | y::A,hj,hd,h=>by
  simp only [List.map_cons,List.nodup_cons,List.mem_map,not_exists,not_and] at hj hd
  rcases List.mem_cons.1 h with rfl|h
  ·have e:=qiy (γ:=γ) a x.j g A (fun z hz=>hj.1 z hz)
   have hx:upd γ x.j g x.j=some g:=by unfold upd;rw [if_pos rfl]
   unfold qbb
   rw [hx,hγ,e]
  ·have ih:=qnd a x g hγ A hj.2 hd.2 h
   have hne:y.j≠x.j:=fun e=>hj.1 x h e.symm
   have hx:upd γ x.j g y.j=γ y.j:=by unfold upd;rw [if_neg hne]
   unfold qbb
   rw [hx,ih]
   cases γ y.j with
   | none=>rfl
   | some k=>exact Act.put_comm _ _ _ (fun d h1 h2=>by injection h1 with h1;injection h2 with h2;exact hd.1 x h (by rw [h1,h2]))
theorem qmf {γ:Nat→Option Nat} (l:Array Bool) (x:Alc) (g:Nat) (hγ:γ x.j=none):∀ (A:List Alc),(A.map (·.j)).Nodup→x∈A →
  qau (upd γ x.j g) l A=(qau γ l A).setIfInBounds x.j true
 | [],_,h=>by cases h
 | y::A,hj,h=>by
  simp only [List.map_cons,List.nodup_cons,List.mem_map,not_exists,not_and] at hj
  rcases List.mem_cons.1 h with rfl|h
  ·have e:=qhk (γ:=γ) l x.j g A (fun z hz=>hj.1 z hz)
   have hx:upd γ x.j g x.j=some g:=by unfold upd;rw [if_pos rfl]
   unfold qau
   rw [hx,hγ,e]
  ·have ih:=qmf l x g hγ A hj.2 h
   have hne:y.j≠x.j:=fun e=>hj.1 x h e.symm
   have hx:upd γ x.j g y.j=γ y.j:=by unfold upd;rw [if_neg hne]
   unfold qau
   rw [hx,ih]
   cases γ y.j with
   | none=>rfl
   | some k=>exact Array.setIfInBounds_comm _ _ (fun e=>hne e.symm)
theorem qiu {γ:Nat→Option Nat} (l:Array Bool) (i:Nat):∀ (A:List Alc),(∀ x∈A,x.j≠i)→qau γ (l.setIfInBounds i true) A=(qau γ l A).setIfInBounds i true
 | [],_=>rfl
 | x::A,h=>by
  have ih:=qiu (γ:=γ) l i A (fun y hy=>h y (List.mem_cons_of_mem _ hy))
  unfold qau
  rw [ih]
  cases γ x.j with
  | none=>rfl
  | some g=>exact Array.setIfInBounds_comm _ _ (fun e=>h x (List.mem_cons_self ..) e.symm)
theorem qhe {γ:Nat→Option Nat} (l:Array Bool):∀ (A:List Alc),(qau γ l A).size=l.size
 | []=>rfl
 | x::A=>by
  have ih:=qhe (γ:=γ) l A
  unfold qau
  cases γ x.j with
  | none=>exact ih
  | some g=>simpa using ih
theorem qci {γ:Nat→Option Nat} (l:Array Bool) (k:Nat) (b:Bool) (hk:k<l.size):∀ (A:List Alc),(qau γ l A).getD k b=true↔(l.getD k b=true∨∃ x∈A,x.j=k∧(γ k).isSome=true)
 | []=>by simp [qau]
 | x::A=>by
  have ih:=qci (γ:=γ) l k b hk A
  have hs:=qhe (γ:=γ) l A
  unfold qau
  cases hx:γ x.j with
  | none =>
   rw [ih]
   constructor
   ·rintro (h|⟨y,hy,h⟩)
    ·exact .inl h
    ·exact .inr ⟨y,List.mem_cons_of_mem _ hy,h⟩
   ·rintro (h|⟨y,hy,rfl,h⟩)
    ·exact .inl h
    ·rcases List.mem_cons.1 hy with rfl|hy
     ·rw [hx] at h;cases h
     ·exact .inr ⟨y,hy,rfl,h⟩
  | some g =>
   by_cases hkx:x.j=k
   ·subst hkx
    simp only [Array.getD_eq_getD_getElem?]
    rw [Array.getElem?_setIfInBounds_self_of_lt (by omega)]
    simp only [Option.getD_some,true_iff]
    exact .inr ⟨x,List.mem_cons_self ..,rfl,by rw [hx];rfl⟩
   ·rw [getD_set_ne _ hkx,ih]
    constructor
    ·rintro (h|⟨y,hy,h⟩)
     ·exact .inl h
     ·exact .inr ⟨y,List.mem_cons_of_mem _ hy,h⟩
    ·rintro (h|⟨y,hy,rfl,h⟩)
     ·exact .inl h
     ·rcases List.mem_cons.1 hy with rfl|hy
      ·exact absurd rfl hkx
      ·exact .inr ⟨y,hy,rfl,h⟩
theorem qey {γ:Nat→Option Nat} (o:Oper) (hs:∀ cs b,o.op≠.select cs b) (a:Act):∀ (A:List Alc),(∀ x∈A,x.d∉o.looksAt ops)→execOp (qbb γ a A).eval o=execOp a.eval o
 | [],_=>rfl
 | x::A,h=>by
  have ih:=qey (γ:=γ) o hs a A (fun y hy=>h y (List.mem_cons_of_mem _ hy))
  unfold qbb
  cases γ x.j with
  | none=>exact ih
  | some g =>
   simp only []
   rw [execOp_put (ops:=ops) o hs _ _ _ (fun d hd=>by injection hd with hd;subst hd;exact h x (List.mem_cons_self ..)),ih]
theorem qew {γ:Nat→Option Nat} (o:Oper) (a:Act):∀ (A:List Alc),(∀ x∈A,x.d∉o.looksAt ops)→Region.wanted o (yielded ops (qbb γ a A).tmps)=Region.wanted o (yielded ops a.tmps)
 | [],_=>rfl
 | x::A,h=>by
  have ih:=qew (γ:=γ) o a A (fun y hy=>h y (List.mem_cons_of_mem _ hy))
  unfold qbb
  cases γ x.j with
  | none=>exact ih
  | some g =>
   simp only []
   rw [wanted_put o _ _ _ (fun d hd=>by injection hd with hd;subst hd;exact h x (List.mem_cons_self ..)),ih]
theorem qqa {γ:Nat→Option Nat} {A:List Alc} {i:Nat} {oi:Oper} (hi:ops[i]? = some oi) (hsi:∀ cs b,oi.op≠.select cs b)
  (hA:∀ x∈A,x.d∉oi.looksAt ops∧oi.dst≠some x.d) (hQ:∀ c a a' w,Q (.panic c) a w→Q (.panic c) a' w)
  (Z:Act→Prop) (hZp:∀ a u,Z a→Z (a.put oi.dst u)) (hZd:∀ a d,Z a→Z { a with defers:=d::a.defers })
  {K:Act→World→Prop} {a:Act} {w:World} (hz:Z a) (h:wpOp P ops Q i K a w) :
  wpOp P ops Q i (fun a' w'=>∃ a0,a'=qbb γ a0 A∧Z a0∧K a0 w') (qbb γ a A) w:=by
 have hA1:∀ x∈A,x.d∉oi.looksAt ops:=fun x hx=>(hA x hx).1
 have hA2:∀ x∈A,oi.dst≠some x.d:=fun x hx=>(hA x hx).2
 unfold wpOp at *
 simp only [hi] at *
 rw [qew oi a A hA1]
 split
 ·rename_i hw
  simp only [hw,if_true] at h
  rcases h with h|⟨hasks,hlets⟩
  case inr=>exact .inr ⟨by unfold Oper.asks at *;rw [qey (ops:=ops) oi hsi a A hA1];exact hasks,hlets⟩
  refine .inl ?_
  unfold Oper.wp at *
  rw [qey (ops:=ops) oi hsi a A hA1]
  generalize (execOp a.eval oi).run P w=r at *
  cases r with
  | ok n w' =>
   cases n <;> simp only [Oper.upon] at h ⊢
   case value u=>exact ⟨_,(qdb a _ u A hA2).symm,hZp _ _ hz,h⟩
   case skip=>exact ⟨_,(qdb a _ undef A hA2).symm,hZp _ _ hz,h⟩
   case defer d =>
    refine ⟨_,?_,hZp _ _ (hZd _ d hz),h⟩
    rw [qdb _ _ undef A hA2,qjn]
   case enter f args =>
    refine Calls.mono h fun e w'' he=>?_
    cases e with
    | returned u=>exact ⟨_,(qdb a _ u A hA2).symm,hZp _ _ hz,he⟩
    | panicked c=>exact hQ _ _ _ _ he
    | outgrown=>exact he
   case row row args=>exact Rows.mono h fun u w'' he=>⟨_,(qdb a _ u A hA2).symm,hZp _ _ hz,he⟩
  | halt x w' =>
   cases x <;> simp only [Oper.upon] at h ⊢
   case panic u=>exact hQ _ _ _ _ h
 ·rename_i hw
  simp only [hw] at h
  exact ⟨_,(qdb a _ undef A hA2).symm,hZp _ _ hz,h⟩
def Ext (w w':World):Prop:=Below w.heap.size w w'
theorem Ext.refl (w:World):Ext w w:=Below.refl _ _
theorem Ext.trans {a b c:World} (h:Ext a b) (k:Ext b c):Ext a c:=Below.trans h (Below.mono k h.size)
def wpI (P:Program) (ops:Array Oper) (Q:Exit→Act→World→Prop) (S:World→Prop) (K:Act→World→Prop):List (Nat × Bool)→Act→World→Prop
 | [],a,w=>K a w
 | (i,true)::r,a,w=>∃ o v,ops[i]? = some o∧YieldsIf P ops S o v a∧wpI P ops Q S K r (a.put o.dst v) w
 | (i,false)::r,a,w=>∀ w',Ext w w'→S w'→wpOp P ops Q i (fun a'' w''=>Ext w' w''∧wpI P ops Q S K r a'' w'') a w'
def qcl (P:Program) (ops:Array Oper) (A:List Alc) (a:Act):Prop :=
 ∀ x∈A,∃ o,ops[x.j]? = some o∧o.dst=some x.d∧Region.wanted o (yielded ops a.tmps)=true∧∀ w,(execOp a.eval o).run P w=.ok (.value (x.val w.heap.size)) (w.alloc x.o)
def qjg (ops:Array Oper) (i j:Nat):Bool:=match ops[i]?,ops[j]? with
 | some x,some y=>x.apart ops y && y.apart ops x
 | _,_=>false
def chkI (md:Region.Mode) (ops:Array Oper) (A:List Nat):List (Nat × Bool)→Array Bool→Bool
 | [],l=>A.all fun j=>(Region.ready md ops ((A.filter (· != j)).foldr (fun k l=>l.setIfInBounds k true) l)).all (· == j)
 | (i,true)::r,l=>(Region.ready md ops l).contains i && Region.free md ops l i && A.all (fun j=>j != i && qjg ops i j) && chkI md ops A r (l.setIfInBounds i true)
 | (i,false)::r,l=>(Region.ready md ops l).contains i && (Region.ready md ops (A.foldr (fun k l=>l.setIfInBounds k true) l)).all (· == i) && A.all (fun j=>j != i && qjg ops i j) && chkI md ops A r (l.setIfInBounds i true)
structure Made (A:List Alc) (γ:Nat→Option Nat) (N:Nat) (w:World):Prop where
 lo:∀ x∈A,∀ g,γ x.j=some g→N≤g∧g<w.heap.size
 at_:∀ x∈A,∀ g,γ x.j=some g→w.heap[g]? = some x.o
 ne_:∀ x∈A,∀ y∈A,x.j≠y.j→∀ g h,γ x.j=some g→γ y.j=some h→g≠h
theorem Made.ext {A:List Alc} {γ:Nat→Option Nat} {N:Nat} {w w':World} (h:Made A γ N w) (e:Ext w w'):Made A γ N w' :=
 ⟨fun x hx g hg=>⟨(h.lo x hx g hg).1,Nat.lt_of_lt_of_le (h.lo x hx g hg).2 e.size⟩,fun x hx g hg=>(e.block g (h.lo x hx g hg).2).trans (h.at_ x hx g hg),h.ne_⟩
theorem qhf {i j:Nat} {x y:Oper} (hx:ops[i]? = some x) (hy:ops[j]? = some y) (h:qjg ops i j=true):x.apart ops y=true∧y.apart ops x=true:=by
 unfold qjg at h
 simpa [hx,hy] using h
theorem qnp {γ:Nat→Option Nat} {A:List Alc} {l:Array Bool} {A':List Nat} (hsz:l.size=ops.size) (hA':∀ x∈A,(γ x.j).isSome=true→x.j∈A') {k:Nat}
  (hk:k∈Region.ready md ops (qau γ l A)) (hkA:k∉A'):k∈Region.ready md ops (A'.foldr (fun k l=>l.setIfInBounds k true) l):=by
 have key:∀ (A':List Nat) (k:Nat) (b:Bool),k<l.size→((A'.foldr (fun k l=>l.setIfInBounds k true) l).getD k b=true↔(l.getD k b=true∨k∈A')):=by
  intro A' k b hk
  have hs:∀ A':List Nat,(A'.foldr (fun k l=>l.setIfInBounds k true) l).size=l.size:=by
   intro A'
   induction A' with
   | nil=>rfl
   | cons x A' ih=>simpa using ih
  induction A' with
  | nil=>simp
  | cons x A' ih =>
   rw [List.foldr_cons]
   by_cases hx:x=k
   ·subst hx
    simp only [Array.getD_eq_getD_getElem?]
    rw [Array.getElem?_setIfInBounds_self_of_lt (by have:=hs A';omega)]
    simp
   ·rw [getD_set_ne _ hx]
    refine Iff.trans ih ⟨?_,?_⟩
    ·rintro (h|h)
     ·exact .inl h
     ·exact .inr (List.mem_cons_of_mem _ h)
    ·rintro (h|h)
     ·exact .inl h
     ·rcases List.mem_cons.1 h with h|h
      ·exact absurd h.symm hx
      ·exact .inr h
 obtain ⟨h0,o,ho,hall⟩:=mem_ready.1 hk
 have hlt:k<l.size:=by rw [hsz];exact (Array.getElem?_eq_some_iff.1 ho).1
 have hs0:(qau γ l A).size=l.size:=qhe l A
 refine mem_ready.2 ⟨?_,o,ho,fun e he hb=>?_⟩
 ·have h1:¬((qau γ l A).getD k true=true):=by rw [h0];decide
  rw [qci l k true hlt A] at h1
  have h2:¬(A'.foldr (fun k l=>l.setIfInBounds k true) l).getD k true=true:=by
   rw [key A' k true hlt]
   rintro (h|h)
   ·exact h1 (.inl h)
   ·exact hkA h
  simpa using h2
 ·have h1:=hall e he hb
  have hlt2:e.on<l.size:=by
   rcases Nat.lt_or_ge e.on l.size with h|h
   ·exact h
   ·simp only [Array.getD_eq_getD_getElem?] at h1
    rw [Array.getElem?_eq_none (by omega)] at h1
    simp at h1
  rw [qci l _ _ hlt2 A] at h1
  rw [key A' _ _ hlt2]
  rcases h1 with h1|⟨x,hx,hxe,hs⟩
  ·exact .inl h1
  ·exact .inr (hxe ▸ hA' x hx (by rw [hxe];exact hs))
theorem qju {A:List Alc} {i:Nat} {oi:Oper} (hsel:Region.noSelect ops=true) (hi:ops[i]? = some oi) (hap:∀ x∈A,qjg ops i x.j=true) (a:Act) (u:Value) (h:qcl P ops A a) :
  qcl P ops A (a.put oi.dst u):=by
 intro x hx
 obtain ⟨o,ho,hd,hw,hr⟩:=h x hx
 obtain ⟨h1,_,_⟩:=Oper.apart_spec (qhf hi ho (hap x hx)).1
 have hsx:∀ cs b,o.op≠.select cs b:=fun cs b=>Region.noSelect_spec hsel x.j o cs b ho
 refine ⟨o,ho,hd,by rw [wanted_put o a _ u h1];exact hw,fun w=>?_⟩
 rw [execOp_put o hsx a _ u h1]
 exact hr w
def lay:List (Nat × Bool)→Array Bool→Array Bool
 | [],l=>l
 | (i,_)::r,l=>lay r (l.setIfInBounds i true)
theorem alc_inj:∀ (A:List Alc),(A.map (·.j)).Nodup→∀ y∈A,∀ x∈A,y.j=x.j→y=x
 | [],_,y,hy,_,_,_=>by cases hy
 | z::A,hj,y,hy,x,hx,e=>by
  simp only [List.map_cons,List.nodup_cons,List.mem_map,not_exists,not_and] at hj
  rcases List.mem_cons.1 hy with rfl|hy1
  ·rcases List.mem_cons.1 hx with rfl|hx1
   ·rfl
   ·exact absurd e.symm (hj.1 x hx1)
  ·rcases List.mem_cons.1 hx with rfl|hx1
   ·exact absurd e (hj.1 y hy1)
   ·exact alc_inj A hj.2 y hy1 x hx1 e
theorem qgm {A:List Alc} {N:Nat} {K:Act→World→Prop} {m:Nat} (hsel:Region.noSelect ops=true) (hQ:∀ c a a' w,Q (.panic c) a w→Q (.panic c) a' w)
  (hj:(A.map (·.j)).Nodup) (hd:(A.map (·.d)).Nodup) (hAA:∀ x∈A,∀ y∈A,∀ o,ops[y.j]? = some o→x.d∉o.looksAt ops)
  (hSx:∀ w w',Ext w w'→S w→S w') (hN:∀ w,S w→N≤w.heap.size) (lf:Array Bool)
  (hK:∀ (γ:Nat→Option Nat) (a:Act) (w wf:World) (fuel:Nat),(∀ x∈A,(γ x.j).isSome=true)→K a w→Ext w wf→S wf→Made A γ N wf→m≤fuel →
   wpAnyH P md ops Q S fuel (qau γ lf A) (qbb γ a A) wf) :
  ∀ (fuel:Nat) (l1:List (Nat × Bool)) (l:Array Bool) (a:Act) (w wc:World) (γ:Nat→Option Nat),chkI md ops (A.map (·.j)) l1 l=true→lay l1 l=lf→l.size=ops.size →
   (∀ x∈A,l.getD x.j true=false)→l1.length+(A.filter fun x=>(γ x.j).isNone).length+m≤fuel→wpI P ops Q S K l1 a w→Ext w wc→S wc→Made A γ N wc→qcl P ops A a →
   (∀ x∈A,x.j∈Region.ready md ops l)→wpAnyH P md ops Q S fuel (qau γ l A) (qbb γ a A) wc:=by
 intro fuel
 induction fuel with
 | zero =>
  intro l1 l a w wc γ hc hlay hsz hlA hf hI he hS hM hO hrA
  have h1:l1=[]:=by cases l1 <;> simp at hf <;> rfl
  subst h1
  have hall:∀ x∈A,(γ x.j).isSome=true:=fun x hx=>by
   cases hx':γ x.j with
   | some g=>rfl
   | none =>
    have:x∈A.filter fun x=>(γ x.j).isNone:=List.mem_filter.2 ⟨hx,by rw [hx'];rfl⟩
    have:=List.length_pos_of_mem this
    omega
  subst hlay
  exact hK γ a w wc 0 hall hI he hS hM (by omega)
 | succ fuel ih =>
  intro l1 l a w wc γ hc hlay hsz hlA hf hI he hS hM hO hrA
  have step:∀ x∈A,γ x.j=none→x.j∈Region.ready md ops (qau γ l A) →
    wpOp P ops Q x.j (fun a' w'=>S w'∧wpAnyH P md ops Q S fuel ((qau γ l A).setIfInBounds x.j true) a' w') (qbb γ a A) wc:=by
   intro x hx hγ hr
   obtain ⟨o,ho,hdo,hw,hrun⟩:=hO x hx
   have hsx:∀ cs b,o.op≠.select cs b:=fun cs b=>Region.noSelect_spec hsel x.j o cs b ho
   have hlk:∀ y∈A,y.d∉o.looksAt ops:=fun y hy=>hAA y hy x hx o ho
   unfold wpOp
   simp only [ho]
   rw [qew o a A hlk,if_pos hw]
   refine .inl ?_
   unfold Oper.wp
   rw [qey (ops:=ops) o hsx a A hlk,hrun wc]
   simp only [Oper.upon]
   have hext:Ext wc (wc.alloc x.o):=(Below.refl _ _).alloc (Nat.le_refl _) _
   refine ⟨hSx _ _ hext hS,?_⟩
   have h1:=qnd a x wc.heap.size hγ A hj hd hx
   have h2:=qmf l x wc.heap.size hγ A hj hx
   rw [hdo,←h1,←h2]
   refine ih l1 l a w (wc.alloc x.o) (upd γ x.j wc.heap.size) hc hlay hsz hlA ?_ hI (he.trans hext) (hSx _ _ hext hS) ?_ hO hrA
   ·have hlt:(A.filter fun y=>(upd γ x.j wc.heap.size y.j).isNone).length<(A.filter fun y=>(γ y.j).isNone).length:=by
     have hsub:∀ (B:List Alc),(B.filter fun y=>(upd γ x.j wc.heap.size y.j).isNone).length≤(B.filter fun y=>(γ y.j).isNone).length∧(x∈B→(B.filter fun y=>(upd γ x.j wc.heap.size y.j).isNone).length<(B.filter fun y=>(γ y.j).isNone).length):=by
      intro B
      induction B with
      | nil=>simp
      | cons y B ihB =>
       simp only [List.filter_cons]
       by_cases hy:y.j=x.j
       ·have e1:(upd γ x.j wc.heap.size y.j).isNone=false:=by unfold upd;rw [if_pos hy];rfl
        have e2:(γ y.j).isNone=true:=by rw [hy,hγ];rfl
        rw [e1,e2]
        simp only [Bool.false_eq_true,if_false,if_true,List.length_cons]
        exact ⟨by omega,fun _=>by omega⟩
       ·have e1:upd γ x.j wc.heap.size y.j=γ y.j:=by unfold upd;rw [if_neg hy]
        rw [e1]
        have hxy:x∈y::B→x∈B:=fun h=>by
         rcases List.mem_cons.1 h with h|h
         ·exact absurd (by rw [h]) hy
         ·exact h
        split
        ·simp only [List.length_cons]
         exact ⟨by omega,fun h=>by have:=ihB.2 (hxy h);omega⟩
        ·exact ⟨ihB.1,fun h=>ihB.2 (hxy h)⟩
     exact (hsub A).2 hx
    omega
   ·have hsz':(wc.alloc x.o).heap.size=wc.heap.size+1:=by simp
    refine ⟨fun y hy g hg=>?_,fun y hy g hg=>?_,fun y hy z hz hne g h hg hh=>?_⟩
    ·unfold upd at hg
     split at hg
     ·injection hg with hg;subst hg;exact ⟨hN _ hS,by omega⟩
     ·have:=hM.lo y hy g hg;exact ⟨this.1,by omega⟩
    ·unfold upd at hg
     split at hg
     ·rename_i hyx
      injection hg with hg
      have hyx':y=x:=by
       exact alc_inj A hj y hy x hx hyx
      rw [hyx',←hg]
      show (wc.heap.push x.o)[wc.heap.size]? = some x.o
      simp
     ·have h1:=hM.lo y hy g hg
      exact (hext.block g h1.2).trans (hM.at_ y hy g hg)
    ·unfold upd at hg hh
     split at hg
     ·rename_i e1
      split at hh
      ·rename_i e2;exact absurd (e1.trans e2.symm) hne
      ·injection hg with hg
       have:=hM.lo z hz h hh
       omega
     ·split at hh
      ·injection hh with hh
       have:=hM.lo y hy g hg
       omega
      ·exact hM.ne_ y hy z hz hne g h hg hh
  match l1,hc,hlay,hf,hI with
  | [],hc,hlay,hf,hI =>
   by_cases hall:∀ x∈A,(γ x.j).isSome=true
   ·subst hlay
    exact hK γ a w wc (fuel+1) hall hI he hS hM (by simp at hf;omega)
   ·simp only [chkI,List.all_eq_true] at hc
    have hnone:∃ x∈A,γ x.j=none:=by
     apply Classical.byContradiction
     intro h
     apply hall
     intro x hx
     cases e:γ x.j with
     | some g=>rfl
     | none=>exact absurd ⟨x,hx,e⟩ h
    have hrdy:∀ k∈Region.ready md ops (qau γ l A),∃ x∈A,x.j=k∧γ x.j=none:=by
     intro k hk
     obtain ⟨x,hx,hγ⟩:=hnone
     by_cases hkA:∃ y∈A,y.j=k
     ·obtain ⟨y,hy,rfl⟩:=hkA
      refine ⟨y,hy,rfl,?_⟩
      obtain ⟨h0,o,ho,_⟩:=mem_ready.1 hk
      cases e:γ y.j with
      | none=>rfl
      | some g =>
       have hlt:y.j<l.size:=by rw [hsz];exact (Array.getElem?_eq_some_iff.1 ho).1
       have:=(qci (γ:=γ) l y.j true hlt A).2 (.inr ⟨y,hy,rfl,by rw [e];rfl⟩)
       rw [h0] at this
       cases this
     ·have h1:=qnp (md:=md) (γ:=γ) (A:=A) (l:=l) (A':=(A.map (·.j)).filter (· != x.j)) hsz (fun y hy hs=>by
       simp only [List.mem_filter,List.mem_map]
       refine ⟨⟨y,hy,rfl⟩,?_⟩
       have:y.j≠x.j:=fun e=>by rw [e,hγ] at hs;cases hs
       simpa using this) hk (fun h=>by
       simp only [List.mem_filter,List.mem_map] at h
       obtain ⟨⟨y,hy,e⟩,_⟩:=h
       exact hkA ⟨y,hy,e⟩)
      have h2:=hc x.j (List.mem_map.2 ⟨x,hx,rfl⟩) k h1
      exact ⟨x,hx,by simpa using (beq_iff_eq.1 h2).symm,hγ⟩
    refine ⟨fun h0=>?_,fun k hk=>?_⟩
    ·obtain ⟨x,hx,hγ⟩:=hnone
     have hxr:x.j∈Region.ready md ops (qau γ l A):=by
      have h1:=hrA x hx
      obtain ⟨h0',o,ho,hal⟩:=mem_ready.1 h1
      have hlt:x.j<l.size:=by rw [hsz];exact (Array.getElem?_eq_some_iff.1 ho).1
      refine mem_ready.2 ⟨?_,o,ho,fun e he' hb=>?_⟩
      ·have:¬(qau γ l A).getD x.j true=true:=by
        rw [qci l x.j true hlt A]
        rintro (h|⟨_,_,_,h⟩)
        ·rw [h0'] at h;cases h
        ·rw [hγ] at h;cases h
       simpa using this
      ·have h2:=hal e he' hb
       have hlt2:e.on<l.size:=by
        rcases Nat.lt_or_ge e.on l.size with h|h
        ·exact h
        ·simp only [Array.getD_eq_getD_getElem?] at h2
         rw [Array.getElem?_eq_none (by omega)] at h2
         simp at h2
       exact (qci l _ _ hlt2 A).2 (.inl h2)
     rw [h0] at hxr
     cases hxr
    ·obtain ⟨x,hx,rfl,hγ⟩:=hrdy k hk
     exact step x hx hγ hk
  | (i,true)::r,hc,hlay,hf,hI =>
   simp only [chkI,Bool.and_eq_true,List.all_eq_true,List.mem_map,forall_exists_index,and_imp,forall_apply_eq_imp_iff₂,bne_iff_ne,ne_eq] at hc
   obtain ⟨⟨⟨h1,h2⟩,h3⟩,h4⟩:=hc
   obtain ⟨o,v,ho,hy,hr⟩:=hI
   have hli:∀ x∈A,x.j≠i:=fun x hx=>(h3 x hx).1
   have hir:i∈Region.ready md ops (qau γ l A):=by
    have h1':i∈Region.ready md ops l:=by simpa using h1
    clear h1
    have hh:∀ B:List Alc,(∀ x∈B,x.j≠i)→i∈Region.ready md ops (qau γ l B):=by
     intro B
     induction B with
     | nil=>intro _;exact h1'
     | cons x B ihB =>
      intro hB
      have:=ihB (fun y hy=>hB y (List.mem_cons_of_mem _ hy))
      unfold qau
      cases γ x.j with
      | none=>exact this
      | some g=>exact ready_mono this (fun e=>hB x (List.mem_cons_self ..) e.symm)
    exact hh A hli
   have hap:∀ x∈A,x.d∉o.looksAt ops∧o.dst≠some x.d:=by
    intro x hx
    obtain ⟨ox,hox,hdx,_⟩:=hO x hx
    obtain ⟨g1,g2,g3⟩:=Oper.apart_spec (qhf ho hox (h3 x hx).2).1
    exact ⟨g3 x.d hdx,fun e=>g2 x.d e hdx⟩
   have hsi:∀ cs b,o.op≠.select cs b:=fun cs b=>Region.noSelect_spec hsel i o cs b ho
   have hy':YieldsIf P ops S o v (qbb γ a A):=hy.of_same (qey (ops:=ops) o hsi a A (fun x hx=>(hap x hx).1)) (qew o a A (fun x hx=>(hap x hx).1))
   refine wpAnyH_first ho (Region.noSelect_spec hsel) (fun c a w=>hQ c _ _ w) fuel _ _ _ (fun j oj hoj hne hun hno=>?_) hir hy' hS ?_
   ·refine Region.free_spec ho h2 j oj hoj hne ?_ hno
    have hlt:j<l.size:=by rw [hsz];exact (Array.getElem?_eq_some_iff.1 hoj).1
    have h5:¬(qau γ l A).getD j true=true:=by rw [hun];decide
    rw [qci l j true hlt A] at h5
    have h6:¬l.getD j true=true:=fun e=>h5 (.inl e)
    simpa using h6
   ·rw [←qiu l i A hli,←qdb a _ v A (fun x hx=>(hap x hx).2)]
    have hlen:((i,true)::r).length=r.length+1:=rfl
    refine ih r (l.setIfInBounds i true) (a.put o.dst v) w wc γ h4 hlay (by simpa using hsz) (fun x hx=>?_) (by omega) hr he hS hM (qju hsel ho (fun x hx=>(h3 x hx).2) a v hO) (fun x hx=>ready_mono (hrA x hx) (hli x hx))
    rw [getD_set_ne _ (fun e=>hli x hx e.symm)]
    exact hlA x hx
  | (i,false)::r,hc,hlay,hf,hI =>
   simp only [chkI,Bool.and_eq_true,List.all_eq_true,List.mem_map,forall_exists_index,and_imp,forall_apply_eq_imp_iff₂,bne_iff_ne,ne_eq] at hc
   obtain ⟨⟨⟨h0r,h1⟩,h3⟩,h4⟩:=hc
   have hli:∀ x∈A,x.j≠i:=fun x hx=>(h3 x hx).1
   have hir:i∈Region.ready md ops (qau γ l A):=by
    have h1':i∈Region.ready md ops l:=by simpa using h0r
    clear h1
    have hh:∀ B:List Alc,(∀ x∈B,x.j≠i)→i∈Region.ready md ops (qau γ l B):=by
     intro B
     induction B with
     | nil=>intro _;exact h1'
     | cons x B ihB =>
      intro hB
      have:=ihB (fun y hy=>hB y (List.mem_cons_of_mem _ hy))
      unfold qau
      cases γ x.j with
      | none=>exact this
      | some g=>exact ready_mono this (fun e=>hB x (List.mem_cons_self ..) e.symm)
    exact hh A hli
   have hne:Region.ready md ops (qau γ l A)≠[]→True:=fun _=>trivial
   have hst:∀ k∈Region.ready md ops (qau γ l A),wpOp P ops Q k (fun a' w'=>S w'∧wpAnyH P md ops Q S fuel ((qau γ l A).setIfInBounds k true) a' w') (qbb γ a A) wc:=by
    intro k hk
    by_cases hkA:∃ y∈A,y.j=k
    ·obtain ⟨y,hy,rfl⟩:=hkA
     obtain ⟨h0,o,ho,_⟩:=mem_ready.1 hk
     have hγ:γ y.j=none:=by
      cases e:γ y.j with
      | none=>rfl
      | some g =>
       have hlt:y.j<l.size:=by rw [hsz];exact (Array.getElem?_eq_some_iff.1 ho).1
       have:=(qci (γ:=γ) l y.j true hlt A).2 (.inr ⟨y,hy,rfl,by rw [e];rfl⟩)
       rw [h0] at this
       cases this
     exact step y hy hγ hk
    ·have h5:=qnp (md:=md) (γ:=γ) (A:=A) (l:=l) (A':=A.map (·.j)) hsz (fun y hy hs=>List.mem_map.2 ⟨y,hy,rfl⟩) hk (fun h=>by
      obtain ⟨y,hy,e⟩:=List.mem_map.1 h
      exact hkA ⟨y,hy,e⟩)
     have h6:k=i:=by simpa using h1 k h5
     subst h6
     obtain ⟨_,o,ho,_⟩:=mem_ready.1 hk
     have hsi:∀ cs b,o.op≠.select cs b:=fun cs b=>Region.noSelect_spec hsel k o cs b ho
     have hap:∀ x∈A,x.d∉o.looksAt ops∧o.dst≠some x.d:=by
      intro x hx
      obtain ⟨ox,hox,hdx,_⟩:=hO x hx
      obtain ⟨g1,g2,g3⟩:=Oper.apart_spec (qhf ho hox (h3 x hx).2).1
      exact ⟨g3 x.d hdx,fun e=>g2 x.d e hdx⟩
     have h7:=qqa (γ:=γ) (A:=A) ho hsi hap hQ (qcl P ops A) (fun a u hz=>qju hsel ho (fun x hx=>(h3 x hx).2) a u hz) (fun a d hz=>hz) hO (hI wc he hS)
     refine wpOp_mono (fun a' w' hh=>?_) h7
     obtain ⟨a0,rfl,hO0,he0,hr0⟩:=hh
     refine ⟨hSx _ _ he0 hS,?_⟩
     rw [←qiu l k A hli]
     have hlen:((k,false)::r).length=r.length+1:=rfl
     refine ih r (l.setIfInBounds k true) a0 w' w' γ h4 hlay (by simpa using hsz) (fun x hx=>?_) (by omega) hr0 (Ext.refl _) (hSx _ _ he0 hS) (hM.ext he0) hO0 (fun x hx=>ready_mono (hrA x hx) (hli x hx))
     rw [getD_set_ne _ (fun e=>hli x hx e.symm)]
     exact hlA x hx
   refine ⟨fun h0=>?_,hst⟩
   rw [h0] at hir
   cases hir
def chkT (md:Region.Mode) (ops:Array Oper):List (Nat × Bool)→Array Bool→Bool
 | [],_=>true
 | (i,b)::r,l=>b && (Region.ready md ops l).contains i && Region.free md ops l i && chkT md ops r (l.setIfInBounds i true)
def qje:List Nat→Bool
 | []=>true
 | x::l=>!l.contains x && qje l
theorem qch:∀ l:List Nat,qje l=true→l.Nodup
 | [],_=>List.nodup_nil
 | x::l,h=>by
  simp only [qje,Bool.and_eq_true,Bool.not_eq_true',List.contains_eq_mem,decide_eq_false_iff_not] at h
  exact List.nodup_cons.2 ⟨h.1,qch l h.2⟩
def qdk (ops:Array Oper) (A:List (Nat × Nat)) (l0 l1 l2:List (Nat × Bool)):Bool :=
 let z:=Array.replicate ops.size false
 let m0:=lay l0 z
 let m1:=lay l1 m0
 let js:=A.map (·.1)
 Region.noSelect ops && chkT .any ops l0 z && qje js && qje (A.map (·.2)) && (A.all fun x=>A.all fun y=>match ops[y.1]? with|some o=>!(o.looksAt ops).contains x.2|none=>true) &&
  (js.all fun j=>(Region.ready .any ops m0).contains j && !m0.getD j true) && chkI .any ops js l1 m0 && qcs .any ops l2 (js.foldr (fun k l=>l.setIfInBounds k true) m1) && decide (l0.length+l1.length+js.length+l2.length≤ops.size)
theorem qkq:∀ (l:List (Nat × Bool)) (z:Array Bool),(lay l z).size=z.size
 | [],_=>rfl
 | (i,_)::r,z=>by unfold lay;rw [qkq r];simp
theorem qiv {γ:Nat→Option Nat} (l:Array Bool):∀ (A:List Alc),(∀ x∈A,(γ x.j).isSome=true)→qau γ l A=(A.map (·.j)).foldr (fun k l=>l.setIfInBounds k true) l
 | [],_=>rfl
 | x::A,h=>by
  have ih:=qiv (γ:=γ) l A (fun y hy=>h y (List.mem_cons_of_mem _ hy))
  have hx:=h x (List.mem_cons_self ..)
  unfold qau
  cases e:γ x.j with
  | none=>rw [e] at hx;cases hx
  | some g=>simp only [ih,List.map_cons,List.foldr_cons]
theorem qhi (l:Array Bool):∀ (A:List Alc),qau (fun _=>none) l A=l
 | []=>rfl
 | x::A=>by unfold qau;exact qhi l A
theorem qib (a:Act):∀ (A:List Alc),qbb (fun _=>none) a A=a
 | []=>rfl
 | x::A=>by unfold qbb;exact qib a A
theorem qhh {K:Act→World→Prop} {m:Nat} (hs:Region.noSelect ops=true) (hQ:∀ c a a' w,Q (.panic c) a w→Q (.panic c) a' w) :
  ∀ (l0:List (Nat × Bool)) (l:Array Bool) (a:Act) (w:World) (fuel:Nat),chkT md ops l0 l=true→l0.length+m≤fuel→S w→wpI P ops Q S K l0 a w →
   (∀ a fuel,K a w→m≤fuel→wpAnyH P md ops Q S fuel (lay l0 l) a w)→wpAnyH P md ops Q S fuel l a w
 | [],l,a,w,fuel,_,hf,_,hI,hK=>hK a fuel hI (by simpa using hf)
 | (i,b)::r,l,a,w,0,_,hf,_,_,_=>absurd hf (by simp)
 | (i,b)::r,l,a,w,fuel+1,hc,hf,hS,hI,hK=>by
  simp only [chkT,Bool.and_eq_true] at hc
  obtain ⟨⟨⟨rfl,h1⟩,h2⟩,h3⟩:=hc
  obtain ⟨o,v,ho,hy,hr⟩:=hI
  have hlen:((i,true)::r).length=r.length+1:=rfl
  exact wpAnyH_take ho hs h2 h1 (fun c a w=>hQ c _ _ w) hy hS (qhh hs hQ r _ _ w fuel h3 (by omega) hS hr hK)
theorem qmg {id:Nat} {a:Act} {w:World} (A:List Alc) (l0 l1 l2:List (Nat × Bool)) (hm:P.follows .mixedOrders=true)
  (hc:qdk ops (A.map fun x=>(x.j,x.d)) l0 l1 l2=true) (hQ:∀ c a a' w,Q (.panic c) a w→Q (.panic c) a' w)
  (h:wpI P ops Q (fun w'=>Below w.heap.size w.drew w') (fun a1 w1=>qcl P ops A a1∧wpI P ops Q (fun w'=>Below w.heap.size w.drew w')
   (fun a2 w2=>∀ γ wf,(∀ x∈A,(γ x.j).isSome=true)→Ext w2 wf→Below w.heap.size w.drew wf→Made A γ w.heap.size wf→qam P ops Q (fun w'=>Below w.heap.size w.drew w') l2 (qbb γ a2 A) wf) l1 a1 w1) l0 a w.drew) :
  (Code.region id ops true).wp P Q a w:=by
 have hmj:(A.map fun x=>(x.j,x.d)).map (·.1)=A.map (·.j):=by rw [List.map_map];rfl
 have hmd:(A.map fun x=>(x.j,x.d)).map (·.2)=A.map (·.d):=by rw [List.map_map];rfl
 unfold qdk at hc
 simp only [hmj,hmd,Bool.and_eq_true,decide_eq_true_eq] at hc
 obtain ⟨⟨⟨⟨⟨⟨⟨⟨h1,h2⟩,h3⟩,h4⟩,h5⟩,h6⟩,h7⟩,h8⟩,h9⟩:=hc
 have hS0:Below w.heap.size w.drew w.drew:=Below.refl _ _
 refine wp_region_held_drew (S:=fun w'=>Below w.heap.size w.drew w') hm hS0 (fun _=>?_)
 refine qhh (m:=l1.length+(A.map (·.j)).length+l2.length) h1 hQ l0 _ a w.drew ops.size h2 (by omega) hS0 h ?_
 intro a1 fuel ⟨hO,hI⟩ hf
 have h5':∀ x∈A,∀ y∈A,∀ o,ops[y.j]? = some o→x.d∉o.looksAt ops:=by
  intro x hx y hy o ho
  simp only [List.all_eq_true,List.mem_map,forall_exists_index,and_imp,forall_apply_eq_imp_iff₂] at h5
  have:=h5 x hx y hy
  simp only [ho] at this
  simpa using this
 have h6':∀ x∈A,x.j∈Region.ready .any ops (lay l0 (Array.replicate ops.size false))∧(lay l0 (Array.replicate ops.size false)).getD x.j true=false:=by
  intro x hx
  simp only [List.all_eq_true,List.mem_map,forall_exists_index,and_imp,forall_apply_eq_imp_iff₂,Bool.and_eq_true] at h6
  have:=h6 x hx
  exact ⟨by simpa using this.1,by simpa using this.2⟩
 have key:=qgm (P:=P) (ops:=ops) (Q:=Q) (md:=.any) (S:=fun w'=>Below w.heap.size w.drew w') (A:=A) (N:=w.heap.size) (m:=l2.length)
  (K:=fun a2 w2=>∀ γ wf,(∀ x∈A,(γ x.j).isSome=true)→Ext w2 wf→Below w.heap.size w.drew wf→Made A γ w.heap.size wf→qam P ops Q (fun w'=>Below w.heap.size w.drew w') l2 (qbb γ a2 A) wf)
  h1 hQ (qch _ h3) (qch _ h4) h5' (fun w1 w2 he hb=>hb.trans (he.mono hb.size)) (fun w1 hb=>hb.size) (lay l1 (lay l0 (Array.replicate ops.size false)))
  (fun γ a2 w2 wf fuel hall hK he hb hM hf=>by
   rw [qiv _ A hall]
   exact qbx h1 (fun c a d v w=>hQ c _ _ w) l2 fuel _ _ wf h8 hf hb (hK γ wf hall he hb hM))
  fuel l1 (lay l0 (Array.replicate ops.size false)) a1 w.drew w.drew (fun _=>none) h7 rfl (by rw [qkq];simp) (fun x hx=>(h6' x hx).2) ?_ hI (Ext.refl _) hS0
  ⟨fun _ _ _ h=>(by cases h),fun _ _ _ h=>(by cases h),fun _ _ _ _ _ _ _ h=>(by cases h)⟩ hO (fun x hx=>(h6' x hx).1)
 ·rw [qhi,qib] at key
  exact key
 ·have h0:(A.filter fun _=>(none:Option Nat).isNone).length≤A.length:=List.length_filter_le _ _
  simp only [List.length_map] at hf
  show l1.length+(A.filter fun _=>(none:Option Nat).isNone).length+l2.length≤fuel
  omega
theorem qja {id:Nat} {a:Act} {w:World} (A:List Alc) (l0 l1 l2:List (Nat × Bool)) (hm:P.follows .mixedOrders=true)
  (hc:qdk ops (A.map fun x=>(x.j,x.d)) l0 l1 l2=true)
  (h:wpI P ops (NoPanic Q) (fun w'=>Below w.heap.size w.drew w') (fun a1 w1=>qcl P ops A a1∧wpI P ops (NoPanic Q) (fun w'=>Below w.heap.size w.drew w')
   (fun a2 w2=>∀ γ wf,(∀ x∈A,(γ x.j).isSome=true)→Ext w2 wf→Below w.heap.size w.drew wf→Made A γ w.heap.size wf→qam P ops (NoPanic Q) (fun w'=>Below w.heap.size w.drew w') l2 (qbb γ a2 A) wf) l1 a1 w1) l0 a w.drew) :
  (Code.region id ops true).wp P Q a w :=
 wp_region_noPanic (qmg A l0 l1 l2 hm hc (fun _ _ _ _ h=>h) h)
theorem qnt {id:Nat} {a:Act} {w:World} (l:List (Nat × Bool)) (hm:P.follows .mixedOrders=true) (hs:Region.noSelect ops=true)
  (hp:qcs .any ops l (Array.replicate ops.size false)=true) (hl:l.length≤ops.size)
  (h:qam P ops (NoPanic Q) (fun w'=>Below w.heap.size w.drew w') l a w.drew):(Code.region id ops true).wp P Q a w :=
 wp_region_noPanic (qhx l hm hs hp hl (fun _ _ _ _ _ h=>h) (Below.refl _ _) h)
theorem qdw {K K':Act→World→Prop} (hKK:∀ a w,K a w→K' a w):∀ (l:List (Nat × Bool)) (a:Act) (w:World),wpI P ops Q S K l a w→wpI P ops Q S K' l a w
 | [],a,w,h=>hKK a w h
 | (i,true)::r,a,w,h=>by
  obtain ⟨o,v,ho,hy,hr⟩:=h
  exact ⟨o,v,ho,hy,qdw hKK r _ _ hr⟩
 | (i,false)::r,a,w,h=>fun w' he hS=>wpOp_mono (fun a' w'' h'=>⟨h'.1,qdw hKK r _ _ h'.2⟩) (h w' he hS)
theorem qcz {id:Nat} {a:Act} {w:World} (x1:Alc) (l0 l1 l2:List (Nat × Bool)) (hm:P.follows .mixedOrders=true)
  (hc:qdk ops ([x1].map fun x=>(x.j,x.d)) l0 l1 l2=true)
  (h:wpI P ops (NoPanic Q) (fun w'=>Below w.heap.size w.drew w') (fun a1 w1=>qcl P ops [x1] a1∧wpI P ops (NoPanic Q) (fun w'=>Below w.heap.size w.drew w')
   (fun a2 w2=>∀ g1 wf,Ext w2 wf→Below w.heap.size w.drew wf→w.heap.size≤g1→g1<wf.heap.size→wf.heap[g1]? = some x1.o →
    qam P ops (NoPanic Q) (fun w'=>Below w.heap.size w.drew w') l2 (a2.put (some x1.d) (x1.val g1)) wf) l1 a1 w1) l0 a w.drew) :
  (Code.region id ops true).wp P Q a w:=by
 have hn:([x1].map (·.j)).Nodup:=by
  have hc':=hc
  unfold qdk at hc'
  simp only [Bool.and_eq_true] at hc'
  have h3:=qch _ hc'.1.1.1.1.1.1.2
  exact h3
 refine qja [x1] l0 l1 l2 hm hc (qdw (fun a1 w1 ⟨hO,hI⟩=>⟨hO,qdw (fun a2 w2 hK=>?_) l1 a1 w1 hI⟩) l0 a w.drew h)
 intro γ wf hall he hb hM
 obtain ⟨g1,e1⟩:=Option.isSome_iff_exists.1 (hall x1 (by simp))
 have hcov:qbb γ a2 [x1]=(a2.put (some x1.d) (x1.val g1)):=by simp only [qbb,e1]
 rw [hcov]
 exact hK g1 wf he hb (hM.lo x1 (by simp) g1 e1).1 (hM.lo x1 (by simp) g1 e1).2 (hM.at_ x1 (by simp) g1 e1)
theorem qmw {id:Nat} {a:Act} {w:World} (x1 x2:Alc) (l0 l1 l2:List (Nat × Bool)) (hm:P.follows .mixedOrders=true)
  (hc:qdk ops ([x1,x2].map fun x=>(x.j,x.d)) l0 l1 l2=true)
  (h:wpI P ops (NoPanic Q) (fun w'=>Below w.heap.size w.drew w') (fun a1 w1=>qcl P ops [x1,x2] a1∧wpI P ops (NoPanic Q) (fun w'=>Below w.heap.size w.drew w')
   (fun a2 w2=>∀ g1 g2 wf,Ext w2 wf→Below w.heap.size w.drew wf→w.heap.size≤g1→g1<wf.heap.size→wf.heap[g1]? = some x1.o→w.heap.size≤g2→g2<wf.heap.size→wf.heap[g2]? = some x2.o→g1≠g2 →
    qam P ops (NoPanic Q) (fun w'=>Below w.heap.size w.drew w') l2 ((a2.put (some x2.d) (x2.val g2)).put (some x1.d) (x1.val g1)) wf) l1 a1 w1) l0 a w.drew) :
  (Code.region id ops true).wp P Q a w:=by
 have hn:([x1,x2].map (·.j)).Nodup:=by
  have hc':=hc
  unfold qdk at hc'
  simp only [Bool.and_eq_true] at hc'
  have h3:=qch _ hc'.1.1.1.1.1.1.2
  exact h3
 refine qja [x1,x2] l0 l1 l2 hm hc (qdw (fun a1 w1 ⟨hO,hI⟩=>⟨hO,qdw (fun a2 w2 hK=>?_) l1 a1 w1 hI⟩) l0 a w.drew h)
 intro γ wf hall he hb hM
 obtain ⟨g1,e1⟩:=Option.isSome_iff_exists.1 (hall x1 (by simp))
 obtain ⟨g2,e2⟩:=Option.isSome_iff_exists.1 (hall x2 (by simp))
 have hcov:qbb γ a2 [x1,x2]=((a2.put (some x2.d) (x2.val g2)).put (some x1.d) (x1.val g1)):=by simp only [qbb,e1,e2]
 rw [hcov]
 simp only [List.map_cons,List.map_nil,List.nodup_cons,List.mem_cons,List.not_mem_nil,or_false,not_false_eq_true,List.nodup_nil,and_true] at hn
 exact hK g1 g2 wf he hb (hM.lo x1 (by simp) g1 e1).1 (hM.lo x1 (by simp) g1 e1).2 (hM.at_ x1 (by simp) g1 e1) (hM.lo x2 (by simp) g2 e2).1 (hM.lo x2 (by simp) g2 e2).2 (hM.at_ x2 (by simp) g2 e2) (hM.ne_ x1 (by simp) x2 (by simp) hn g1 g2 e1 e2)
theorem wpI_on {K:Act→World→Prop} {i:Nat} {r:List (Nat × Bool)} {a:Act} {w:World} {o:Oper} {v:Value} {d:Tmp} (ho:ops[i]? = some o) (hd:o.dst=some d) (hw:Region.wanted o (yielded ops a.tmps)=true)
  (hy:∀ w,S w→(execOp a.eval o).run P w=.ok (.value v) w)
  (h:wpI P ops Q S K r { a with tmps:=a.tmps.setIfInBounds d v } w):wpI P ops Q S K ((i,true)::r) a w :=
 ⟨o,v,ho,.inl ⟨hw,hy⟩,by rw [hd];exact h⟩
theorem qae {o:Oper} {y:Nat→Option Bool} (hg:o.guard=none):Region.wanted o y=true:=by simp [Region.wanted,hg]
theorem qcf {o:Oper} {a:Act} {j:Nat} {want:Bool} {d:Tmp} (hg:o.guard=some (j,want)) (hd:(ops[j]?).bind (·.dst)=some d) (hv:a.tmps[d]? = some (.bool want)) :
  Region.wanted o (yielded ops a.tmps)=true:=by simp [Region.wanted,hg,yielded,hd,hv]
theorem qji {o:Oper} {a:Act} {j:Nat} {want:Bool} {d:Tmp} (hg:o.guard=some (j,want)) (hd:(ops[j]?).bind (·.dst)=some d) (hv:a.tmps[d]? = some (.bool (!want))) :
  Region.wanted o (yielded ops a.tmps)=false:=by cases want <;> simp [Region.wanted,hg,yielded,hd,hv]
theorem qgi {o:Oper} {a:Act} {j:Nat} {want:Bool} {d:Tmp} (hg:o.guard=some (j,want)) (hd:(ops[j]?).bind (·.dst)=some d) (hv:a.tmps[d]? = some undef) :
  Region.wanted o (yielded ops a.tmps)=false:=by simp [Region.wanted,hg,yielded,hd,hv,undef]
theorem qad {a:Act} {w:World} (h:Q .normal a w):qam P ops (NoPanic Q) S [] a w:=h
theorem qbn {K:Act→World→Prop} {a:Act} {w:World} (h:K a w):wpI P ops Q S K [] a w:=h
theorem wpI_off {K:Act→World→Prop} {i:Nat} {r:List (Nat × Bool)} {a:Act} {w:World} {o:Oper} {d:Tmp} (ho:ops[i]? = some o) (hd:o.dst=some d) (hw:Region.wanted o (yielded ops a.tmps)=false)
  (h:wpI P ops Q S K r { a with tmps:=a.tmps.setIfInBounds d undef } w):wpI P ops Q S K ((i,true)::r) a w :=
 ⟨o,undef,ho,.inr ⟨hw,rfl⟩,by rw [hd];exact h⟩
theorem wpI_do {K:Act→World→Prop} {i:Nat} {r:List (Nat × Bool)} {a:Act} {w:World} {o:Oper} (ho:ops[i]? = some o) (hw:Region.wanted o (yielded ops a.tmps)=true)
  (h:∀ w',Ext w w'→S w'→∀ K':Act→World→Prop,Shut (∀ a w,Ext w' w→wpI P ops Q S K r a w→K' a w)→Oper.wp P o a w' K' Q):wpI P ops Q S K ((i,false)::r) a w:=by
 intro w' he hS
 have:=wpOp_step (P:=P) (ops:=ops) (Q:=Q) (a:=a) (w:=w') (K:=fun a'' w''=>Ext w' w''∧wpI P ops Q S K r a'' w'') ho (fun K' hK=>by
  rw [if_pos hw]
  exact h w' he hS K' (fun a w hs hr=>hK a w ⟨hs,hr⟩))
 exact this
end
attribute [irreducible] qam wpI
def Blk (w:World) (g:Nat) (t:TypeId) (cs:Array Value):Prop:=w.heap[g]? = some (.cells cs t (0,0))
section
variable {w w':World} {g:Nat} {t:TypeId} {cs:Array Value}
theorem Blk.lt (h:Blk w g t cs):g<w.heap.size:=by
 rcases Nat.lt_or_ge g w.heap.size with hlt|hge
 ·exact hlt
 ·unfold Blk at h;rw [Array.getElem?_eq_none hge] at h;cases h
theorem Blk.cell (h:Blk w g t cs) (i:Nat):w.cell? ⟨g,i,none⟩=cs[i]?:=cell_of_row w g i cs t (0,0) h
theorem Blk.frozen (h:Blk w g t cs) (i:Nat):w.frozen? ⟨g,i,none⟩=false:=by
 unfold Blk at h
 simp [World.frozen?,h]
theorem Blk.new (w:World) (t:TypeId) (cs:Array Value):Blk (w.alloc (.cells cs t)) w.heap.size t cs:=heap_alloc_new w _
theorem Blk.alloc (h:Blk w g t cs) (o:Obj):Blk (w.alloc o) g t cs:=(Below.heap_alloc w o g h.lt).trans h
theorem Blk.set_ (h:Blk w g t cs) (i:Nat) (u:Value):Blk (w.setCell ⟨g,i,none⟩ u) g t (cs.setIfInBounds i u):=by
 unfold Blk at h ⊢
 simp [World.setCell,Array.getElem?_modify,h]
theorem Blk.far (h:Blk w g t cs) {p:Addr} (hp:g≠p.block) (u:Value):Blk (w.setCell p u) g t cs:=(Below.heap_setCell w p u g hp).trans h
theorem Blk.below {B:Nat} (h:Blk w g t cs) (hb:Below B w w') (hg:g<B):Blk w' g t cs:=(hb.block g hg).trans h
theorem Blk.ext (h:Blk w g t cs) (hb:Below w.heap.size w w'):Blk w' g t cs:=h.below hb h.lt
theorem Blk.grown {row:Option Nat} (h:Blk w g t cs) (hb:w.grownBy w' row) (hg:some g≠row):Blk w' g t cs:=(hb.block g h.lt hg).trans h
theorem qbi (w:World) (n:Nat) (t:TypeId) (cs:Array Value) (h:w.heap.size=n):Blk (w.alloc (.cells cs t)) n t cs:=by subst h;exact Blk.new w t cs
theorem Blk.three {x y z:Value} (h:Blk w g t #[x,y,z]) (hb:Below w.heap.size w w'):w'.cell? ⟨g,0,none⟩=some x∧w'.cell? ⟨g,1,none⟩=some y∧w'.cell? ⟨g,2,none⟩=some z :=
 ⟨(h.ext hb).cell 0,(h.ext hb).cell 1,(h.ext hb).cell 2⟩
theorem Blk.free3 {x y z:Value} (h:Blk w g t #[x,y,z]):w.frozen? ⟨g,0,none⟩=false∧w.frozen? ⟨g,1,none⟩=false∧w.frozen? ⟨g,2,none⟩=false :=
 ⟨h.frozen 0,h.frozen 1,h.frozen 2⟩
theorem Blk.set3 {x y z:Value} (h:Blk w g t #[x,y,z]) (a b c:Value):∃ w',w'=((w.setCell ⟨g,0,none⟩ a).setCell ⟨g,1,none⟩ b).setCell ⟨g,2,none⟩ c∧Blk w' g t #[a,b,c] ∧
  (∀ B,B≤g→Below B w w')∧(∀ g' t' cs',g'≠g→Blk w g' t' cs'→Blk w' g' t' cs')∧w.heap.size≤w'.heap.size:=by
 refine ⟨_,rfl,?_,fun B hB=>(((Below.refl _ _).setCell hB _).setCell hB _).setCell hB _,fun g' t' cs' hne hb=>((hb.far hne _).far hne _).far hne _,by simp [World.setCell]⟩
 have h3:=((h.set_ 0 a).set_ 1 b).set_ 2 c
 simpa using h3
end
section
variable {H:Type} {enc:TypeId × Value→H} {P:Program}
theorem qnq {f:Func} {s:ChangeSpec} {apart qgj handsOn again:Bool} {W W':World} {args:Array Value} {v:Value} {ds gs:List (DataW H)} {before pa pv:List MemPlace}
  (hW:DataW.Whole enc P f.params.toList s.vars apart W args.toList ds gs before)
  (hres:∀ (b:Nat) (sp:Nat→Bool) (hd:Bool),DataW.TrodAll enc P W' b sp hd f.resultTypes.toList (v.resultList f.resultTypes.size) (s.fn H (ds++gs)).results [])
  (hargs:∀ sp:Nat→Bool,(∀ p∈before,sp p.block=true)→DataW.TrodAll enc P W' 0 sp true f.params.toList args.toList (s.fn H (ds++gs)).args pa)
  (hvars:∀ sp:Nat→Bool,(∀ p∈before,sp p.block=true)→DataW.TrodVars enc P W' sp s.vars (s.fn H (ds++gs)).vars pv)
  (hps:before=pa++pv) (hb:Below W.heap.size W W')
  (hok:∀ (j:Nat) (t:TypeId) (r:Value),f.resultTypes[j]? = some t→(v.resultList f.resultTypes.size)[j]? = some r→Value.okWide P W' .any 0 t r) :
  s.post enc P f apart qgj handsOn again W args v W':=by
 have hlt:∀ p∈before,p.block<W.heap.size:=fun p hp=>hW.lt p hp
 have hold:∀ p∈before,(fun b=>decide (b<W.heap.size)) p.block=true:=fun p hp=>by simpa using hlt p hp
 refine ⟨ds,gs,before,[],pa,pv,hW,hres _ _ _,hargs _ hold,hvars _ hold,World.keptBut_mono (fun p hp=>⟨hp,?_⟩) (hb.frame (·∈before)),fun _=>?_⟩
 ·rw [hps,List.mem_append] at hp
  exact Or.inr hp
 ·obtain ⟨_,_,_,_,_,hz,hn⟩:=hW
  refine ⟨hok,_,_,([]++pa)++pv,⟨[]++pa,pv,trodAll_append (hargs _ (fun _ _=>rfl)) (hres _ _ _),hvars _ (fun _ _=>rfl),rfl,?_,?_⟩,?_⟩
  ·intro b off hp
   have hin:MemPlace.cell b off∈before:=by rw [hps];simpa using hp
   rw [hb.frozen (hlt _ hin)]
   exact hz b off hin
  ·intro ha
   have:=hn ha
   rw [hps] at this
   simpa using this
  ·intro p hp _
   rw [hps]
   simpa using hp
theorem qjb (hl:laidOutB P=true) {W W':World} {sp:Nat→Bool}:∀ (ts:List TypeId) (vs:List Value) (ds:List (DataW H)) (ps:List MemPlace),(∀ t∈ts,P.readableRec t=true∧t<P.types.size) →
  DataW.TrodAll enc P W 0 (fun _=>true) true ts vs ds ps→(∀ p∈ps,W.sameAt W' p)→(∀ p∈ps,sp p.block=true)→DataW.TrodAll enc P W' 0 sp true ts vs ds ps
 | [],[],[],ps,_,h,_,_=>h
 | t::ts,v::vs,d::ds,ps,ht,h,hs,hp=>by
  obtain ⟨p,q,h1,h2,rfl⟩:=h
  have e:=ht t (List.mem_cons_self ..)
  exact ⟨p,q,WideElems.Trod_stays hl e.1 e.2 h1 (fun x hx=>hs x (List.mem_append_left _ hx)) (fun x hx=>hp x (List.mem_append_left _ hx)),
   qjb hl ts vs ds q (fun u hu=>ht u (List.mem_cons_of_mem _ hu)) h2 (fun x hx=>hs x (List.mem_append_right _ hx)) (fun x hx=>hp x (List.mem_append_right _ hx)),rfl⟩
 | [],_::_,_,_,_,h,_,_=>False.elim h
 | [],[],_::_,_,_,h,_,_=>False.elim h
 | _::_,[],_,_,_,h,_,_=>False.elim h
 | _::_,_::_,[],_,_,h,_,_=>False.elim h
theorem post_law {f:Func} {s:ChangeSpec} {t:TypeId} {W W':World} {args:Array Value} {ds gs:List (DataW H)} {before:List MemPlace} (hl:laidOutB P=true)
  (hts:∀ t∈f.params.toList,P.readableRec t=true∧t<P.types.size) (hr:f.resultTypes=#[t]) (ht:P.underlying t=some .bool) (hv:s.vars=[])
  (hs:s.fn H (ds++gs) = { results:=[.lit (.bool true)],args:=ds })
  (hW:DataW.Whole enc P f.params.toList s.vars false W args.toList ds gs before) (hb:Below W.heap.size W W') :
  s.post enc P f false true false false W args (.bool true) W':=by
 have hW':=hW
 obtain ⟨p,q,hA,hV,rfl,hz,hn⟩:=hW
 have hlt:∀ x∈p,x.block<W.heap.size:=fun x hx=>hW'.lt x (List.mem_append_left _ hx)
 rw [hv] at hV
 obtain ⟨rfl,rfl⟩:=trodVars_none hV
 refine qnq (pa:=p) (pv:=[]) hW' ?_ ?_ ?_ rfl hb ?_
 ·intro b sp hd
  rw [hs,hr]
  exact trodAll_mk1 (shut_bool ht true)
 ·intro sp hsp
  rw [hs]
  exact qjb hl _ _ _ _ hts hA (fun x hx=>hb.same (hlt x hx)) (fun x hx=>hsp x (List.mem_append_left _ hx))
 ·intro sp _
  rw [hs,hv]
  rfl
 ·intro j u r hj hr'
  rw [hr] at hj hr'
  match j,hj,hr' with
  | 0,hj,hr' =>
   simp at hj
   subst hj
   have:r=.bool true:=by simpa [Value.resultList] using hr'.symm
   subst this
   exact okWide_bool_mk ht true
end
theorem parsOk {P:Program} {ts:List TypeId} (h:(ts.all fun t=>P.readableRec t && decide (t<P.types.size))=true):∀ t∈ts,P.readableRec t=true∧t<P.types.size:=by
 intro t ht
 have:=List.all_eq_true.1 h t ht
 simpa using this
theorem bd64 {n:Int} (h:(Lit.int .i64 n).wf=true):-9223372036854775808≤n∧n≤9223372036854775807:=by
 simpa [Lit.wf,IntKind.min,IntKind.max,IntKind.signed,IntKind.bits] using h
section
variable {P:Program} {ops:Array Oper} {Q:Exit→Act→World→Prop} {S:World→Prop} {K:Act→World→Prop} {i:Nat} {r:List (Nat × Bool)} {a:Act} {w:World} {o:Oper} {v:Value} {d:Tmp}
theorem pG (h:qam P ops Q S ((i,true)::r) a w):qam P ops Q S ((i,true)::r) a w:=h
theorem iG (h:wpI P ops Q S K ((i,true)::r) a w):wpI P ops Q S K ((i,true)::r) a w:=h
theorem pN (i:Nat) (h:qam P ops Q S ((i,false)::r) a w):qam P ops Q S ((i,false)::r) a w:=h
theorem pT (h:qam P ops Q S r { a with tmps:=a.tmps.setIfInBounds d v } w) (ho:ops[i]? = some o:=by rfl) (hd:o.dst=some d:=by rfl) (hw:Region.wanted o (yielded ops a.tmps)=true:=by first|exact qae rfl|exact qcf rfl rfl rfl)
  (hy:∀ w,S w→(execOp a.eval o).run P w=.ok (.value v) w:=by (intro w' hS;go_simp;(try with_reducible rfl);done)):qam P ops Q S ((i,true)::r) a w:=qas ho hd hw hy h
theorem pF (h:qam P ops Q S r { a with tmps:=a.tmps.setIfInBounds d undef } w) (ho:ops[i]? = some o:=by rfl) (hd:o.dst=some d:=by rfl) (hw:Region.wanted o (yielded ops a.tmps)=false:=by first|exact qji rfl rfl rfl|exact qgi rfl rfl rfl) :
  qam P ops Q S ((i,true)::r) a w:=qqo ho hd hw h
theorem iT (h:wpI P ops Q S K r { a with tmps:=a.tmps.setIfInBounds d v } w) (ho:ops[i]? = some o:=by rfl) (hd:o.dst=some d:=by rfl) (hw:Region.wanted o (yielded ops a.tmps)=true:=by first|exact qae rfl|exact qcf rfl rfl rfl)
  (hy:∀ w,S w→(execOp a.eval o).run P w=.ok (.value v) w:=by (intro w' hS;go_simp;(try with_reducible rfl);done)):wpI P ops Q S K ((i,true)::r) a w:=wpI_on ho hd hw hy h
theorem iF (h:wpI P ops Q S K r { a with tmps:=a.tmps.setIfInBounds d undef } w) (ho:ops[i]? = some o:=by rfl) (hd:o.dst=some d:=by rfl) (hw:Region.wanted o (yielded ops a.tmps)=false:=by first|exact qji rfl rfl rfl|exact qgi rfl rfl rfl) :
  wpI P ops Q S K ((i,true)::r) a w:=wpI_off ho hd hw h
theorem pD (h:∀ K:Act→World→Prop,Shut (∀ a w,S w→qam P ops Q S r a w→K a w)→Oper.wp P o a w K Q) (ho:ops[i]? = some o:=by rfl) (hw:Region.wanted o (yielded ops a.tmps)=true:=by first|exact qae rfl|exact qcf rfl rfl rfl) :
  qam P ops Q S ((i,false)::r) a w:=qaj ho hw h
theorem iD (h:∀ w',Ext w w'→S w'→∀ K':Act→World→Prop,Shut (∀ a w,Ext w' w→wpI P ops Q S K r a w→K' a w)→Oper.wp P o a w' K' Q) (ho:ops[i]? = some o:=by rfl) (hw:Region.wanted o (yielded ops a.tmps)=true:=by first|exact qae rfl|exact qcf rfl rfl rfl) :
  wpI P ops Q S K ((i,false)::r) a w:=wpI_do ho hw h
end
theorem _root_.Go.RowKit.Below.tr {a b c:World} {n:Nat} (h:Below n a b) (k:Below b.heap.size b c) (hn:n≤a.heap.size:=by first|exact Nat.le_refl _|omega):Below n a c:=h.trans (Below.mono k (Nat.le_trans hn h.size))
theorem bl_tr {a b c:World} (h:Below a.heap.size a b) (k:Hid (Below b.heap.size b c)):Below a.heap.size a c:=h.tr k.out
theorem al1 (w:World) (t1:TypeId) (c1:Array Value):∃ W,W=(w.alloc (.cells c1 t1))∧Below w.heap.size w W∧Blk W (w.heap.size) t1 c1:=⟨_,rfl,((Below.refl _ _).alloc (Nat.le_refl _) _),(qbi w (w.heap.size) _ _ (by simp))⟩
theorem al2 (w:World) (t1 t2:TypeId) (c1 c2:Array Value):∃ W,W=((w.alloc (.cells c1 t1)).alloc (.cells c2 t2))∧Below w.heap.size w W∧Blk W (w.heap.size) t1 c1∧Blk W (w.heap.size+1) t2 c2:=⟨_,rfl,(((Below.refl _ _).alloc (Nat.le_refl _) _).alloc (by simp;try omega) _),((qbi w (w.heap.size) _ _ (by simp)).alloc _),(qbi (w.alloc (.cells c1 t1)) (w.heap.size+1) _ _ (by simp))⟩
theorem al3 (w:World) (t1 t2 t3:TypeId) (c1 c2 c3:Array Value):∃ W,W=(((w.alloc (.cells c1 t1)).alloc (.cells c2 t2)).alloc (.cells c3 t3))∧Below w.heap.size w W∧Blk W (w.heap.size) t1 c1∧Blk W (w.heap.size+1) t2 c2∧Blk W (w.heap.size+1+1) t3 c3:=⟨_,rfl,((((Below.refl _ _).alloc (Nat.le_refl _) _).alloc (by simp;try omega) _).alloc (by simp;try omega) _),(((qbi w (w.heap.size) _ _ (by simp)).alloc _).alloc _),((qbi (w.alloc (.cells c1 t1)) (w.heap.size+1) _ _ (by simp)).alloc _),(qbi ((w.alloc (.cells c1 t1)).alloc (.cells c2 t2)) (w.heap.size+1+1) _ _ (by simp))⟩
theorem al4 (w:World) (t1 t2 t3 t4:TypeId) (c1 c2 c3 c4:Array Value):∃ W,W=((((w.alloc (.cells c1 t1)).alloc (.cells c2 t2)).alloc (.cells c3 t3)).alloc (.cells c4 t4))∧Below w.heap.size w W∧Blk W (w.heap.size) t1 c1∧Blk W (w.heap.size+1) t2 c2∧Blk W (w.heap.size+1+1) t3 c3∧Blk W (w.heap.size+1+1+1) t4 c4:=⟨_,rfl,(((((Below.refl _ _).alloc (Nat.le_refl _) _).alloc (by simp;try omega) _).alloc (by simp;try omega) _).alloc (by simp;try omega) _),((((qbi w (w.heap.size) _ _ (by simp)).alloc _).alloc _).alloc _),(((qbi (w.alloc (.cells c1 t1)) (w.heap.size+1) _ _ (by simp)).alloc _).alloc _),((qbi ((w.alloc (.cells c1 t1)).alloc (.cells c2 t2)) (w.heap.size+1+1) _ _ (by simp)).alloc _),(qbi (((w.alloc (.cells c1 t1)).alloc (.cells c2 t2)).alloc (.cells c3 t3)) (w.heap.size+1+1+1) _ _ (by simp))⟩
theorem zh {p:Prop} (h:p):Hid p:=Lib.hid h
theorem zb (B:Nat) (w:World):Below B w w:=Below.refl B w
theorem zm {B B':Nat} {w w':World} (h:Below B w w') (k:B'≤B):Below B' w w':=Below.mono h k
theorem zt {B:Nat} {a b c:World} (h:Below B a b) (k:Below B b c):Below B a c:=Below.trans h k
theorem ip (P:Program) (e:TypeId) (z:Value) (size bytes:Nat) (h:(P.info? e).map (fun i=>(i.zero,i.size,i.bytes))=some (some z,size,bytes):=by kernel_rfl):∃ i,P.info? e=some i∧i.zero=some z∧i.size=size∧i.bytes=bytes:=info_parts h
theorem zl (n:Nat):n≤n:=Nat.le_refl n
theorem za {a b:Prop} (h:a) (k:b):a∧b:=⟨h,k⟩
theorem _root_.Go.RowKit.Below.gw {a b c:World} {g:Nat} (h:Below a.heap.size a b) (hg:b.grownBy c (some g)) (h2:a.heap.size≤g:=by omega):Below a.heap.size a c:=h.grown hg h.size (fun k hk=>by injection hk with hk;omega)
section
variable {P:Program} {ops:Array Oper} {Q:Exit→Act→World→Prop} {r:List Oper} {a:Act} {w:World}
theorem sS {t:TypeId} {y:Operand} {p:_} {q:_} {s:_} {u:_} (n:Nat) (h:wpList P ops Q (Oper.mk none (Op.store t (Operand.tmp n) y) p q s u::r) a w):wpList P ops Q (Oper.mk none (Op.store t (Operand.tmp n) y) p q s u::r) a w:=h
theorem sT {o:Op} {p:_} {q:_} {s:_} {u:_} (n:Nat) (h:wpList P ops Q (Oper.mk (some n) o p q s u::r) a w):wpList P ops Q (Oper.mk (some n) o p q s u::r) a w:=h
theorem r1 {id:Nat} (l:List (Nat × Bool)) (h:qam P ops (NoPanic Q) (fun w'=>Below w.heap.size w.drew w') l a w.drew) (hm:P.follows .mixedOrders=true:=by kernel_rfl) (hs:Region.noSelect ops=true:=by kernel_rfl)
  (hp:qcs .any ops l (Array.replicate ops.size false)=true:=by kernel_rfl) (hl:l.length≤ops.size:=by decide):(Code.region id ops true).wp P Q a w:=qnt l hm hs hp hl h
end
def Row (w:World) (lo:Nat) (A:Option Addr) (n c:Nat) (cs:List Value):Prop :=
 (A=none/\n=0/\c=0/\cs=[])\/(∃ ad,A=some ad/\n=0/\n<=c/\cs=[])\/∃ b off,A=some ⟨b,off,none⟩/\n<=c/\lo<=b/\b<w.heap.size/\∀ (i:Nat) u,cs[i]? = some u->w.cell? ⟨b,off+i,none⟩=some u
theorem Row.nil (w:World) (lo:Nat):Row w lo none 0 0 []:=.inl ⟨rfl,rfl,rfl,rfl⟩
theorem Row.empty (w:World) (lo c:Nat) (ad:Addr):Row w lo (some ad) 0 c []:=.inr (.inl ⟨ad,rfl,rfl,Nat.zero_le _,rfl⟩)
theorem Row.below {w w':World} {lo B n c:Nat} {A:Option Addr} {cs:List Value} (h:Row w lo A n c cs) (hb:Below B w w') (hB:w.heap.size<=B):Row w' lo A n c cs:=by
 rcases h with h|h|⟨b,off,e,hnc,hlo,hlt,hc⟩
 ·exact .inl h
 ·exact .inr (.inl h)
 ·exact .inr (.inr ⟨b,off,e,hnc,hlo,Nat.lt_of_lt_of_le hlt hb.size,fun i u hu=>(hb.cell (Nat.lt_of_lt_of_le hlt hB)).trans (hc i u hu)⟩)
theorem Row.ext {w w':World} {lo n c:Nat} {A:Option Addr} {cs:List Value} (h:Row w lo A n c cs) (hb:Below w.heap.size w w'):Row w' lo A n c cs:=h.below hb (zl _)
theorem Row.base {w:World} {lo lo' n c:Nat} {A:Option Addr} {cs:List Value} (h:Row w lo A n c cs) (hl:lo'<=lo):Row w lo' A n c cs:=by
 rcases h with h|h|⟨b,off,e,hnc,hlo,hlt,hc⟩
 ·exact .inl h
 ·exact .inr (.inl h)
 ·exact .inr (.inr ⟨b,off,e,hnc,Nat.le_trans hl hlo,hlt,hc⟩)
theorem Row.grown {w w':World} {row:Option Nat} {lo n c:Nat} {A:Option Addr} {cs:List Value} (h:Row w lo A n c cs) (hg:w.grownBy w' row) (hr:∀ b off,A=some ⟨b,off,none⟩->some b≠row):Row w' lo A n c cs:=by
 rcases h with h|h|⟨b,off,e,hnc,hlo,hlt,hc⟩
 ·exact .inl h
 ·exact .inr (.inl h)
 ·exact .inr (.inr ⟨b,off,e,hnc,hlo,Nat.lt_of_lt_of_le hlt hg.size,fun i u hu=>(World.cell?_of_block (hg.block b hlt (hr b off e))).trans (hc i u hu)⟩)
theorem Row.farL {w:World} {lo n c:Nat} {A:Option Addr} {cs:List Value} (h:Row w lo A n c cs) {p:Addr} (u:Value) (hp:p.block<lo):Row (w.setCell p u) lo A n c cs:=by
 rcases h with h|h|⟨b,off,e,hnc,hlo,hlt,hc⟩
 ·exact .inl h
 ·exact .inr (.inl h)
 ·exact .inr (.inr ⟨b,off,e,hnc,hlo,by simpa [World.setCell] using hlt,fun i u' hu=>(World.cell?_of_block (Below.heap_setCell w p u b (by omega))).trans (hc i u' hu)⟩)
theorem Row.grownL {w w':World} {g lo n c:Nat} {A:Option Addr} {cs:List Value} (h:Row w lo A n c cs) (hg:w.grownBy w' (some g)) (hl:g<lo):Row w' lo A n c cs:=by
 rcases h with h|h|⟨b,off,e,hnc,hlo,hlt,hc⟩
 ·exact .inl h
 ·exact .inr (.inl h)
 ·exact .inr (.inr ⟨b,off,e,hnc,hlo,Nat.lt_of_lt_of_le hlt hg.size,fun i u hu=>(World.cell?_of_block (hg.block b hlt (by simp;omega))).trans (hc i u hu)⟩)
theorem Row.le_ {w:World} {lo n c:Nat} {A:Option Addr} {cs:List Value} (h:Row w lo A n c cs):n<=c:=by
 rcases h with h|⟨_,_,_,h,_⟩|⟨b,off,e,hnc,_⟩
 ·omega
 ·exact h
 ·exact hnc
theorem Row.some_ {w:World} {lo n c:Nat} {A:Option Addr} {cs:List Value} (h:Row w lo A n c cs) (hn:0<n):∃ b off,A=some ⟨b,off,none⟩/\n<=c/\lo<=b/\b<w.heap.size:=by
 rcases h with h|⟨_,_,h,_⟩|⟨b,off,e,hnc,hlo,hlt,hc⟩
 ·omega
 ·omega
 ·exact ⟨b,off,e,hnc,hlo,hlt⟩
theorem Row.at_ {w:World} {lo n c b off:Nat} {cs:List Value} (h:Row w lo (some ⟨b,off,none⟩) n c cs) {i:Nat} {u:Value} (hu:cs[i]? = some u):w.cell? ⟨b,off+i,none⟩=some u:=by
 rcases h with h|⟨_,_,_,_,h⟩|⟨b',off',e,hnc,hlo,hlt,hc⟩
 ·cases h.1
 ·rw [h] at hu;simp at hu
 ·injection e with e
  injection e with e1 e2
  subst e1 e2
  exact hc i u hu
theorem Row.src {w:World} {lo n c b off:Nat} {cs:List Value} (h:Row w lo (some ⟨b,off,none⟩) n c cs):∀ j u,cs[j]? = some u->w.cell? ((⟨b,off,none⟩:Addr).add j)=some u:=fun j u hu=>by
 rw [Addr.add_lit];exact h.at_ hu
theorem Row.src' {w:World} {lo n c:Nat} {ad:Addr} {cs:List Value} (h:Row w lo (some ad) n c cs):∀ j u,cs[j]? = some u->w.cell? (ad.add j)=some u:=fun j u hu=>by
 rcases h with h|⟨_,_,_,_,h⟩|⟨b',off',e,hnc,hlo,hlt,hc⟩
 ·cases h.1
 ·rw [h] at hu;simp at hu
 ·injection e with e
  subst e
  rw [Addr.add_lit]
  exact hc j u hu
theorem Row.take {w:World} {lo n c b off:Nat} {cs:List Value} (h:Row w lo (some ⟨b,off,none⟩) n c cs) (m m' k:Nat) (hm:m<=m') (hn:m<=n):Row w lo (some ⟨b,off,none⟩) m m' (cs.take k):=by
 rcases h with h|⟨_,_,h1,_,h⟩|⟨b',off',e,hnc,hlo,hlt,hc⟩
 ·cases h.1
 ·subst h
  obtain rfl:m=0:=by omega
  rw [List.take_nil]
  exact Row.empty w lo _ _
 ·refine .inr (.inr ⟨b',off',e,hm,hlo,hlt,fun i u hu=>hc i u ?_⟩)
  rw [List.getElem?_take] at hu
  split at hu
  ·exact hu
  ·cases hu
theorem Row.drop {w:World} {lo n c b off:Nat} {cs:List Value} (h:Row w lo (some ⟨b,off,none⟩) n c cs) (m m' k:Nat) (hm:m<=m') (hn:m<=n):Row w lo (some ⟨b,off+k,none⟩) m m' (cs.drop k):=by
 rcases h with h|⟨_,_,h1,_,h⟩|⟨b',off',e,hnc,hlo,hlt,hc⟩
 ·cases h.1
 ·subst h
  obtain rfl:m=0:=by omega
  rw [List.drop_nil]
  exact Row.empty w lo _ _
 ·injection e with e
  injection e with e1 e2
  subst e1 e2
  refine .inr (.inr ⟨b,off+k,rfl,hm,hlo,hlt,fun i u hu=>?_⟩)
  rw [List.getElem?_drop] at hu
  rw [Nat.add_assoc]
  exact hc _ _ hu
theorem qan {w:World} {base:Nat} {t:TypeId} {size n:Nat} {v:Value} {xs:List Value} (h:w.ownsRow base t size v n xs):∃ A c,v=.slice A n c:=by
 rcases h.2 with ⟨rfl,rfl⟩|⟨g,cap,cur,rfl,_⟩
 ·exact ⟨none,0,rfl⟩
 ·exact ⟨_,cap,rfl⟩
theorem qay {w w':World} {base:Nat} {e:TypeId} {size n:Nat} {v:Value} {xs:List Value} (h:w.ownsRow base e size v n xs) (hb:Below w.heap.size w w'):w'.ownsRow base e size v n xs:=by
 refine h.kept (w':=w') (row:=none) ⟨hb.os,hb.tape,hb.output,hb.size,fun k hk _=>hb.block k hk⟩ ?_
 cases ho:v.ownBlock with
 | none=>exact .inl rfl
 | some b=>exact .inr (by simp)
theorem qat {w:World} {base base':Nat} {e:TypeId} {size n:Nat} {v:Value} {xs:List Value} (h:w.ownsRow base' e size v n xs) (hb:base<=base'):w.ownsRow base e size v n xs:=by
 refine ⟨h.1,?_⟩
 rcases h.2 with h2|⟨g,cap,cur,e,h3,h4⟩
 ·exact .inl h2
 ·exact .inr ⟨g,cap,cur,e,Nat.le_trans hb h3,h4⟩
theorem Row.of_own {w:World} {base:Nat} {t:TypeId} {size n:Nat} {A:Option Addr} {c:Nat} {xs:List Value} (h:w.ownsRow base t size (.slice A n c) n xs):Row w base A n c xs:=by
 rcases h.2 with ⟨e,h0⟩|⟨g,cap,cur,e,hg,hgg,hnc,_,_,_⟩
 ·injection e with e1 e2 e3
  subst e1 e3 h0
  refine .inl ⟨rfl,rfl,rfl,?_⟩
  have:=h.1
  exact List.length_eq_zero_iff.1 (by simpa using this)
 ·injection e with e1 e2 e3
  subst e1 e3
  refine .inr (.inr ⟨g,0,rfl,hnc,hg,(Array.getElem?_eq_some_iff.1 hgg).1,fun i u hu=>?_⟩)
  have hi:i<xs.length:=(List.getElem?_eq_some_iff.1 hu).1
  rw [h.1] at hi
  rw [Nat.zero_add,h.cellAt i hi]
  exact hu
theorem Row.of_blk {w:World} {g lo:Nat} {t:TypeId} {cs:Array Value} (h:Blk w g t cs) (hl:lo<=g) (n c:Nat) (hn:n<=c):Row w lo (some ⟨g,0,none⟩) n c cs.toList :=
 .inr (.inr ⟨g,0,rfl,hn,hl,h.lt,fun i u hu=>by rw [Nat.zero_add,h.cell i];simpa using hu⟩)
section
variable {α:Type} (enc:α->List Value) (k:Nat)
def qal (l:List α):List Value:=l.flatMap enc
theorem qbl (a b:List α):qal enc (a++b)=qal enc a++qal enc b:=by simp [qal]
theorem qen (a:α):qal enc [a]=enc a:=by simp [qal]
theorem qgx (hk:∀ x,(enc x).length=k):∀ l:List α,(qal enc l).length=l.length * k
 | []=>by simp [qal]
 | h::r=>by
  have ih:=qgx hk r
  have e:qal enc (h::r)=enc h++qal enc r:=rfl
  rw [e,List.length_append,ih,List.length_cons,hk,Nat.succ_mul]
  omega
theorem qdg (hk:∀ x,(enc x).length=k):∀ (l:List α) (i:Nat) (o:α) (j:Nat) (u:Value),l[i]? = some o->(enc o)[j]? = some u->(qal enc l)[i * k+j]? = some u
 | [],i,o,j,u,h,_=>by cases h
 | y::r,0,o,j,u,h,hu=>by
  injection h with h
  subst h
  have e:qal enc (y::r)=enc y++qal enc r:=rfl
  have hj:=(List.getElem?_eq_some_iff.1 hu).1
  rw [e,Nat.zero_mul,Nat.zero_add,List.getElem?_append_left hj]
  exact hu
 | y::r,i+1,o,j,u,h,hu=>by
  have ih:=qdg hk r i o j u h hu
  have e:qal enc (y::r)=enc y++qal enc r:=rfl
  have e1:(i+1) * k+j=k+(i * k+j):=by rw [Nat.succ_mul];omega
  rw [e,e1,List.getElem?_append_right (by rw [hk];omega),hk,show k+(i * k+j) - k=i * k+j by omega]
  exact ih
theorem qdz (hk:∀ x,(enc x).length=k):∀ (l:List α) (n:Nat),(qal enc l).take (n * k)=qal enc (l.take n)
 | [],n=>by simp [qal]
 | y::r,0=>by simp [qal]
 | y::r,n+1=>by
  have ih:=qdz hk r n
  have e:qal enc (y::r)=enc y++qal enc r:=rfl
  have e2:qal enc ((y::r).take (n+1))=enc y++qal enc (r.take n):=rfl
  have e1:(n+1) * k=(enc y).length+n * k:=by rw [Nat.succ_mul,hk];omega
  rw [e,e2,e1,List.take_length_add_append,ih]
theorem qdx (hk:∀ x,(enc x).length=k):∀ (l:List α) (n:Nat),(qal enc l).drop (n * k)=qal enc (l.drop n)
 | [],n=>by simp [qal]
 | y::r,0=>by simp [qal]
 | y::r,n+1=>by
  have ih:=qdx hk r n
  have e:qal enc (y::r)=enc y++qal enc r:=rfl
  have e2:(y::r).drop (n+1)=r.drop n:=rfl
  have e1:(n+1) * k=(enc y).length+n * k:=by rw [Nat.succ_mul,hk];omega
  rw [e,e2,e1,List.drop_length_add_append,ih]
theorem qjt {p:Value->Prop} (h:∀ x,∀ u∈enc x,p u) (l:List α):∀ u∈qal enc l,p u:=by
 intro u hu
 unfold qal at hu
 rw [List.mem_flatMap] at hu
 obtain ⟨x,_,hx⟩:=hu
 exact h x u hx
end
theorem qds {w:World} {B g n c size:Nat} {e:TypeId} {cur:Array Value} {xs:List Value} (hB:B<=g) (h:Blk w g e cur) (hsz:cur.size=c * size) (hn:n<=c) (hc:c<=maxLen) (hl:xs.length=n * size)
  (hx:∀ (j:Nat) u,xs[j]? = some u->w.cell? ⟨g,j,none⟩=some u):w.ownsRow B e size (.slice (some ⟨g,0,none⟩) n c) n xs:=by
 refine ⟨hl,.inr ⟨g,c,cur,rfl,hB,h,hn,hc,hsz,?_⟩⟩
 have hle:n * size<=cur.size:=by rw [hsz];exact Nat.mul_le_mul_right _ hn
 apply List.ext_getElem?
 intro j
 rw [List.getElem?_take]
 by_cases hj:j<n * size
 ·rw [if_pos hj]
  have h1:=hx j _ (List.getElem?_eq_getElem (by rw [hl];exact hj))
  rw [h.cell j] at h1
  rw [List.getElem?_eq_getElem (show j<xs.length by rw [hl];exact hj),<-h1]
  simp
 ·rw [if_neg hj,List.getElem?_eq_none (by rw [hl];omega)]
theorem qfr {w:World} {B g n c size:Nat} {e:TypeId} {xs:List Value} (h:w.ownsRow B e size (.slice (some ⟨g,0,none⟩) n c) n xs):∃ cur:Array Value,Blk w g e cur/\cur.size=c * size/\n<=c/\c<=maxLen/\B<=g/\∀ (j:Nat) u,xs[j]? = some u->w.cell? ⟨g,j,none⟩=some u:=by
 have hr:=Row.of_own h
 rcases h.2 with ⟨h',_⟩|⟨g',cap,cur,h',hb,hg,hnc,hc,hcs,_⟩
 ·cases h'
 ·simp only [Value.slice.injEq,Option.some.injEq,Addr.mk.injEq,and_true,true_and] at h'
  obtain ⟨rfl,rfl⟩:=h'
  exact ⟨cur,hg,hcs,hnc,hc,hb,fun j u hu=>by have:=hr.at_ hu;rwa [Nat.zero_add] at this⟩
theorem Blk.setCells {g:Nat} {t:TypeId}:∀ (vs:List Value) (o:Nat) {w:World} {cs:Array Value},Blk w g t cs->∃ cs',Blk (w.setCells g o vs) g t cs'/\cs'.size=cs.size/\w.grownBy (w.setCells g o vs) (some g)
 | [],o,w,cs,h=>⟨cs,h,rfl,⟨rfl,rfl,rfl,zl _,fun _ _ _=>rfl⟩⟩
 | v::vs,o,w,cs,h=>by
  have h1:Blk (w.setCell ⟨g,o,none⟩ v) g t (cs.setIfInBounds o v):=h.set_ o v
  obtain ⟨cs',h2,h3,h4⟩:=Blk.setCells vs (o+1) h1
  refine ⟨cs',h2,by rw [h3];simp,?_⟩
  have h5:w.grownBy (w.setCell ⟨g,o,none⟩ v) (some g):=⟨rfl,rfl,rfl,by simp [World.setCell],fun k hk hne=>Below.heap_setCell _ _ _ _ (fun e=>hne (by rw [e]))⟩
  exact ⟨h4.os.trans h5.os,h4.tape.trans h5.tape,h4.output.trans h5.output,Nat.le_trans h5.size h4.size,fun k hk hne=>(h4.block k (Nat.lt_of_lt_of_le hk h5.size) hne).trans (h5.block k hk hne)⟩
theorem qiz (b:Nat) (vs:List Value) (o:Nat) (w:World) (h:∀ j,j<vs.length->(w.cell? ⟨b,o+j,none⟩).isSome=true) (k:Nat) (hk:(w.cell? ⟨b,k,none⟩).isSome=true):((w.setCells b o vs).cell? ⟨b,k,none⟩).isSome=true:=by
 by_cases hin:o<=k/\k<o+vs.length
 ·have h1:=World.cell?_setCells_in b vs o w h (k - o) (by omega)
  rw [show o+(k - o)=k by omega] at h1
  rw [h1];rfl
 ·rw [World.cell?_setCells_out b vs o w ⟨b,k,none⟩ (fun _ _=>by show k<o\/o+vs.length<=k;omega)]
  exact hk
theorem qnk {w:World} {g:Nat} (X E:List Value) (p:Nat) (hp:p<=X.length) (hX:∀ (j:Nat) u,X[j]? = some u->w.cell? ⟨g,j,none⟩=some u) (hall:∀ j,j<X.length+E.length->(w.cell? ⟨g,j,none⟩).isSome=true) :
  ∀ (j:Nat) u,(X.take p++(E++X.drop p))[j]? = some u->((w.setCells g (p+E.length) (X.drop p)).setCells g p E).cell? ⟨g,j,none⟩=some u:=by
 have hd:(X.drop p).length=X.length - p:=List.length_drop
 have h1:∀ j,j<(X.drop p).length->(w.cell? ⟨g,p+E.length+j,none⟩).isSome=true:=fun j hj=>hall _ (by omega)
 have h2:∀ j,j<E.length->((w.setCells g (p+E.length) (X.drop p)).cell? ⟨g,p+j,none⟩).isSome=true:=fun j hj=>qiz _ _ _ _ h1 _ (hall _ (by omega))
 intro j u hu
 have ht:(X.take p).length=p:=by rw [List.length_take];omega
 rw [List.getElem?_append,ht] at hu
 by_cases hj:j<p
 ·rw [if_pos hj,List.getElem?_take,if_pos hj] at hu
  rw [World.cell?_setCells_out _ _ _ _ ⟨g,j,none⟩ (fun _ _=>.inl hj),World.cell?_setCells_out _ _ _ _ ⟨g,j,none⟩ (fun _ _=>.inl (by show j<p+E.length;omega))]
  exact hX _ _ hu
 ·rw [if_neg hj,List.getElem?_append] at hu
  by_cases hj2:j - p<E.length
  ·rw [if_pos hj2] at hu
   have h3:=World.cell?_setCells_in g E p _ h2 (j - p) hj2
   rw [show p+(j - p)=j by omega] at h3
   rw [h3]
   rw [List.getElem?_eq_getElem hj2] at hu
   exact hu
  ·rw [if_neg hj2] at hu
   have hj3:j - p - E.length<(X.drop p).length:=(List.getElem?_eq_some_iff.1 hu).1
   rw [World.cell?_setCells_out _ _ _ _ ⟨g,j,none⟩ (fun _ _=>.inr (by show p+E.length<=j;omega))]
   have h3:=World.cell?_setCells_in g (X.drop p) (p+E.length) w h1 (j - p - E.length) hj3
   rw [show p+E.length+(j - p - E.length)=j by omega] at h3
   rw [h3]
   rw [List.getElem?_eq_getElem hj3] at hu
   exact hu
theorem qmc {w v:World} {g:Nat} (X E:List Value) (p:Nat) (hp:p<=X.length) (hX:∀ (j:Nat) u,(X.take p)[j]? = some u->w.cell? ⟨g,j,none⟩=some u) (hall:∀ j,j<X.length+E.length->(w.cell? ⟨g,j,none⟩).isSome=true)
  (hv:∀ a,v.cell? a=(w.setCells g p E).cell? a) :
  ∀ (j:Nat) u,(X.take p++(E++X.drop p))[j]? = some u->(v.setCells g (p+E.length) (X.drop p)).cell? ⟨g,j,none⟩=some u:=by
 have hd:(X.drop p).length=X.length - p:=List.length_drop
 have h1:∀ j,j<E.length->(w.cell? ⟨g,p+j,none⟩).isSome=true:=fun j hj=>hall _ (by omega)
 have h2:∀ j,j<(X.drop p).length->(v.cell? ⟨g,p+E.length+j,none⟩).isSome=true:=fun j hj=>by rw [hv];exact qiz _ _ _ _ h1 _ (hall _ (by omega))
 intro j u hu
 have ht:(X.take p).length=p:=by rw [List.length_take];omega
 rw [List.getElem?_append,ht] at hu
 by_cases hj:j<p
 ·rw [if_pos hj] at hu
  rw [World.cell?_setCells_out _ _ _ _ ⟨g,j,none⟩ (fun _ _=>.inl (by show j<p+E.length;omega)),hv,World.cell?_setCells_out _ _ _ _ ⟨g,j,none⟩ (fun _ _=>.inl hj)]
  exact hX _ _ hu
 ·rw [if_neg hj,List.getElem?_append] at hu
  by_cases hj2:j - p<E.length
  ·rw [if_pos hj2] at hu
   have h3:=World.cell?_setCells_in g E p _ h1 (j - p) hj2
   rw [show p+(j - p)=j by omega] at h3
   rw [World.cell?_setCells_out _ _ _ _ ⟨g,j,none⟩ (fun _ _=>.inl (by show j<p+E.length;omega)),hv,h3]
   rw [List.getElem?_eq_getElem hj2] at hu
   exact hu
  ·rw [if_neg hj2] at hu
   have hj3:j - p - E.length<(X.drop p).length:=(List.getElem?_eq_some_iff.1 hu).1
   have h3:=World.cell?_setCells_in g (X.drop p) (p+E.length) v h2 (j - p - E.length) hj3
   rw [show p+E.length+(j - p - E.length)=j by omega] at h3
   rw [h3]
   rw [List.getElem?_eq_getElem hj3] at hu
   exact hu
theorem del_cells {w:World} {g:Nat} (X:List Value) (p q:Nat) (hp:p<=q) (hq:q<=X.length) (hX:∀ (j:Nat) u,X[j]? = some u->w.cell? ⟨g,j,none⟩=some u) :
  ∀ (j:Nat) u,(X.take p++X.drop q)[j]? = some u->(w.setCells g p (X.drop q)).cell? ⟨g,j,none⟩=some u:=by
 have hd:(X.drop q).length=X.length - q:=List.length_drop
 intro j u hu
 have ht:(X.take p).length=p:=by rw [List.length_take];omega
 rw [List.getElem?_append,ht] at hu
 by_cases hj:j<p
 ·rw [if_pos hj,List.getElem?_take,if_pos hj] at hu
  rw [World.cell?_setCells_out _ _ _ _ ⟨g,j,none⟩ (fun _ _=>.inl hj)]
  exact hX _ _ hu
 ·rw [if_neg hj] at hu
  have hj3:j - p<(X.drop q).length:=(List.getElem?_eq_some_iff.1 hu).1
  have h3:=World.cell?_setCells_in g (X.drop q) p w (fun k hk=>by rw [hX (p+k) _ (List.getElem?_eq_getElem (by omega))];rfl) (j - p) hj3
  rw [show p+(j - p)=j by omega] at h3
  rw [h3]
  rw [List.getElem?_eq_getElem hj3] at hu
  exact hu
theorem zero_one (z:Array Value):Builtin.zeroCells z 1=z:=by
 unfold Builtin.zeroCells
 apply Array.ext
 ·simp
 ·intro i h1 h2
  simp only [Array.size_map,Array.size_range,Nat.one_mul] at h1
  simp [Nat.mod_eq_of_lt h1,getElem!_pos z i h1]
theorem qcw {w w':World} (h:Below w.heap.size w w') (row:Option Nat):w.grownBy w' row:=⟨h.os,h.tape,h.output,h.size,fun k hk _=>h.block k hk⟩
section
variable {P:Program}
theorem qeb {w:World} {o:Oper} {a:Act} {K:Act->World->Prop} {Q:Exit->Act->World->Prop} (d s:Operand) (t:TypeId)
  (ho:o.op=.call { callee:=.builtin .copy,args:=#[d,s],argTypes:=#[t,t] }) (e:TypeId) (i:TypeInfo) (size:Nat) (ht:P.underlying t=some (.slice e)) (hi:P.info? e=some i) (hsize:i.size=size)
  (b off dLen dCap:Nat) (src:Addr) (sLen sCap:Nat) (hd:a.eval d=.slice (some ⟨b,off,none⟩) dLen dCap) (hs:a.eval s=.slice (some src) sLen sCap) (cs:List Value) (hn:cs.length=Nat.min sLen dLen * size)
  (hsrc:∀ j v,cs[j]? = some v->w.cell? (src.add j)=some v) (hc:∀ j,j<cs.length->(w.cell? ⟨b,off+j,none⟩).isSome=true) (hf:∀ j,j<cs.length->w.frozen? ⟨b,off+j,none⟩=false) (h1:∀ v∈cs,v.oneCell'=true)
  (h:K (a.put o.dst (goInt (Nat.min sLen dLen))) (w.setCells b off cs)):o.wp P a w K Q:=by
 subst hsize
 have hl:=run_loadCells_list (P:=P) w src cs hsrc
 have hst:=run_storeCells_cells (P:=P) b off cs 0 w (by simpa using hc) (by simpa using hf) h1
 have hrun:(Builtin.copy_ #[t,t] o.type #[.slice (some ⟨b,off,none⟩) dLen dCap,.slice (some src) sLen sCap]).run P w=.ok (goInt (Nat.min sLen dLen)) (w.setCells b off cs):=by
  rw [hn] at hl
  simp only [Nat.add_zero] at hst
  simp [Builtin.copy_,run_underlying ht,Builtin.lenOf,Builtin.firstCells,sizeOf,typeInfo,hi,hl,hst]
 unfold Oper.wp execOp
 simp only [ho,resolve,invoke,builtin,Sem.run_bind,Sem.run_pure,Result.andThen_ok,List.map_toArray,List.map_cons,List.map_nil,hd,hs,hrun]
 exact h
theorem qcx {w:World} {ops:Array Oper} {rest:List Oper} {o:Oper} {a:Act} {Q:Exit->Act->World->Prop} (hgd:o.guard=none) (d s:Operand) (t:TypeId)
  (ho:o.op=.call { callee:=.builtin .copy,args:=#[d,s],argTypes:=#[t,t] }) (e:TypeId) (i:TypeInfo) (size:Nat) (ht:P.underlying t=some (.slice e)) (hi:P.info? e=some i) (hsize:i.size=size)
  (b off dLen dCap:Nat) (src:Addr) (sLen sCap:Nat) (hd:a.eval d=.slice (some ⟨b,off,none⟩) dLen dCap) (hs:a.eval s=.slice (some src) sLen sCap) (cs:List Value) (hn:cs.length=Nat.min sLen dLen * size)
  (hsrc:∀ j v,cs[j]? = some v->w.cell? (src.add j)=some v) (hc:∀ j,j<cs.length->(w.cell? ⟨b,off+j,none⟩).isSome=true) (hf:∀ j,j<cs.length->w.frozen? ⟨b,off+j,none⟩=false) (h1:∀ v∈cs,v.oneCell'=true)
  (h:wpList P ops Q rest (a.put o.dst (goInt (Nat.min sLen dLen))) (w.setCells b off cs)):wpList P ops Q (o::rest) a w :=
 wpList_plain hgd fun _ hK=>qeb d s t ho e i size ht hi hsize b off dLen dCap src sLen sCap hd hs cs hn hsrc hc hf h1 (hK _ _ h)
theorem qgh (w:World) (t tn ty e:TypeId) (i:TypeInfo) (z:Value) (k kn:IntKind) (ht:P.underlying t=some (.slice e)) (htn:P.underlying tn=some (.int kn)) (hi:P.info? e=some i) (hz:i.zero=some z)
  (b:Addr) (sLen sCap:Nat) (olds:List Value) (hlo:olds.length=sLen * i.size) (holds:∀ j v,olds[j]? = some v->w.cell? (b.add j)=some v) (n:Nat) (h0:0<n) (hs:0<i.size)
  (hg:sCap<sLen+n) (h63:((sLen+n:Nat):Int)<=9223372036854775807) (h48:n * i.bytes<=281474976710656) (hfit:Builtin.nextslicecap (sLen+n) sCap * i.bytes<=281474976710656) :
  (Builtin.append_ #[t,tn] ty #[.slice (some b) sLen sCap,.int k n]).run P w =
   .ok (.slice (some ⟨w.heap.size,0,none⟩) (sLen+n) (grownCap w (sLen+n) sCap e))
    (w.drew.alloc (.cells (olds.toArray++Builtin.zeroCells z.cells n++Builtin.zeroCells z.cells (grownCap w (sLen+n) sCap e - (sLen+n))) e)):=by
 have hn:¬(sLen+n<=sCap):=by omega
 have hw:IntKind.i64.wrap (n:Int)=n:=by rw [IntKind.wrap_i64];omega
 have h63':¬(9223372036854775807<((sLen:Int)+(n:Int))):=by omega
 have h48':¬(281474976710656<Builtin.nextslicecap (sLen+n) sCap * i.bytes):=by omega
 have h48i:¬(281474976710656<(n:Int) * (i.bytes:Int)):=by
  rw [<-Int.natCast_mul]
  omega
 have hneg:¬((n:Int)<0):=by omega
 have hns:¬(n * i.size=0):=Nat.mul_ne_zero (by omega) (by omega)
 have hfo:=run_firstCells_some (P:=P) w.drew i.size sLen b sLen sCap olds hlo (by simpa using holds)
 simp [Builtin.append_,run_underlying ht,run_underlying htn,sizeOf,typeInfo,zeroValue,hi,hz,asInt,asIntOf,hw,hn,hneg,hns,h63',h48',h48i,Question.forced,hfo,newRow,grownCap,Builtin.lenOf]
end
end Go.Proofs.YtdjbpcnhnkemiaaGreat.lib
namespace Go.Proofs.YtdjbpcnhnkemiaaGreat.tp
open Go.ChangeShapes Go.WideShapes Go.ChangeAt Go.RowKit Go.Proofs.YtdjbpcnhnkemiaaGreat.lib
variable {w w':World}
variable {n c g B b off i j k m n2 n3 c2 c3 c4 c5 c6 gs gn np lo base gr gd id b2 off2:Nat}
variable {A A2 A3 A4 A5 A6:Option Addr}
variable {cs:List Value}
variable {l r:List UInt8}
variable {rs:List (List UInt8)}
variable {s o e:Int}
variable {nm:ByteArray}
abbrev qab:=Nat->Prop
structure Keep (F:qab) (w w':World):Prop where
 size:w.heap.size<=w'.heap.size
 block:∀ b,F b->b<w.heap.size->w'.heap[b]? = w.heap[b]?
theorem Keep.trans {F:qab} {a b c:World} (h:Keep F a b) (k:Keep F b c):Keep F a c:=⟨Nat.le_trans h.size k.size,fun x hx hl=>(k.block x hx (Nat.lt_of_lt_of_le hl h.size)).trans (h.block x hx hl)⟩
theorem Keep.mono {F G:qab} {a b:World} (h:Keep F a b) (hg:∀ x,G x->F x):Keep G a b:=⟨h.size,fun x hx hl=>h.block x (hg x hx) hl⟩
theorem Keep.below {F:qab} (h:Below w.heap.size w w'):Keep F w w':=⟨h.size,fun b _ hl=>h.block b hl⟩
theorem Keep.grown {F:qab} {row:Option Nat} (h:w.grownBy w' row) (hF:∀ g,row=some g->¬F g):Keep F w w' :=
 ⟨h.size,fun b hb hl=>h.block b hl (fun e=>hF b e.symm hb)⟩
theorem Keep.set {F:qab} (w:World) (p:Addr) (u:Value) (hF:¬F p.block):Keep F w (w.setCell p u) :=
 ⟨by simp [World.setCell],fun b hb _=>Below.heap_setCell w p u b (fun e=>hF (e ▸ hb))⟩
theorem Keep.drew (F:qab) (w:World):Keep F w w.drew:=⟨zl _,fun _ _ _=>rfl⟩
theorem Blk.keep {F:qab} {t:TypeId} {cs:Array Value} (h:Blk w g t cs) (k:Keep F w w') (hg:F g):Blk w' g t cs:=(k.block g hg h.lt).trans h
def RowF (w:World) (F:qab) (A:Option Addr) (n c:Nat) (cs:List Value):Prop :=
 (A=none/\n=0/\c=0/\cs=[])\/(∃ ad,A=some ad/\n=0/\n<=c/\cs=[])\/∃ b off,A=some ⟨b,off,none⟩/\n<=c/\F b/\b<w.heap.size/\∀ (i:Nat) u,cs[i]? = some u->w.cell? ⟨b,off+i,none⟩=some u
theorem RowF.row {F:qab} (h:RowF w F A n c cs):Row w 0 A n c cs:=by
 rcases h with h|h|⟨b,off,e,hnc,hlo,hlt,hc⟩
 ·exact .inl h
 ·exact .inr (.inl h)
 ·exact .inr (.inr ⟨b,off,e,hnc,Nat.zero_le _,hlt,hc⟩)
theorem RowF.of_row {F:qab} (h:Row w lo A n c cs) (hF:∀ b,lo<=b->b<w.heap.size->F b):RowF w F A n c cs:=by
 rcases h with h|h|⟨b,off,e,hnc,hlo,hlt,hc⟩
 ·exact .inl h
 ·exact .inr (.inl h)
 ·exact .inr (.inr ⟨b,off,e,hnc,hF b hlo hlt,hlt,hc⟩)
theorem RowF.keep {F:qab} (h:RowF w F A n c cs) (k:Keep F w w'):RowF w' F A n c cs:=by
 rcases h with h|h|⟨b,off,e,hnc,hlo,hlt,hc⟩
 ·exact .inl h
 ·exact .inr (.inl h)
 ·exact .inr (.inr ⟨b,off,e,hnc,hlo,Nat.lt_of_lt_of_le hlt k.size,fun i u hu=>(World.cell?_of_block (k.block b hlo hlt)).trans (hc i u hu)⟩)
theorem RowF.mono {F G:qab} (h:RowF w F A n c cs) (hg:∀ b,F b->G b):RowF w G A n c cs:=by
 rcases h with h|h|⟨b,off,e,hnc,hlo,hlt,hc⟩
 ·exact .inl h
 ·exact .inr (.inl h)
 ·exact .inr (.inr ⟨b,off,e,hnc,hg b hlo,hlt,hc⟩)
theorem RowF.nil (w:World) (F:qab):RowF w F none 0 0 []:=.inl ⟨rfl,rfl,rfl,rfl⟩
structure Enc (α:Type) where
 k:Nat
 rel:World->qab->List Value->α->Prop
 len:∀ {w F cs x},rel w F cs x->cs.length=k
 one:∀ {w F cs x},rel w F cs x->∀ u∈cs,u.oneCell'=true
 keep:∀ {w w' F cs x},rel w F cs x->Keep F w w'->rel w' F cs x
 mono:∀ {w F G cs x},rel w F cs x->(∀ b,F b->G b)->rel w G cs x
theorem Enc.ext {α:Type} (E:Enc α) {F:qab} {x:α} (h:E.rel w F cs x) (hb:Below w.heap.size w w'):E.rel w' F cs x:=E.keep h (Keep.below hb)
def eInt:Enc Int:=⟨1,fun _ _ cs x=>cs=[.int .i64 x],fun h=>by rw [h];rfl,fun h u hu=>by rw [h] at hu;simp at hu;subst hu;rfl,fun h _=>h,fun h _=>h⟩
def eStr:Enc ByteArray:=⟨1,fun _ _ cs x=>cs=[.string x],fun h=>by rw [h];rfl,fun h u hu=>by rw [h] at hu;simp at hu;subst hu;rfl,fun h _=>h,fun h _=>h⟩
def eBool:Enc Bool:=⟨1,fun _ _ cs x=>cs=[.bool x],fun h=>by rw [h];rfl,fun h u hu=>by rw [h] at hu;simp at hu;subst hu;rfl,fun h _=>h,fun h _=>h⟩
def Enc.pair {α β:Type} (E:Enc α) (D:Enc β):Enc (α × β) :=
 ⟨E.k+D.k,fun w F cs x=>∃ a b,cs=a++b/\E.rel w F a x.1/\D.rel w F b x.2,
  fun ⟨a,b,e,h1,h2⟩=>by rw [e,List.length_append,E.len h1,D.len h2],
  fun ⟨a,b,e,h1,h2⟩ u hu=>by
  rw [e] at hu
  rcases List.mem_append.1 hu with hu|hu
  ·exact E.one h1 u hu
  ·exact D.one h2 u hu,
  fun ⟨a,b,e,h1,h2⟩ k=>⟨a,b,e,E.keep h1 k,D.keep h2 k⟩,
  fun ⟨a,b,e,h1,h2⟩ k=>⟨a,b,e,E.mono h1 k,D.mono h2 k⟩⟩
def Els {α:Type} (E:Enc α) (w:World) (F:qab) (css:List (List Value)) (xs:List α):Prop:=css.length=xs.length/\∀ (i:Nat) cs x,css[i]? = some cs->xs[i]? = some x->E.rel w F cs x
section
variable {α:Type} {E:Enc α} {w w':World} {F G:qab} {css:List (List Value)} {xs:List α}
theorem Els.keep (h:Els E w F css xs) (k:Keep F w w'):Els E w' F css xs:=⟨h.1,fun i cs x h1 h2=>E.keep (h.2 i cs x h1 h2) k⟩
theorem Els.ext (h:Els E w F css xs) (hb:Below w.heap.size w w'):Els E w' F css xs:=h.keep (Keep.below hb)
theorem Els.mono (h:Els E w F css xs) (k:∀ b,F b->G b):Els E w G css xs:=⟨h.1,fun i cs x h1 h2=>E.mono (h.2 i cs x h1 h2) k⟩
theorem Els.nil (w:World) (F:qab):Els E w F [] []:=⟨rfl,fun i cs x h1 _=>by cases h1⟩
theorem Els.one_ {x:α} (h:E.rel w F cs x):Els E w F [cs] [x]:=⟨rfl,fun i cs' x' h1 h2=>by
 cases i with
 | zero=>simp at h1 h2;subst h1 h2;exact h
 | succ i=>simp at h1⟩
theorem Els.append {ds:List (List Value)} {ys:List α} (h:Els E w F css xs) (k:Els E w F ds ys):Els E w F (css++ds) (xs++ys):=by
 refine ⟨by simp [h.1,k.1],fun i cs x h1 h2=>?_⟩
 rcases Nat.lt_or_ge i css.length with hi|hi
 ·rw [List.getElem?_append_left hi] at h1
  rw [List.getElem?_append_left (by rw [<-h.1];exact hi)] at h2
  exact h.2 i cs x h1 h2
 ·rw [List.getElem?_append_right hi] at h1
  rw [List.getElem?_append_right (by rw [<-h.1];exact hi),<-h.1] at h2
  exact k.2 _ cs x h1 h2
theorem Els.take (h:Els E w F css xs) (n:Nat):Els E w F (css.take n) (xs.take n):=by
 refine ⟨by simp [h.1],fun i cs x h1 h2=>?_⟩
 rw [List.getElem?_take] at h1 h2
 split at h1
 ·rename_i hi
  rw [if_pos hi] at h2
  exact h.2 i cs x h1 h2
 ·cases h1
theorem Els.drop (h:Els E w F css xs) (n:Nat):Els E w F (css.drop n) (xs.drop n):=by
 refine ⟨by simp [h.1],fun i cs x h1 h2=>?_⟩
 rw [List.getElem?_drop] at h1 h2
 exact h.2 _ cs x h1 h2
theorem Els.at_ (h:Els E w F css xs) {x:α} (hx:xs[i]? = some x):∃ cs,css[i]? = some cs/\E.rel w F cs x:=by
 have hi:i<css.length:=by rw [h.1];exact (List.getElem?_eq_some_iff.1 hx).1
 exact ⟨css[i],List.getElem?_eq_getElem hi,h.2 i _ x (List.getElem?_eq_getElem hi) hx⟩
theorem Els.set_ (h:Els E w F css xs) {x:α} (hx:E.rel w F cs x):Els E w F (css.set i cs) (xs.set i x):=by
 refine ⟨by simp [h.1],fun j cs' x' h1 h2=>?_⟩
 rw [List.getElem?_set] at h1 h2
 rw [<-h.1] at h2
 split at h1
 ·rename_i hj
  rw [if_pos hj] at h2
  split at h1
  ·rename_i hl
   rw [if_pos hl] at h2
   injection h1 with h1
   injection h2 with h2
   subst h1 h2
   exact hx
  ·cases h1
 ·rename_i hj
  rw [if_neg hj] at h2
  exact h.2 j cs' x' h1 h2
theorem qgf:∀ (css:List (List Value)),(∀ cs∈css,cs.length=k)->css.flatten.length=css.length * k
 | [],_=>by simp
 | c::css,h=>by
  rw [List.flatten_cons,List.length_append,h c (List.mem_cons_self ..),qgf css (fun d hd=>h d (List.mem_cons_of_mem _ hd)),List.length_cons,Nat.succ_mul]
  omega
theorem qkl:∀ (css:List (List Value)),(∀ cs∈css,cs.length=k)->∀ (i j:Nat) cs u,css[i]? = some cs->cs[j]? = some u->css.flatten[i * k+j]? = some u
 | [],_,i,j,cs,u,h1,_=>by cases h1
 | c::css,h,0,j,cs,u,h1,h2=>by
  simp at h1
  subst h1
  have hj:j<c.length:=(List.getElem?_eq_some_iff.1 h2).1
  rw [List.flatten_cons,Nat.zero_mul,Nat.zero_add,List.getElem?_append_left hj]
  exact h2
 | c::css,h,i+1,j,cs,u,h1,h2=>by
  have hc:=h c (List.mem_cons_self ..)
  have ih:=qkl css (fun d hd=>h d (List.mem_cons_of_mem _ hd)) i j cs u (by simpa using h1) h2
  rw [List.flatten_cons,List.getElem?_append_right (by rw [hc,Nat.succ_mul];omega),hc]
  rw [<-ih]
  congr 1
  rw [Nat.succ_mul];omega
theorem qnm:∀ (css:List (List Value)) (n:Nat),(∀ cs∈css,cs.length=k)->css.flatten.take (n * k)=(css.take n).flatten
 | [],n,_=>by simp
 | c::css,0,_=>by simp
 | c::css,n+1,h=>by
  have hc:=h c (List.mem_cons_self ..)
  rw [List.flatten_cons,List.take_succ_cons,List.flatten_cons,List.take_append,hc,Nat.succ_mul,Nat.add_sub_cancel,qnm css n (fun d hd=>h d (List.mem_cons_of_mem _ hd)),List.take_of_length_le (by omega)]
theorem qjl:∀ (css:List (List Value)) (n:Nat),(∀ cs∈css,cs.length=k)->css.flatten.drop (n * k)=(css.drop n).flatten
 | [],n,_=>by simp
 | c::css,0,_=>by simp
 | c::css,n+1,h=>by
  have hc:=h c (List.mem_cons_self ..)
  rw [List.flatten_cons,List.drop_succ_cons,List.drop_append,hc,Nat.succ_mul,Nat.add_sub_cancel,qjl css n (fun d hd=>h d (List.mem_cons_of_mem _ hd)),List.drop_of_length_le (by omega),List.nil_append]
theorem Els.klen (h:Els E w F css xs):∀ cs∈css,cs.length=E.k:=fun cs hc=>by
 obtain ⟨i,hi⟩:=List.getElem?_of_mem hc
 have hl:i<xs.length:=by rw [<-h.1];exact (List.getElem?_eq_some_iff.1 hi).1
 exact E.len (h.2 i cs _ hi (List.getElem?_eq_getElem hl))
theorem Els.ones (h:Els E w F css xs):∀ u∈css.flatten,u.oneCell'=true:=fun u hu=>by
 obtain ⟨cs,hc,hu⟩:=List.mem_flatten.1 hu
 obtain ⟨i,hi⟩:=List.getElem?_of_mem hc
 have hl:i<xs.length:=by rw [<-h.1];exact (List.getElem?_eq_some_iff.1 hi).1
 exact E.one (h.2 i cs _ hi (List.getElem?_eq_getElem hl)) u hu
theorem Els.flen (h:Els E w F css xs):css.flatten.length=xs.length * E.k:=by rw [qgf css h.klen,h.1]
end
def Sl {α:Type} (E:Enc α) (w:World) (F:qab) (A:Option Addr) (n c:Nat) (xs:List α):Prop:=∃ css,RowF w F A n c css.flatten/\Els E w F css xs/\xs.length=n
section
variable {α:Type} {E:Enc α} {w w':World} {F G:qab} {A:Option Addr} {n c:Nat} {xs:List α}
theorem Sl.keep (h:Sl E w F A n c xs) (k:Keep F w w'):Sl E w' F A n c xs:=by obtain ⟨css,h1,h2,h3⟩:=h;exact ⟨css,h1.keep k,h2.keep k,h3⟩
theorem Sl.ext (h:Sl E w F A n c xs) (hb:Below w.heap.size w w'):Sl E w' F A n c xs:=h.keep (Keep.below hb)
theorem Sl.mono (h:Sl E w F A n c xs) (k:∀ b,F b->G b):Sl E w G A n c xs:=by obtain ⟨css,h1,h2,h3⟩:=h;exact ⟨css,h1.mono k,h2.mono k,h3⟩
theorem Sl.nil (w:World) (F:qab):Sl E w F none 0 0 []:=⟨[],RowF.nil w F,Els.nil w F,rfl⟩
theorem Sl.len (h:Sl E w F A n c xs):xs.length=n:=by obtain ⟨_,_,_,h⟩:=h;exact h
theorem Sl.some_ (h:Sl E w F A n c xs) (hn:0<n):∃ b off,A=some ⟨b,off,none⟩/\n<=c/\F b/\b<w.heap.size:=by
 obtain ⟨css,h1,_,_⟩:=h
 rcases h1 with h|⟨_,_,h,_⟩|⟨b,off,e,hnc,hlo,hlt,hc⟩
 ·omega
 ·omega
 ·exact ⟨b,off,e,hnc,hlo,hlt⟩
theorem Sl.at_ {x:α} (h:Sl E w F (some ⟨b,off,none⟩) n c xs) (hx:xs[i]? = some x):∃ cs,E.rel w F cs x/\∀ (j:Nat) u,cs[j]? = some u->w.cell? ⟨b,off+i * E.k+j,none⟩=some u:=by
 obtain ⟨css,h1,h2,h3⟩:=h
 obtain ⟨cs,hc,hr⟩:=h2.at_ hx
 refine ⟨cs,hr,fun j u hu=>?_⟩
 have:=h1.row.at_ (qkl css h2.klen i j cs u hc hu)
 rwa [<-Nat.add_assoc] at this
end
def eSl {α:Type} (E:Enc α):Enc (List α) :=
 ⟨1,fun w F cs xs=>∃ A n c,cs=[.slice A n c]/\Sl E w F A n c xs,fun ⟨A,n,c,e,_⟩=>by rw [e];rfl,fun ⟨A,n,c,e,_⟩ u hu=>by rw [e] at hu;simp at hu;subst hu;rfl,
  fun ⟨A,n,c,e,h⟩ k=>⟨A,n,c,e,h.keep k⟩,fun ⟨A,n,c,e,h⟩ k=>⟨A,n,c,e,h.mono k⟩⟩
def OwnE {α:Type} (E:Enc α) (t:TypeId) (w:World) (B:Nat) (F:qab) (A:Option Addr) (n c:Nat) (xs:List α):Prop:=∃ css,w.ownsRow B t E.k (.slice A n c) n css.flatten/\Els E w F css xs/\xs.length=n
theorem OwnE.sl {α:Type} {E:Enc α} {t:TypeId} {F G:qab} {xs:List α} (h:OwnE E t w B F A n c xs) (hB:∀ b,B<=b->b<w.heap.size->G b) (hF:∀ b,F b->G b):Sl E w G A n c xs:=by
 obtain ⟨css,h1,h2,h3⟩:=h
 exact ⟨css,RowF.of_row (Row.of_own h1) hB,h2.mono hF,h3⟩
def OwnC (t:TypeId) (k n:Nat) (cs:List Value) (w:World) (e:Ending) (w':World):Prop:=∃ A c,e=.returned (.slice A n c)/\w'.ownsRow w.heap.size t k (.slice A n c) n cs/\Below w.heap.size w w'
theorem qjk (cs:List Value) (A:Option Addr) (n c:Nat) (w:World) (hn:n<=1000000) (hr:Row w 0 A n c cs) (hl:cs.length=n * 1) (h1:∀ u∈cs,u.oneCell'=true):
  Calls Tryz.prog 157 #[.slice A n c] w (OwnC 5 1 n cs w):=by
 have heq:=fun W=>Lib.run_eql_slice_nil (P:=Tryz.prog) W 151 5 A n c 0 0 Tryz.underlying151
 cases A with
 | none =>
  have hr2:n=0/\c=0/\cs=[]:=by
   rcases hr with h|⟨_,h,_⟩|⟨_,_,h,_⟩
   ·exact ⟨h.2.1,h.2.2.1,h.2.2.2⟩
   ·cases h
   ·cases h
  obtain ⟨rfl,rfl,rfl⟩:=hr2
  clear h1 hr
  go_enter Tryz.func157,Tryz.ntmps157
  go_wp2
  go_ret
  exact ⟨none,0,rfl,World.ownsRow_nil _ _ _ _,zb _ _⟩
 | some ad =>
  obtain ⟨i0,hi,hz0,hz1,hz2⟩:=ip Tryz.prog 5 (.int .u8 0) 1 1
  have HC:=zh hr
  have H1:=zh h1
  have HL:=zh hl
  clear hr h1 hl
  go_enter Tryz.func157,Tryz.ntmps157
  go_wp2_with (at_builtin;refine wpList_append_own _ rfl (.tmp 5) (.tmp 6) 151 rfl w.heap.size 5 i0 _ 1 1 Tryz.underlying151 hi hz0 hz1 hz2 rfl (by decide) _ _ _ rfl (World.ownsRow_made w #[] 0 (zl _) (Nat.zero_le _) rfl) ad n c cs rfl ?c0 ?c1 ?c2 ?c3 ?c4 ?c5 ?_)
  case c0=>exact HL.out
  case c1=>exact (HC.out.ext ((zb _ _).alloc (zl _) _)).src'
  case c2=>exact H1.out
  case c3=>unfold maxLen;omega
  case c4=>omega
  case c5=>simp
  intro v' w3 hown3 hgrow3 _
  obtain ⟨A',c',rfl⟩:=qan hown3
  go_wp2
  go_ret
  exact ⟨A',c',by simp,by simpa using hown3,((zb _ _).alloc (zl _) _).grown hgrow3 (by simp) (fun k hk=>by simp [Value.ownBlock] at hk;omega)⟩
theorem cloneH (cs:List Value) (A:Option Addr) (n c:Nat) (w:World) (hn:n<=1000000) (hr:Row w 0 A n c cs) (hl:cs.length=n * 3) (h1:∀ u∈cs,u.oneCell'=true):
  Calls Tryz.prog 76 #[.slice A n c] w (OwnC 213 3 n cs w):=by
 have heq:=fun W=>Lib.run_eql_slice_nil (P:=Tryz.prog) W 27 213 A n c 0 0 Tryz.underlying27
 cases A with
 | none =>
  have hr2:n=0/\c=0/\cs=[]:=by
   rcases hr with h|⟨_,h,_⟩|⟨_,_,h,_⟩
   ·exact ⟨h.2.1,h.2.2.1,h.2.2.2⟩
   ·cases h
   ·cases h
  obtain ⟨rfl,rfl,rfl⟩:=hr2
  clear h1 hr
  go_enter Tryz.func76,Tryz.ntmps76
  go_wp2
  go_ret
  exact ⟨none,0,rfl,World.ownsRow_nil _ _ _ _,zb _ _⟩
 | some ad =>
  obtain ⟨i0,hi,hz0,hz1,hz2⟩:=ip Tryz.prog 213 (.agg #[.int .i64 0,.string ⟨#[]⟩,.bool false]) 3 32
  have HC:=zh hr
  have H1:=zh h1
  have HL:=zh hl
  clear hr h1 hl
  go_enter Tryz.func76,Tryz.ntmps76
  go_wp2_with (at_builtin;refine wpList_append_own _ rfl (.tmp 5) (.tmp 6) 27 rfl w.heap.size 213 i0 _ 3 32 Tryz.underlying27 hi hz0 hz1 hz2 rfl (by decide) _ _ _ rfl (World.ownsRow_made w #[] 0 (zl _) (Nat.zero_le _) rfl) ad n c cs rfl ?c0 ?c1 ?c2 ?c3 ?c4 ?c5 ?_)
  case c0=>exact HL.out
  case c1=>exact (HC.out.ext ((zb _ _).alloc (zl _) _)).src'
  case c2=>exact H1.out
  case c3=>unfold maxLen;omega
  case c4=>omega
  case c5=>simp
  intro v' w3 hown3 hgrow3 _
  obtain ⟨A',c',rfl⟩:=qan hown3
  go_wp2
  go_ret
  exact ⟨A',c',by simp,by simpa using hown3,((zb _ _).alloc (zl _) _).grown hgrow3 (by simp) (fun k hk=>by simp [Value.ownBlock] at hk;omega)⟩
theorem cloneC (cs:List Value) (A:Option Addr) (n c:Nat) (w:World) (hn:n<=1000000) (hr:Row w 0 A n c cs) (hl:cs.length=n * 3) (h1:∀ u∈cs,u.oneCell'=true):
  Calls Tryz.prog 142 #[.slice A n c] w (OwnC 63 3 n cs w):=by
 have heq:=fun W=>Lib.run_eql_slice_nil (P:=Tryz.prog) W 64 63 A n c 0 0 Tryz.underlying64
 cases A with
 | none =>
  have hr2:n=0/\c=0/\cs=[]:=by
   rcases hr with h|⟨_,h,_⟩|⟨_,_,h,_⟩
   ·exact ⟨h.2.1,h.2.2.1,h.2.2.2⟩
   ·cases h
   ·cases h
  obtain ⟨rfl,rfl,rfl⟩:=hr2
  clear h1 hr
  go_enter Tryz.func142,Tryz.ntmps142
  go_wp2
  go_ret
  exact ⟨none,0,rfl,World.ownsRow_nil _ _ _ _,zb _ _⟩
 | some ad =>
  obtain ⟨i0,hi,hz0,hz1,hz2⟩:=ip Tryz.prog 63 (.agg #[.string ⟨#[]⟩,.int .i64 0,.bool false]) 3 32
  have HC:=zh hr
  have H1:=zh h1
  have HL:=zh hl
  clear hr h1 hl
  go_enter Tryz.func142,Tryz.ntmps142
  go_wp2_with (at_builtin;refine wpList_append_own _ rfl (.tmp 5) (.tmp 6) 64 rfl w.heap.size 63 i0 _ 3 32 Tryz.underlying64 hi hz0 hz1 hz2 rfl (by decide) _ _ _ rfl (World.ownsRow_made w #[] 0 (zl _) (Nat.zero_le _) rfl) ad n c cs rfl ?c0 ?c1 ?c2 ?c3 ?c4 ?c5 ?_)
  case c0=>exact HL.out
  case c1=>exact (HC.out.ext ((zb _ _).alloc (zl _) _)).src'
  case c2=>exact H1.out
  case c3=>unfold maxLen;omega
  case c4=>omega
  case c5=>simp
  intro v' w3 hown3 hgrow3 _
  obtain ⟨A',c',rfl⟩:=qan hown3
  go_wp2
  go_ret
  exact ⟨A',c',by simp,by simpa using hown3,((zb _ _).alloc (zl _) _).grown hgrow3 (by simp) (fun k hk=>by simp [Value.ownBlock] at hk;omega)⟩
theorem cloneV (cs:List Value) (A:Option Addr) (n c:Nat) (w:World) (hn:n<=1000000) (hr:Row w 0 A n c cs) (hl:cs.length=n * 3) (h1:∀ u∈cs,u.oneCell'=true):
  Calls Tryz.prog 109 #[.slice A n c] w (OwnC 70 3 n cs w):=by
 have heq:=fun W=>Lib.run_eql_slice_nil (P:=Tryz.prog) W 71 70 A n c 0 0 Tryz.underlying71
 cases A with
 | none =>
  have hr2:n=0/\c=0/\cs=[]:=by
   rcases hr with h|⟨_,h,_⟩|⟨_,_,h,_⟩
   ·exact ⟨h.2.1,h.2.2.1,h.2.2.2⟩
   ·cases h
   ·cases h
  obtain ⟨rfl,rfl,rfl⟩:=hr2
  clear h1 hr
  go_enter Tryz.func109,Tryz.ntmps109
  go_wp2
  go_ret
  exact ⟨none,0,rfl,World.ownsRow_nil _ _ _ _,zb _ _⟩
 | some ad =>
  obtain ⟨i0,hi,hz0,hz1,hz2⟩:=ip Tryz.prog 70 (.agg #[.int .i64 0,.int .i64 0,.string ⟨#[]⟩]) 3 32
  have HC:=zh hr
  have H1:=zh h1
  have HL:=zh hl
  clear hr h1 hl
  go_enter Tryz.func109,Tryz.ntmps109
  go_wp2_with (at_builtin;refine wpList_append_own _ rfl (.tmp 5) (.tmp 6) 71 rfl w.heap.size 70 i0 _ 3 32 Tryz.underlying71 hi hz0 hz1 hz2 rfl (by decide) _ _ _ rfl (World.ownsRow_made w #[] 0 (zl _) (Nat.zero_le _) rfl) ad n c cs rfl ?c0 ?c1 ?c2 ?c3 ?c4 ?c5 ?_)
  case c0=>exact HL.out
  case c1=>exact (HC.out.ext ((zb _ _).alloc (zl _) _)).src'
  case c2=>exact H1.out
  case c3=>unfold maxLen;omega
  case c4=>omega
  case c5=>simp
  intro v' w3 hown3 hgrow3 _
  obtain ⟨A',c',rfl⟩:=qan hown3
  go_wp2
  go_ret
  exact ⟨A',c',by simp,by simpa using hown3,((zb _ _).alloc (zl _) _).grown hgrow3 (by simp) (fun k hk=>by simp [Value.ownBlock] at hk;omega)⟩
theorem cloneM (cs:List Value) (A:Option Addr) (n c:Nat) (w:World) (hn:n<=1000000) (hr:Row w 0 A n c cs) (hl:cs.length=n * 2) (h1:∀ u∈cs,u.oneCell'=true):
  Calls Tryz.prog 146 #[.slice A n c] w (OwnC 122 2 n cs w):=by
 have heq:=fun W=>Lib.run_eql_slice_nil (P:=Tryz.prog) W 94 122 A n c 0 0 Tryz.underlying94
 cases A with
 | none =>
  have hr2:n=0/\c=0/\cs=[]:=by
   rcases hr with h|⟨_,h,_⟩|⟨_,_,h,_⟩
   ·exact ⟨h.2.1,h.2.2.1,h.2.2.2⟩
   ·cases h
   ·cases h
  obtain ⟨rfl,rfl,rfl⟩:=hr2
  clear h1 hr
  go_enter Tryz.func146,Tryz.ntmps146
  go_wp2
  go_ret
  exact ⟨none,0,rfl,World.ownsRow_nil _ _ _ _,zb _ _⟩
 | some ad =>
  obtain ⟨i0,hi,hz0,hz1,hz2⟩:=ip Tryz.prog 122 (.agg #[.string ⟨#[]⟩,.int .i64 0]) 2 24
  have HC:=zh hr
  have H1:=zh h1
  have HL:=zh hl
  clear hr h1 hl
  go_enter Tryz.func146,Tryz.ntmps146
  go_wp2_with (at_builtin;refine wpList_append_own _ rfl (.tmp 5) (.tmp 6) 94 rfl w.heap.size 122 i0 _ 2 24 Tryz.underlying94 hi hz0 hz1 hz2 rfl (by decide) _ _ _ rfl (World.ownsRow_made w #[] 0 (zl _) (Nat.zero_le _) rfl) ad n c cs rfl ?c0 ?c1 ?c2 ?c3 ?c4 ?c5 ?_)
  case c0=>exact HL.out
  case c1=>exact (HC.out.ext ((zb _ _).alloc (zl _) _)).src'
  case c2=>exact H1.out
  case c3=>unfold maxLen;omega
  case c4=>omega
  case c5=>simp
  intro v' w3 hown3 hgrow3 _
  obtain ⟨A',c',rfl⟩:=qan hown3
  go_wp2
  go_ret
  exact ⟨A',c',by simp,by simpa using hown3,((zb _ _).alloc (zl _) _).grown hgrow3 (by simp) (fun k hk=>by simp [Value.ownBlock] at hk;omega)⟩
theorem cloneK (cs:List Value) (A:Option Addr) (n c:Nat) (w:World) (hn:n<=1000000) (hr:Row w 0 A n c cs) (hl:cs.length=n * 66) (h1:∀ u∈cs,u.oneCell'=true):
  Calls Tryz.prog 184 #[.slice A n c] w (OwnC 261 66 n cs w):=by
 have heq:=fun W=>Lib.run_eql_slice_nil (P:=Tryz.prog) W 144 261 A n c 0 0 Tryz.underlying144
 cases A with
 | none =>
  have hr2:n=0/\c=0/\cs=[]:=by
   rcases hr with h|⟨_,h,_⟩|⟨_,_,h,_⟩
   ·exact ⟨h.2.1,h.2.2.1,h.2.2.2⟩
   ·cases h
   ·cases h
  obtain ⟨rfl,rfl,rfl⟩:=hr2
  clear h1 hr
  go_enter Tryz.func184,Tryz.ntmps184
  go_wp2
  go_ret
  exact ⟨none,0,rfl,World.ownsRow_nil _ _ _ _,zb _ _⟩
 | some ad =>
  obtain ⟨i0,hi,hz0,hz1,hz2⟩:=info_parts (P:=Tryz.prog) (e:=261) (z:=.agg (#[.int .i64 0]++Array.replicate 64 (.int .u8 0)++#[.int .i64 0])) (size:=66) (bytes:=80) (by kernel_rfl)
  have HC:=zh hr
  have H1:=zh h1
  have HL:=zh hl
  clear hr h1 hl
  go_enter Tryz.func184,Tryz.ntmps184
  go_wp2_with (at_builtin;refine wpList_append_own _ rfl (.tmp 5) (.tmp 6) 144 rfl w.heap.size 261 i0 _ 66 80 Tryz.underlying144 hi hz0 hz1 hz2 rfl (by decide) _ _ _ rfl (World.ownsRow_made w #[] 0 (zl _) (Nat.zero_le _) rfl) ad n c cs rfl ?c0 ?c1 ?c2 ?c3 ?c4 ?c5 ?_)
  case c0=>exact HL.out
  case c1=>exact (HC.out.ext ((zb _ _).alloc (zl _) _)).src'
  case c2=>exact H1.out
  case c3=>unfold maxLen;omega
  case c4=>omega
  case c5=>simp
  intro v' w3 hown3 hgrow3 _
  obtain ⟨A',c',rfl⟩:=qan hown3
  go_wp2
  go_ret
  exact ⟨A',c',by simp,by simpa using hown3,((zb _ _).alloc (zl _) _).grown hgrow3 (by simp) (fun k hk=>by simp [Value.ownBlock] at hk;omega)⟩
theorem cloneR (cs:List Value) (A:Option Addr) (n c:Nat) (w:World) (hn:n<=1000000) (hr:Row w 0 A n c cs) (hl:cs.length=n * 1) (h1:∀ u∈cs,u.oneCell'=true):
  Calls Tryz.prog 190 #[.slice A n c] w (OwnC 151 1 n cs w):=by
 have heq:=fun W=>Lib.run_eql_slice_nil (P:=Tryz.prog) W 139 151 A n c 0 0 Tryz.underlying139
 cases A with
 | none =>
  have hr2:n=0/\c=0/\cs=[]:=by
   rcases hr with h|⟨_,h,_⟩|⟨_,_,h,_⟩
   ·exact ⟨h.2.1,h.2.2.1,h.2.2.2⟩
   ·cases h
   ·cases h
  obtain ⟨rfl,rfl,rfl⟩:=hr2
  clear h1 hr
  go_enter Tryz.func190,Tryz.ntmps190
  go_wp2
  go_ret
  exact ⟨none,0,rfl,World.ownsRow_nil _ _ _ _,zb _ _⟩
 | some ad =>
  obtain ⟨i0,hi,hz0,hz1,hz2⟩:=ip Tryz.prog 151 (.slice none 0 0) 1 24
  have HC:=zh hr
  have H1:=zh h1
  have HL:=zh hl
  clear hr h1 hl
  go_enter Tryz.func190,Tryz.ntmps190
  go_wp2_with (at_builtin;refine wpList_append_own _ rfl (.tmp 5) (.tmp 6) 139 rfl w.heap.size 151 i0 _ 1 24 Tryz.underlying139 hi hz0 hz1 hz2 rfl (by decide) _ _ _ rfl (World.ownsRow_made w #[] 0 (zl _) (Nat.zero_le _) rfl) ad n c cs rfl ?c0 ?c1 ?c2 ?c3 ?c4 ?c5 ?_)
  case c0=>exact HL.out
  case c1=>exact (HC.out.ext ((zb _ _).alloc (zl _) _)).src'
  case c2=>exact H1.out
  case c3=>unfold maxLen;omega
  case c4=>omega
  case c5=>simp
  intro v' w3 hown3 hgrow3 _
  obtain ⟨A',c',rfl⟩:=qan hown3
  go_wp2
  go_ret
  exact ⟨A',c',by simp,by simpa using hown3,((zb _ _).alloc (zl _) _).grown hgrow3 (by simp) (fun k hk=>by simp [Value.ownBlock] at hk;omega)⟩
theorem disable (w:World):(callFunc 245 #[]).run Tryz.prog w=.ok (.value (.tuple #[])) w:=run_call_mark0 Tryz.func245 (by kernel_rfl) (by kernel_rfl) (by kernel_rfl) .disable (by kernel_rfl) w
theorem enable (w:World):(callFunc 247 #[]).run Tryz.prog w=.ok (.value (.tuple #[])) w:=run_call_mark0 Tryz.func247 (by kernel_rfl) (by kernel_rfl) (by kernel_rfl) .enable (by kernel_rfl) w
theorem acquire (a:Addr) (w:World):(callFunc 248 #[.pointer (some a)]).run Tryz.prog w=.ok (.value (.tuple #[])) w:=run_call_marked Tryz.func248 (by kernel_rfl) (by kernel_rfl) (by kernel_rfl) .acquire (by kernel_rfl) a w
theorem releaseMerge (a:Addr) (w:World):(callFunc 250 #[.pointer (some a)]).run Tryz.prog w=.ok (.value (.tuple #[])) w:=run_call_marked Tryz.func250 (by kernel_rfl) (by kernel_rfl) (by kernel_rfl) .releaseMerge (by kernel_rfl) a w
theorem qfm (a:Addr) (x:Value) (u:FrameMode) (w:World) (hc:w.cell? a=some x) (hz:w.frozen? a=false):
  CallsD Tryz.prog 199 #[.pointer (some a),.bool true] u w fun e u' w'=>u'=u/\(e=.returned (.tuple #[])/\w'=w.drew.setCell a (.int .u32 1)):=by
 have hc':w.drew.cell? a=some x:=by go_simp
 have hz':w.drew.frozen? a=false:=by go_simp
 have hst:=run_call_store (P:=Tryz.prog) Tryz.func232 (by kernel_rfl) (by kernel_rfl) (by kernel_rfl) (by kernel_rfl) (k:=.u32) (y:=1) hc' hz'
 go_enter_d Tryz.func199,Tryz.ntmps199
 go_wp2
 go_region_calls
 all_goals (go_end0;exact ⟨rfl,rfl⟩)
theorem qes (a:Addr) (u:FrameMode) (w:World) (hc:w.cell? a=some (.int .i32 1)) (hz:w.frozen? a=false):
  CallsD Tryz.prog 198 #[.pointer (some a)] u w fun e u' w'=>u'=u/\(e=.returned (.tuple #[])/\w'=w.setCell a (.int .i32 0)):=by
 have hd:=disable
 have he:=enable
 have hr:=releaseMerge
 have hadd:=run_call_add (P:=Tryz.prog) Tryz.func251 (by kernel_rfl) (by kernel_rfl) (by kernel_rfl) .i32 (by kernel_rfl) (y:=-1) (s:=0) hc hz (by simp [go_sem];rfl)
 have hcv:=run_convert_to_unsafe (P:=Tryz.prog) (src:=391) (dst:=153) Tryz.underlying391 Tryz.underlying153 (by kernel_rfl) hc
 go_enter_d Tryz.func198,Tryz.ntmps198
 go_wp2
 go_end0
 go_wp2
 go_end0
 exact ⟨rfl,rfl⟩
theorem qjf (a:Addr) (w:World) (hc:w.cell? a=some (.int .i32 0)) (hz:w.frozen? a=false):
  Calls Tryz.prog 197 #[.pointer (some a)] w fun e w'=>e=.returned (.tuple #[])/\w'=w.setCell a (.int .i32 1):=by
 have hd:=disable
 have he:=enable
 have ha:=acquire
 have hcas:=run_call_cas_hit (P:=Tryz.prog) Tryz.func246 (by kernel_rfl) (by kernel_rfl) (by kernel_rfl) .i32 (by kernel_rfl) (y:=1) hc hz
 have hc':(w.setCell a (.int .i32 1)).cell? a=some (.int .i32 1):=World.cell?_setCell_same w a _ hc
 have hcv:=run_convert_to_unsafe (P:=Tryz.prog) (src:=391) (dst:=153) Tryz.underlying391 Tryz.underlying153 (by kernel_rfl) hc'
 go_enter Tryz.func197,Tryz.ntmps197
 go_wp2
 first|go_end0|(simp only [Exit.inBlock,Exit.then];refine bodyPost_ret (results_none rfl _ _ _) rfl ?_)|refine bodyPost_ret (results_none rfl _ _ _) rfl ?_
 go_wp2
 go_end0
 exact ⟨rfl,rfl⟩
structure OnceR (q o:Nat) (w:World):Prop where
 done:w.cell? ⟨q,o,none⟩=some (.int .u32 0)
 lock:w.cell? ⟨q,o+1,none⟩=some (.int .i32 1)
 fd:w.frozen? ⟨q,o,none⟩=false
 fl:w.frozen? ⟨q,o+1,none⟩=false
theorem slowG {q o:Nat} {f:Nat} {a1 a2:Array Value} {R:World->Prop} (hd:w.cell? ⟨q,o,none⟩=some (.int .u32 0)) (hc:w.cell? ⟨q,o+1,none⟩=some (.int .i32 0)) (hf:w.frozen? ⟨q,o+1,none⟩=false)
  (hent:∀ args w,(callFunc f args).run Tryz.prog w=.ok (.enter f args) w) (hR:∀ w',R w'->OnceR q o w')
  (hcall:Calls Tryz.prog f (a1++a2) (w.setCell ⟨q,o+1,none⟩ (.int .i32 1)) fun r w'=>r=.returned (.tuple #[])/\R w') :
  Calls Tryz.prog 128 #[.pointer (some ⟨q,o,none⟩),.func (.func f) a1 a2] w fun r w'=>∃ w2,r=.returned (.tuple #[])/\R w2/\w'=(w2.drew.setCell ⟨q,o,none⟩ (.int .u32 1)).setCell ⟨q,o+1,none⟩ (.int .i32 0):=by
 have hl:=run_call_load (P:=Tryz.prog) Tryz.func196 (by kernel_rfl) (by kernel_rfl) (by kernel_rfl) .u32 (by kernel_rfl) (w:=w.setCell ⟨q,o+1,none⟩ (.int .i32 1)) (a:=⟨q,o,none⟩) (x:=0) ((World.cell?_setCell_other _ ⟨q,o+1,none⟩ ⟨q,o,none⟩ _ (by simp)).trans hd)
 have hnot:∀ (x:Bool) (w:World),(Op.unary .not (.bool x)).run Tryz.prog w=.ok (.bool (!x)) w:=fun _ _=>rfl
 go_enter_defers Tryz.func128,Tryz.ntmps128
 go_wp2_with (go_at_call 197;refine (qjf ⟨q,o+1,none⟩ _ hc hf).mono ?_;rintro e w' ⟨rfl,rfl⟩)
 go_wp2_with (first|(go_at_call 127;go_in)|(refine hcall.mono ?_;rintro e w2 ⟨rfl,hr⟩)|go_in)
 have HR:=zh hr
 have k:=hR _ hr
 have z1:=k.fd
 have z2:=k.fl
 have z3:=k.done
 have z4:=k.lock
 clear hr
 refine leaves_cons (f:=199) (args:=#[.pointer (some ⟨q,o,none⟩),.bool true]) (by simp) (by simp [go_sem]) ?_
 refine (qfm ⟨q,o,none⟩ (.int .u32 0) .returning _ z3 z1).mono ?_
 rintro e u' w'' ⟨rfl,rfl,rfl⟩
 refine leaves_cons (f:=198) (args:=#[.pointer (some ⟨q,o+1,none⟩)]) (by simp [settle]) (by simp [go_sem]) ?_
 refine (qes ⟨q,o+1,none⟩ _ _ ((World.cell?_setCell_other _ ⟨q,o,none⟩ ⟨q,o+1,none⟩ _ (by simp)).trans (by rw [World.cell?_drew];exact z4)) (by simp [z2])).mono ?_
 rintro e u' w'' ⟨rfl,rfl,rfl⟩
 simp only [Leaves,settle,results,Tryz.results128]
 exact ⟨.tuple #[],by first|rfl|simp,w2,rfl,HR.out,rfl⟩
theorem onceG {q o:Nat} {f:Nat} {a1 a2:Array Value} {R:World->Prop} (hd:w.cell? ⟨q,o,none⟩=some (.int .u32 0)) (hc:w.cell? ⟨q,o+1,none⟩=some (.int .i32 0)) (hf:w.frozen? ⟨q,o+1,none⟩=false)
  (hent:∀ args w,(callFunc f args).run Tryz.prog w=.ok (.enter f args) w) (hR:∀ w',R w'->OnceR q o w')
  (hcall:Calls Tryz.prog f (a1++a2) (w.setCell ⟨q,o+1,none⟩ (.int .i32 1)) fun r w'=>r=.returned (.tuple #[])/\R w') :
  Calls Tryz.prog 54 #[.pointer (some ⟨q,o,none⟩),.func (.func f) a1 a2] w fun r w'=>∃ w2,r=.returned (.tuple #[])/\R w2/\w'=(w2.drew.setCell ⟨q,o,none⟩ (.int .u32 1)).setCell ⟨q,o+1,none⟩ (.int .i32 0):=by
 have HS:=zh (slowG hd hc hf hent hR hcall)
 have hl:=run_call_load (P:=Tryz.prog) Tryz.func196 (by kernel_rfl) (by kernel_rfl) (by kernel_rfl) .u32 (by kernel_rfl) (w:=w) (a:=⟨q,o,none⟩) (x:=0) hd
 have hnot:∀ (x:Bool) (w:World),(Op.unary .not (.bool x)).run Tryz.prog w=.ok (.bool (!x)) w:=fun _ _=>rfl
 clear hent hcall
 go_enter Tryz.func54,Tryz.ntmps54
 go_wp2_with (first|(go_at_call 128;refine HS.out.mono ?_;rintro e w' ⟨w2,rfl,hr2,rfl⟩)|(go_at_call 127;go_in))
 have R2:=zh hr2
 clear hr2
 go_wp2
 first|go_end0|refine bodyPost_ret (results_none rfl _ _ _) rfl ?_
 exact ⟨w2,rfl,R2.out,rfl⟩
theorem grow0 (n:Nat) (w:World) (h0:0<n) (hn:n<=600000):
  Calls Tryz.prog 221 #[.slice none 0 0,.int .i64 n] w fun e w'=>∃ v,e=.returned v/\w'.ownsRow w.heap.size 5 1 v 0 []/\Below w.heap.size w w':=by
 obtain ⟨i0,hi,hz0,hz1,hz2⟩:=ip Tryz.prog 5 (.int .u8 0) 1 1
 have hrun:=fun ty=>Lib.run_append_nil_zeros (P:=Tryz.prog) w 151 3 ty 5 i0 _ .i64 .i64 Tryz.underlying151 Tryz.underlying3 hi hz0 n h0 (by rw [hz1];decide) (by omega) (by rw [hz2];omega)
 have h2:=zh (World.ownsRow_made (e:=5) (size:=1) (base:=w.heap.size) w.drew (Builtin.zeroCells (Value.int .u8 0).cells n++Builtin.zeroCells (Value.int .u8 0).cells (grownCap w n 0 5 - n)) (grownCap w n 0 5) (zl _) (grownCap_le_maxLen _ _ _ _ (by unfold maxLen;omega)) (by
  have:=grownCap_ge w n 0 5
  simp [size_zeroCells,Value.cells];try omega))
 have h3:=zh (((zb w.heap.size w).drew).alloc (zl _) (.cells (Builtin.zeroCells (Value.int .u8 0).cells n++Builtin.zeroCells (Value.int .u8 0).cells (grownCap w n 0 5 - n)) 5))
 have hge:=grownCap_ge w n 0 5
 have hle:=grownCap_le_maxLen w n 0 5 (by unfold maxLen;omega)
 unfold maxLen at hle
 generalize grownCap w n 0 5=G at *
 generalize hWW:w.drew.alloc (.cells (Builtin.zeroCells (Value.int .u8 0).cells n++Builtin.zeroCells (Value.int .u8 0).cells (G - n)) 5)=WW at *
 clear hWW
 have d1:decide ((n:Int)<0)=false:=by simp;try omega
 have d2:decide (0<(n:Int))=true:=by simp;try omega
 go_enter Tryz.func221,Tryz.ntmps221
 go_wp2_with (at_builtin;refine Lib.wpList_append_run _ rfl _ _ _ _ rfl _ _ rfl rfl _ _ (hrun _) ?_)
 go_ret
 exact ⟨_,rfl,h2.out,h3.out⟩
theorem grow_ (n:Nat) (w:World) (hn:n<=600000):
  Calls Tryz.prog 221 #[.slice none 0 0,.int .i64 n] w fun e w'=>∃ v,e=.returned v/\w'.ownsRow w.heap.size 5 1 v 0 []/\Below w.heap.size w w':=by
 rcases Nat.eq_zero_or_pos n with rfl|h0
 ·go_enter Tryz.func221,Tryz.ntmps221
  go_wp2
  go_ret
  exact ⟨_,rfl,World.ownsRow_nil _ _ _ _,zb _ _⟩
 ·exact grow0 n w h0 hn
structure Part where
 A:Option Addr
 n:Nat
 c:Nat
 cs:List Value
structure PartOk (w:World) (p:Part):Prop where
 row:Row w 0 p.A p.n p.c p.cs
 len:p.cs.length=p.n
 one:∀ u∈p.cs,u.oneCell'=true
theorem PartOk.ext {p:Part} (h:PartOk w p) (hb:Below w.heap.size w w'):PartOk w' p:=⟨h.row.ext hb,h.len,h.one⟩
def sumN (ps:List Part):Nat:=(ps.map (·.n)).sum
def allC (ps:List Part):List Value:=ps.flatMap (·.cs)
theorem qda {α:Type} {l:List α} {x:α} (h:l[k]? = some x):l.take (k+1)=l.take k++[x]:=by rw [List.take_add_one,h];rfl
theorem qfs {ps:List Part} {p:Part} (h:ps[k]? = some p):sumN (ps.take (k+1))=sumN (ps.take k)+p.n:=by
 rw [qda h];simp [sumN]
theorem qjr {ps:List Part} {p:Part} (h:ps[k]? = some p):allC (ps.take (k+1))=allC (ps.take k)++p.cs:=by
 rw [qda h];simp [allC]
theorem qhp (ps:List Part) (k:Nat):sumN (ps.take k)<=sumN ps:=by
 have e:sumN ps=sumN (ps.take k)+sumN (ps.drop k):=by
  unfold sumN
  rw [<-List.sum_append,<-List.map_append,List.take_append_drop]
 omega
def ConP (cs:List Value) (n:Nat) (w:World) (r:Ending) (w':World):Prop:=∃ A c,r=.returned (.slice A n c)/\w'.ownsRow w.heap.size 5 1 (.slice A n c) n cs/\Below w.heap.size w w'
theorem qdl (ps:List Part) (g m:Nat) (w:World) (hm:ps.length=m) (hg:g<w.heap.size) (hc:∀ (i:Nat) p,ps[i]? = some p->w.cell? ⟨g,i,none⟩=some (.slice p.A p.n p.c)/\PartOk w p) (hN:sumN ps<=500000) (hm2:m<=1000):
  Calls Tryz.prog 167 #[.slice (some ⟨g,0,none⟩) m m] w (ConP (allC ps) (sumN ps) w):=by
 obtain ⟨i0,hi,hz0,hz1,hz2⟩:=ip Tryz.prog 5 (.int .u8 0) 1 1
 have HM:=zh hm
 have HC:=zh hc
 clear hm hc
 obtain ⟨N,hNe⟩:∃ N,sumN ps=N:=⟨_,rfl⟩
 have HN:=zh hNe
 rw [hNe] at hN ⊢
 clear hNe
 go_enter Tryz.func167,Tryz.ntmps167
 go_wp2_with fail
 go_loopw [3,11] (fun s i wr=>∃ (k z:Nat),k<=m/\i=.int .i64 k/\s=.int .i64 z/\Hid (z=sumN (ps.take k))/\Below w.heap.size w wr) (fun _ i _=>m - (intOf i).toNat)
 case atStart=>exact ⟨0,0,Nat.zero_le _,rfl,rfl,zh (by simp [sumN]),zb _ _⟩
 case round =>
  obtain ⟨k,z,hk,rfl,rfl,HZ,hbl⟩:=hrel
  rcases Nat.lt_or_ge k m with hlt|hge
  ·have hd:decide ((k:Int)<(m:Int))=true:=by simp;omega
   have hkn:(k:Int)<(m:Int):=by omega
   obtain ⟨p,hx⟩:∃ p,ps[k]? = some p:=⟨_,List.getElem?_eq_getElem (by rw [HM.out];exact hlt)⟩
   obtain ⟨q,hp⟩:=HC.out k p hx
   have q:=(hbl.cell (p:=⟨g,k,none⟩) hg).trans q
   have hs:=qfs hx
   have hsl:=qhp ps (k+1)
   have hzn:z+p.n<=500000:=by rw [HZ.out];have:=HN.out;omega
   have HS:=zh (show z+p.n=sumN (ps.take (k+1)) by rw [HZ.out,hs])
   clear hx hs hsl
   have hd2:decide ((z:Int)+(p.n:Int)<0)=false:=by simp;omega
   go_wp2_with fail
   go_roundw
   case rel=>exact ⟨k+1,z+p.n,by omega,by go_num,by go_num,HS,hbl⟩
   case measure=>simp [intOf];omega
  ·have hd:decide ((k:Int)<(m:Int))=false:=by simp;omega
   obtain rfl:k=m:=by omega
   have hzN:z=N:=by rw [HZ.out,List.take_of_length_le (by rw [HM.out];exact zl _),HN.out]
   subst hzN
   go_wp2_with fail
   refine (grow_ z _ (by omega)).mono ?_
   rintro e w1 ⟨v,rfl,hown,hb1⟩
   have HO1:=zh (qat hown hbl.size)
   have hb1:=zt hbl (zm hb1 hbl.size)
   clear hown
   go_wp2_with fail
   go_loopw [6,27] (fun o i wr=>∃ (j z2:Nat),j<=k/\i=.int .i64 j/\wr.ownsRow w.heap.size 5 1 o z2 (allC (ps.take j))/\Hid (z2=sumN (ps.take j))/\Below w.heap.size w wr) (fun _ i _=>k - (intOf i).toNat)
   case atStart=>exact ⟨0,0,Nat.zero_le _,rfl,HO1.out,zh (by simp [sumN]),hb1⟩
   case round =>
    obtain ⟨j,z2,hj,rfl,hown,HZ2,hbw⟩:=hrel
    obtain ⟨A2,c2,rfl⟩:=qan hown
    have HO2:=zh hown
    clear hown
    rcases Nat.lt_or_ge j k with hlt|hge
    ·have hd:decide ((j:Int)<(k:Int))=true:=by simp;omega
     have hkn:(j:Int)<(k:Int):=by omega
     obtain ⟨p,hx⟩:∃ p,ps[j]? = some p:=⟨_,List.getElem?_eq_getElem (by rw [HM.out];exact hlt)⟩
     obtain ⟨q,hp⟩:=HC.out j p hx
     have q:=(hbw.cell (p:=⟨g,j,none⟩) hg).trans q
     have hs:=qfs hx
     have hsl:=qhp ps (j+1)
     have hzn:z2+p.n<=500000:=by rw [HZ2.out];have:=HN.out;omega
     have HS:=zh (show z2+p.n=sumN (ps.take (j+1)) by rw [HZ2.out,hs])
     have HA:=zh (qjr hx)
     have HP:=zh (hp.ext hbw)
     clear hx hs hsl hp
     obtain ⟨pA,pn,pc,pcs⟩:=p
     cases pA with
     | none =>
      have hr2:pn=0/\pc=0/\pcs=[]:=by
       rcases HP.out.row with h|⟨_,h,_⟩|⟨_,_,h,_⟩
       ·exact h.2
       ·cases h
       ·cases h
      obtain ⟨rfl,rfl,rfl⟩:=hr2
      go_wp2_with (at_builtin;refine wpList_append_own_none rfl (.tmp 31) (.tmp 32) 151 rfl w.heap.size 5 i0 1 Tryz.underlying151 hi _ z2 _ rfl HO2.out rfl ?_)
      go_roundw
      case rel=>exact ⟨j+1,z2,by omega,by go_num,by rw [HA.out];simpa using HO2.out,HS,hbw⟩
      case measure=>simp [intOf];omega
     | some ad =>
      go_wp2_with (at_builtin;refine wpList_append_own _ rfl (.tmp 31) (.tmp 32) 151 rfl w.heap.size 5 i0 _ 1 1 Tryz.underlying151 hi hz0 hz1 hz2 rfl (by decide) _ _ _ rfl HO2.out ad pn pc pcs rfl ?c0 ?c1 ?c2 ?c3 ?c4 ?c5 ?_)
      case c0=>simpa using HP.out.len
      case c1=>exact HP.out.row.src'
      case c2=>exact HP.out.one
      case c3=>unfold maxLen;omega
      case c4=>omega
      case c5=>exact hbw.size
      intro v' w3 hown3 hgrow3 _
      go_wp2
      go_roundw
      case rel=>exact ⟨j+1,z2+pn,by omega,by go_num,by rw [HA.out];exact hown3,HS,hbw.grown hgrow3 hbw.size (fun b hb=>(HO2.out.lt b hb).1)⟩
      case measure=>simp [intOf];omega
    ·have hd:decide ((j:Int)<(k:Int))=false:=by simp;omega
     obtain rfl:j=k:=by omega
     have e:ps.take j=ps:=List.take_of_length_le (by rw [HM.out];exact zl _)
     have hzN:z2=z:=by rw [HZ2.out,e,HN.out]
     subst hzN
     have h2:=HO2.out
     rw [e] at h2
     go_wp2
     go_ret
     exact ⟨A2,c2,rfl,h2,hbw⟩
def qaa (l:List UInt8):List Value:=l.map fun b=>.int .u8 (b.toNat:Int)
theorem lenB (l:List UInt8):(qaa l).length=l.length:=by simp [qaa]
theorem oneB (l:List UInt8):∀ u∈qaa l,u.oneCell'=true:=fun u hu=>by
 simp only [qaa,List.mem_map] at hu
 obtain ⟨b,_,rfl⟩:=hu
 rfl
theorem qbu (a b:List UInt8):qaa (a++b)=qaa a++qaa b:=by simp [qaa]
def By (w:World) (A:Option Addr) (n c:Nat) (l:List UInt8):Prop:=Row w 0 A n c (qaa l)/\l.length=n
theorem By.ext (h:By w A n c l) (hb:Below w.heap.size w w'):By w' A n c l:=⟨h.1.ext hb,h.2⟩
theorem By.nil (w:World):By w none 0 0 []:=⟨Row.nil _ _,rfl⟩
theorem By.of_own (h:w.ownsRow B 5 1 (.slice A n c) n (qaa l)):By w A n c l:=⟨(Row.of_own h).base (Nat.zero_le _),by have:=h.1;rw [lenB] at this;omega⟩
def OwnB (l:List UInt8) (w:World) (e:Ending) (w':World):Prop:=∃ A c,e=.returned (.slice A l.length c)/\w'.ownsRow w.heap.size 5 1 (.slice A l.length c) l.length (qaa l)/\Below w.heap.size w w'
theorem OwnB.of_c {e:Ending} (hl:l.length=n) (h:OwnC 5 1 n (qaa l) w e w'):OwnB l w e w':=by subst hl;exact h
def le (k N:Nat):List UInt8:=(List.range k).map fun j=>UInt8.ofNat (N / 256 ^ j)
theorem qax (k N:Nat):(le k N).length=k:=by simp [le]
theorem le_succ (k N:Nat):le (k+1) N=le k N++[UInt8.ofNat (N / 256 ^ k)]:=by simp [le,List.range_succ]
theorem le_at (N k:Nat) (hN:N<9223372036854775808):([.int .u8 ((N:Int) / 2 ^ (8 * k) % 256)]:List Value)=qaa [UInt8.ofNat (N / 256 ^ k)]:=by
 have h2:(2:Int) ^ (8 * k)=((256 ^ k:Nat):Int):=by
  rw [Int.pow_mul,show (2:Int) ^ 8=256 from rfl,Int.natCast_pow];rfl
 have h3:(N:Int) / ((256 ^ k:Nat):Int) % 256=((UInt8.ofNat (N / 256 ^ k)).toNat:Int):=by
  rw [UInt8.toNat_ofNat']
  generalize 256 ^ k=M
  omega
 rw [h2,h3]
 rfl
theorem int_ (l:List UInt8) (N:Nat) (A:Option Addr) (n c:Nat) (w:World) (hB:By w A n c l) (hn:n<=500000) (hN:N<9223372036854775808):
  Calls Tryz.prog 113 #[.slice A n c,.int .i64 (N:Int)] w (OwnB (l++le 8 N) w):=by
 obtain ⟨i0,hi,hy0,hy1,hy2⟩:=ip Tryz.prog 5 (.int .u8 0) 1 1
 have HC:=zh (qjk (qaa l) A n c w (by omega) hB.1 (by rw [lenB,hB.2];omega) (oneB l))
 have HL:=zh hB.2
 clear hB
 go_enter Tryz.func113,Tryz.ntmps113
 go_wp2_with fail
 refine HC.out.mono ?_
 rintro e w1 ⟨A1,c1,rfl,hown,hb1⟩
 clear HC
 have HO:=zh hown
 clear hown
 go_wp2_with fail
 go_loopw [5,9] (fun o j wr=>∃ (k:Nat) (A2:Option Addr) (c2:Nat),o=.slice A2 (n+k) c2/\j=.int .i64 (k:Int)/\k<=8/\wr.ownsRow w.heap.size 5 1 (.slice A2 (n+k) c2) (n+k) (qaa (l++le k N))/\Below w.heap.size w wr) (fun _ j _=>8 - (intOf j).toNat)
 case atStart=>exact ⟨0,A1,c1,rfl,rfl,by omega,by simpa [le] using HO.out,hb1⟩
 case round =>
  clear HO hb1
  obtain ⟨k,A2,c2,rfl,rfl,hk,hown,hbx⟩:=hrel
  have HO:=zh hown
  clear hown
  by_cases h8:k<8
  case pos =>
   have hd:decide ((k:Int)<8)=true:=by simp;omega
   have hk8:(k:Int)<8:=by omega
   have HU:=zh (le_at N k hN)
   go_wp2_with (at_builtin;(refine wpList_append_own _ rfl (.tmp 12) (.tmp 19) 151 rfl w.heap.size 5 i0 _ 1 1 Tryz.underlying151 hi hy0 hy1 hy2 rfl (by decide) _ (n+k) _ rfl (HO.out.alloc _) ⟨wr.heap.size,0,none⟩ 1 1 [.int .u8 ((N:Int) / 2 ^ (8 * k) % 256)] rfl ?a1 ?a2 ?a3 ?a4 ?a5 ?a6 ?_))
   all_goals try (case a1=>rfl)
   all_goals try (case a2=>exact (Row.of_blk (Blk.new wr _ _) (Nat.zero_le _) 1 1 (zl _)).src)
   all_goals try (case a3=>intro u hu;rw [List.mem_singleton] at hu;rw [hu];rfl)
   all_goals try (case a4=>unfold maxLen;omega)
   all_goals try (case a5=>omega)
   all_goals try (case a6=>have:=hbx.size;simp;omega)
   intro v1 w1 hown hgrow _
   obtain ⟨A1,cx',rfl⟩:=qan hown
   have hlw:=HO.out.lt
   have hal:=(zb wr.heap.size wr).alloc (zl _) (.cells #[.int .u8 ((N:Int) / 2 ^ (8 * k) % 256)] 5)
   have hbx:=(hbx.alloc hbx.size (.cells #[.int .u8 ((N:Int) / 2 ^ (8 * k) % 256)] 5)).grown hgrow (by have:=hbx.size;simp;omega) (fun b hb=>by have:=(hlw b hb).1;omega)
   have HO:=zh hown
   clear hown hgrow hlw hal
   rw [HU.out] at HO
   have HO:=zh (show w1.ownsRow _ _ _ _ _ (qaa (l++le (k+1) N)) from by rw [le_succ,<-List.append_assoc,qbu];exact HO.out)
   go_wp2
   go_roundw
   case rel=>exact ⟨k+1,A1,cx',rfl,by go_num,by omega,HO.out,hbx⟩
   case measure=>simp [intOf];omega
  obtain rfl:k=8:=by omega
  have hd:decide (((8:Nat):Int)<8)=false:=by decide
  have hB:=By.of_own HO.out
  have HC:=zh (qjk (qaa (l++le 8 N)) A2 (n+8) c2 wr (by omega) hB.1 (by rw [lenB,hB.2];omega) (oneB _))
  clear hB
  go_wp2_with fail
  refine HC.out.mono ?_
  rintro e w2 ⟨A3,c3,rfl,hown,hb2⟩
  have hbw:=zt hbx (zm hb2 hbx.size)
  have HO:=zh (qat hown hbx.size)
  clear hown
  go_wp2
  go_ret
  have hl:(l++le 8 N).length=n+8:=by rw [List.length_append,qax,HL.out]
  exact OwnB.of_c hl ⟨A3,c3,rfl,HO.out,hbw⟩
def b8 (N:Nat):UInt8:=UInt8.ofNat N
theorem qgy {t:TypeId} {A':Option Addr} {n' c':Nat} {l':List UInt8} (hg:Blk w g t #[.slice A n c,.slice A' n' c']) (h:By w A n c l) (h':By w A' n' c' l'):
  ∀ (i:Nat) p,[Part.mk A n c (qaa l),Part.mk A' n' c' (qaa l')][i]? = some p->w.cell? ⟨g,i,none⟩=some (.slice p.A p.n p.c)/\PartOk w p:=by
 intro i p hp
 match i with
 | 0=>simp at hp;subst hp;exact ⟨hg.cell 0,h.1,by rw [lenB,h.2],oneB _⟩
 | 1=>simp at hp;subst hp;exact ⟨hg.cell 1,h'.1,by rw [lenB,h'.2],oneB _⟩
 | i+2=>simp at hp
theorem qpp {t:TypeId} {A':Option Addr} {n' c':Nat} {l' l2:List UInt8} (hg:Blk w g t #[.slice A n c,.slice A' n' c',.slice A2 n2 c2]) (h:By w A n c l) (h':By w A' n' c' l') (h2:By w A2 n2 c2 l2):
  ∀ (i:Nat) p,[Part.mk A n c (qaa l),Part.mk A' n' c' (qaa l'),Part.mk A2 n2 c2 (qaa l2)][i]? = some p->w.cell? ⟨g,i,none⟩=some (.slice p.A p.n p.c)/\PartOk w p:=by
 intro i p hp
 match i with
 | 0=>simp at hp;subst hp;exact ⟨hg.cell 0,h.1,by rw [lenB,h.2],oneB _⟩
 | 1=>simp at hp;subst hp;exact ⟨hg.cell 1,h'.1,by rw [lenB,h'.2],oneB _⟩
 | 2=>simp at hp;subst hp;exact ⟨hg.cell 2,h2.1,by rw [lenB,h2.2],oneB _⟩
 | i+3=>simp at hp
theorem By.blk {t:TypeId} {cs:Array Value} (h:Blk w g t cs) (hc:cs.toList=qaa l) (n c:Nat) (hn:l.length=n) (hnc:n<=c):By w (some ⟨g,0,none⟩) n c l :=
 ⟨hc ▸ Row.of_blk h (Nat.zero_le _) n c hnc,hn⟩
theorem one_byte (N:Nat):(#[.int .u8 ((N:Int) % 256)]:Array Value).toList=qaa [b8 N]:=by
 simp [qaa,b8,UInt8.toNat_ofNat']
theorem qdr (l:List UInt8) (N:Nat) (A:Option Addr) (n c:Nat) (w:World) (hB:By w A n c l) (hn:n<=400000) (hN:N<9223372036854775808):
  Calls Tryz.prog 99 #[.slice A n c,.int .i64 (N:Int)] w (OwnB (l++[b8 N]) w):=by
 have HL:=zh hB.2
 go_enter Tryz.func99,Tryz.ntmps99
 go_wp2_with fail
 obtain ⟨W,hW_,hbW,B1,B2⟩:=al2 w 5 151 #[.int .u8 ((N:Int) % 256)] #[.slice A n c,.slice (some ⟨w.heap.size,0,none⟩) 1 1]
 rw [<-hW_]
 clear hW_
 have h1:=By.blk B1 (one_byte N) 1 1 rfl (zl _)
 have hp:=qgy B2 (hB.ext hbW) h1
 have hs:sumN [Part.mk A n c (qaa l),Part.mk (some ⟨w.heap.size,0,none⟩) 1 1 (qaa [b8 N])]=n+1:=by simp [sumN]
 have hc:=qdl _ _ 2 W rfl B2.lt hp (by rw [hs];omega) (by omega)
 rw [hs] at hc
 have HCC:=zh hc
 clear hc hp h1 hs
 refine HCC.out.mono ?_
 rintro e w2 ⟨A2,c2,rfl,hown,hb2⟩
 have hbw:=zt hbW (zm hb2 hbW.size)
 have hown:=qat hown hbW.size
 have HO:=zh hown
 clear hown HCC
 go_wp2
 go_ret
 have hl:(l++[b8 N]).length=n+1:=by rw [List.length_append,HL.out];rfl
 exact OwnB.of_c hl ⟨A2,c2,rfl,by simpa [allC,qaa] using HO.out,hbw⟩
theorem qih (s:ByteArray) (w:World):∃ c w',(convert 9 151 (.string s)).run Tryz.prog w=.ok (.slice (some ⟨w.heap.size,0,none⟩) s.size c) w'/\By w' (some ⟨w.heap.size,0,none⟩) s.size c s.data.toList/\Below w.heap.size w w'/\w'.heap.size=w.heap.size+1:=by
 refine ⟨_,_,run_bytes_of_string (P:=Tryz.prog) w 9 151 5 s Tryz.underlying9 Tryz.underlying151 Tryz.underlying5,⟨.inr (.inr ⟨_,0,rfl,grownCap_ge w s.size 0 _,Nat.zero_le _,by simp,?_⟩),?_⟩,((zb w.heap.size w).drew).alloc (zl _) _,by simp⟩
 ·intro i u hu
  have hn:∀ o:Obj,(w.drew.alloc o).heap[w.heap.size]? = some o:=fun o=>by
   show (w.heap.push o)[w.heap.size]? = _
   simp
  have hc:=hn (.cells (bytesRow s (grownCap w s.size 0 5)) 5 ((bytesRow s (grownCap w s.size 0 5)).size,(bytesRow s (grownCap w s.size 0 5)).size+1))
  rw [Nat.zero_add,cell_of_row _ _ i _ _ _ hc]
  have hi:i<s.data.toList.length:=by
   have:=(List.getElem?_eq_some_iff.1 hu).1
   rwa [lenB] at this
  unfold bytesRow
  rw [Array.getElem?_append_left (by simpa using hi)]
  rw [<-hu]
  simp [qaa]
 ·exact Array.length_toList
theorem fold_push:∀ (l:List UInt8) (r:ByteArray),(l.map (fun b=>(b.toNat:Int))).foldl (fun r n=>r.push (UInt8.ofNat n.toNat)) r=⟨r.data++l.toArray⟩:=foldl_push_byteCells
theorem qgl (h:By w A n c l):(convert 151 9 (.slice A n c)).run Tryz.prog w=.ok (.string ⟨l.toArray⟩) w:=by
 obtain ⟨h,hl⟩:=h
 rw [run_convert_bytes_string w 151 9 5 A n c Tryz.underlying151 Tryz.underlying5 Tryz.underlying9]
 cases A with
 | none =>
  rcases h with h|⟨_,h,_⟩|⟨_,_,h,_⟩
  ·have:l=[]:=List.eq_nil_of_length_eq_zero (by rw [hl];exact h.2.1)
   subst this
   rfl
  ·cases h
  ·cases h
 | some ad =>
  have:=run_loadCells_list (P:=Tryz.prog) (w:=w) ad (qaa l) h.src'
  rw [lenB,hl] at this
  rw [run_bytesToString w _ n _ (l.map fun c=>(c.toNat:Int)) (by rw [this];simp [qaa,List.map_map]),fold_push]
  simp
theorem le2 (N:Nat) (h:N<=65535):(#[.int .u8 ((N:Int) % 256),.int .u8 ((N:Int) / 256)]:Array Value).toList=qaa (le 2 N):=by
 have e:le 2 N=[UInt8.ofNat (N / 1),UInt8.ofNat (N / 256)]:=rfl
 rw [e]
 simp only [qaa,List.map_cons,List.map_nil,UInt8.toNat_ofNat',Nat.div_one]
 have h1:((N % 2 ^ 8:Nat):Int)=(N:Int) % 256:=by omega
 have h2:((N / 256 % 2 ^ 8:Nat):Int)=(N:Int) / 256:=by omega
 rw [h1,h2]
theorem qgr (l:List UInt8) (s:ByteArray) (A:Option Addr) (n c:Nat) (w:World) (hB:By w A n c l) (hn:n<=100000) (hs:s.size<=65535):
  Calls Tryz.prog 98 #[.slice A n c,.string s] w (OwnB (l++le 2 s.size++s.data.toList) w):=by
 have HL:=zh hB.2
 go_enter Tryz.func98,Tryz.ntmps98
 go_wp2_with fail
 obtain ⟨W,hW_,hbW,B1⟩:=al1 w 5 #[.int .u8 ((s.size:Int) % 256),.int .u8 ((s.size:Int) / 256)]
 rw [<-hW_]
 clear hW_
 have h1:=By.blk B1 (le2 s.size hs) 2 2 (qax _ _) (zl _)
 have h0:=hB.ext hbW
 obtain ⟨c3,w3,hcv,h3,hb3,hz3⟩:=qih s W
 have hcv2:∀ o,(convert 9 151 (.string s)).run Tryz.prog W=o->o=.ok (.slice (some ⟨W.heap.size,0,none⟩) s.size c3) w3:=fun o h=>h.symm.trans hcv
 clear hz3
 have hb3w:=zt hbW (zm hb3 hbW.size)
 have h1:=h1.ext hb3
 have h0:=h0.ext hb3
 rw [hcv]
 clear hcv hcv2 hb3 B1
 obtain ⟨g3,hg3⟩:∃ g,W.heap.size=g:=⟨_,rfl⟩
 rw [hg3] at h3 ⊢
 clear hg3 hbW
 go_wp2_with fail
 obtain ⟨W4,hW_,hb4,B2⟩:=al1 w3 151 #[.slice A n c,.slice (some ⟨w.heap.size,0,none⟩) 2 2,.slice (some ⟨g3,0,none⟩) s.size c3]
 rw [<-hW_]
 clear hW_
 have hp:=qpp B2 (h0.ext hb4) (h1.ext hb4) (h3.ext hb4)
 have hbw4:=zt hb3w (zm hb4 hb3w.size)
 have hs:sumN [Part.mk A n c (qaa l),Part.mk (some ⟨w.heap.size,0,none⟩) 2 2 (qaa (le 2 s.size)),Part.mk (some ⟨g3,0,none⟩) s.size c3 (qaa s.data.toList)]=n+2+s.size:=by simp [sumN];omega
 have hc:=qdl _ _ 3 W4 rfl B2.lt hp (by rw [hs];omega) (by omega)
 rw [hs] at hc
 have HCC:=zh hc
 clear hc hp h1 h0 h3 hs hb4 hb3w
 refine HCC.out.mono ?_
 rintro e w5 ⟨A5,c5,rfl,hown,hb5⟩
 have hbw:=zt hbw4 (zm hb5 hbw4.size)
 have hown:=qat hown hbw4.size
 have HO:=zh hown
 clear hown HCC
 go_wp2
 go_ret
 have hsl:s.data.toList.length=s.size:=Array.length_toList
 have hl:(l++le 2 s.size++s.data.toList).length=n+2+s.size:=by rw [List.length_append,List.length_append,qax,HL.out,hsl]
 exact OwnB.of_c hl ⟨A5,c5,rfl,by simpa [allC,qaa] using HO.out,hbw⟩
end Go.Proofs.YtdjbpcnhnkemiaaGreat.tp
namespace Go.Proofs.YtdjbpcnhnkemiaaGreat.lib
open Go.ChangeShapes Go.WideShapes Go.ChangeAt Go.RowKit
theorem Blk.drew {w:World} {g:Nat} {t:TypeId} {cs:Array Value} (h:Blk w g t cs):Blk w.drew g t cs:=h
section
variable {P:Program} {ops:Array Oper} {Q:Exit->Act->World->Prop} {md:Region.Mode} {S:World->Prop}
theorem qmh {id:Nat} {a:Act} {w:World} (A:List Alc) (l0 l1 l2:List (Nat × Bool)) (hm:P.follows .mixedOrders=true)
  (hc:qdk ops (A.map fun x=>(x.j,x.d)) l0 l1 l2=true) (hQ:∀ c a a' w,Q (.panic c) a w->Q (.panic c) a' w)
  (hS0:S w.drew) (hSx:∀ w1 w2,Ext w1 w2->S w1->S w2) (hSn:∀ w',S w'->w.heap.size<=w'.heap.size)
  (h:wpI P ops Q S (fun a1 w1=>qcl P ops A a1/\wpI P ops Q S
   (fun a2 w2=>∀ γ wf,(∀ x∈A,(γ x.j).isSome=true)->Ext w2 wf->S wf->Made A γ w.heap.size wf->qam P ops Q S l2 (qbb γ a2 A) wf) l1 a1 w1) l0 a w.drew) :
  (Code.region id ops true).wp P Q a w:=by
 have hmj:(A.map fun x=>(x.j,x.d)).map (·.1)=A.map (·.j):=by rw [List.map_map];rfl
 have hmd:(A.map fun x=>(x.j,x.d)).map (·.2)=A.map (·.d):=by rw [List.map_map];rfl
 unfold qdk at hc
 simp only [hmj,hmd,Bool.and_eq_true,decide_eq_true_eq] at hc
 obtain ⟨⟨⟨⟨⟨⟨⟨⟨h1,h2⟩,h3⟩,h4⟩,h5⟩,h6⟩,h7⟩,h8⟩,h9⟩:=hc
 refine wp_region_held_drew (S:=S) hm hS0 (fun _=>?_)
 refine qhh (m:=l1.length+(A.map (·.j)).length+l2.length) h1 hQ l0 _ a w.drew ops.size h2 (by omega) hS0 h ?_
 intro a1 fuel ⟨hO,hI⟩ hf
 have h5':∀ x∈A,∀ y∈A,∀ o,ops[y.j]? = some o->x.d∉o.looksAt ops:=by
  intro x hx y hy o ho
  simp only [List.all_eq_true,List.mem_map,forall_exists_index,and_imp,forall_apply_eq_imp_iff₂] at h5
  have:=h5 x hx y hy
  simp only [ho] at this
  simpa using this
 have h6':∀ x∈A,x.j∈Region.ready .any ops (lay l0 (Array.replicate ops.size false))/\(lay l0 (Array.replicate ops.size false)).getD x.j true=false:=by
  intro x hx
  simp only [List.all_eq_true,List.mem_map,forall_exists_index,and_imp,forall_apply_eq_imp_iff₂,Bool.and_eq_true] at h6
  have:=h6 x hx
  exact ⟨by simpa using this.1,by simpa using this.2⟩
 have key:=qgm (P:=P) (ops:=ops) (Q:=Q) (md:=.any) (S:=S) (A:=A) (N:=w.heap.size) (m:=l2.length)
  (K:=fun a2 w2=>∀ γ wf,(∀ x∈A,(γ x.j).isSome=true)->Ext w2 wf->S wf->Made A γ w.heap.size wf->qam P ops Q S l2 (qbb γ a2 A) wf)
  h1 hQ (qch _ h3) (qch _ h4) h5' hSx hSn (lay l1 (lay l0 (Array.replicate ops.size false)))
  (fun γ a2 w2 wf fuel hall hK he hb hM hf=>by
   rw [qiv _ A hall]
   exact qbx h1 (fun c a d v w=>hQ c _ _ w) l2 fuel _ _ wf h8 hf hb (hK γ wf hall he hb hM))
  fuel l1 (lay l0 (Array.replicate ops.size false)) a1 w.drew w.drew (fun _=>none) h7 rfl (by rw [qkq];simp) (fun x hx=>(h6' x hx).2) ?_ hI (Ext.refl _) hS0
  ⟨fun _ _ _ h=>(by cases h),fun _ _ _ h=>(by cases h),fun _ _ _ _ _ _ _ h=>(by cases h)⟩ hO (fun x hx=>(h6' x hx).1)
 ·rw [qhi,qib] at key
  exact key
 ·have h0:(A.filter fun _=>(none:Option Nat).isNone).length<=A.length:=List.length_filter_le _ _
  simp only [List.length_map] at hf
  show l1.length+(A.filter fun _=>(none:Option Nat).isNone).length+l2.length<=fuel
  omega
theorem qmj {id:Nat} {a:Act} {w:World} (A:List Alc) (l0 l1 l2:List (Nat × Bool)) (hm:P.follows .mixedOrders=true)
  (hc:qdk ops (A.map fun x=>(x.j,x.d)) l0 l1 l2=true) (hS0:S w.drew) (hSx:∀ w1 w2,Ext w1 w2->S w1->S w2) (hSn:∀ w',S w'->w.heap.size<=w'.heap.size)
  (h:wpI P ops (NoPanic Q) S (fun a1 w1=>qcl P ops A a1/\wpI P ops (NoPanic Q) S
   (fun a2 w2=>∀ γ wf,(∀ x∈A,(γ x.j).isSome=true)->Ext w2 wf->S wf->Made A γ w.heap.size wf->qam P ops (NoPanic Q) S l2 (qbb γ a2 A) wf) l1 a1 w1) l0 a w.drew) :
  (Code.region id ops true).wp P Q a w :=
 wp_region_noPanic (qmh A l0 l1 l2 hm hc (fun _ _ _ _ h=>h) hS0 hSx hSn h)
theorem qcv {id:Nat} {a:Act} {w:World} (l:List (Nat × Bool)) (hm:P.follows .mixedOrders=true) (hs:Region.noSelect ops=true)
  (hp:qcs .any ops l (Array.replicate ops.size false)=true) (hl:l.length<=ops.size) (hS0:S w.drew)
  (h:qam P ops (NoPanic Q) S l a w.drew):(Code.region id ops true).wp P Q a w :=
 wp_region_noPanic (qhx l hm hs hp hl (fun _ _ _ _ _ h=>h) hS0 h)
theorem qgu {id:Nat} {a:Act} {w:World} (x1:Alc) (l0 l1 l2:List (Nat × Bool)) (hm:P.follows .mixedOrders=true)
  (hc:qdk ops ([x1].map fun x=>(x.j,x.d)) l0 l1 l2=true) (hS0:S w.drew) (hSx:∀ w1 w2,Ext w1 w2->S w1->S w2) (hSn:∀ w',S w'->w.heap.size<=w'.heap.size)
  (h:wpI P ops (NoPanic Q) S (fun a1 w1=>qcl P ops [x1] a1/\wpI P ops (NoPanic Q) S
   (fun a2 w2=>∀ g1 wf,Ext w2 wf->S wf->w.heap.size<=g1->g1<wf.heap.size->wf.heap[g1]? = some x1.o ->
    qam P ops (NoPanic Q) S l2 (a2.put (some x1.d) (x1.val g1)) wf) l1 a1 w1) l0 a w.drew) :
  (Code.region id ops true).wp P Q a w:=by
 have hn:([x1].map (·.j)).Nodup:=by
  have hc':=hc
  unfold qdk at hc'
  simp only [Bool.and_eq_true] at hc'
  have h3:=qch _ hc'.1.1.1.1.1.1.2
  exact h3
 refine qmj [x1] l0 l1 l2 hm hc hS0 hSx hSn (qdw (fun a1 w1 ⟨hO,hI⟩=>⟨hO,qdw (fun a2 w2 hK=>?_) l1 a1 w1 hI⟩) l0 a w.drew h)
 intro γ wf hall he hb hM
 obtain ⟨g1,e1⟩:=Option.isSome_iff_exists.1 (hall x1 (by simp))
 have hcov:qbb γ a2 [x1]=(a2.put (some x1.d) (x1.val g1)):=by simp only [qbb,e1]
 rw [hcov]
 exact hK g1 wf he hb (hM.lo x1 (by simp) g1 e1).1 (hM.lo x1 (by simp) g1 e1).2 (hM.at_ x1 (by simp) g1 e1)
end
section
variable {P:Program} {ops:Array Oper} {Q:Exit->Act->World->Prop} {S:World->Prop} {a:Act} {w:World}
theorem r2 {id:Nat} (l:List (Nat × Bool)) (hS0:S w.drew) (h:qam P ops (NoPanic Q) S l a w.drew) (hm:P.follows .mixedOrders=true:=by kernel_rfl) (hs:Region.noSelect ops=true:=by kernel_rfl)
  (hp:qcs .any ops l (Array.replicate ops.size false)=true:=by kernel_rfl) (hl:l.length<=ops.size:=by decide):(Code.region id ops true).wp P Q a w:=qcv l hm hs hp hl hS0 h
end
end Go.Proofs.YtdjbpcnhnkemiaaGreat.lib
namespace Go.Proofs.YtdjbpcnhnkemiaaGreat.tp
open Go.ChangeShapes Go.WideShapes Go.ChangeAt Go.RowKit Go.Proofs.YtdjbpcnhnkemiaaGreat.lib
variable {w w':World}
variable {n c g B b off i j k m n2 n3 c2 c3 c4 c5 c6 gs gn np lo base gr gd id b2 off2:Nat}
variable {A A2 A3 A4 A5 A6:Option Addr}
variable {cs:List Value}
variable {l r:List UInt8}
variable {rs:List (List UInt8)}
variable {s o e:Int}
variable {nm:ByteArray}
variable {F G:qab}
def laid (cs:List Value) (o:Nat) (vs:List Value):List Value:=cs.take o++vs++cs.drop (o+vs.length)
theorem qlk (cs:List Value) (o:Nat) (vs:List Value) (h:o+vs.length<=cs.length):(laid cs o vs).length=cs.length:=by simp [laid];omega
theorem qno (cs:List Value) (o:Nat) (v:Value) (vs:List Value) (h:o+(v::vs).length<=cs.length):laid (cs.set o v) (o+1) vs=laid cs o (v::vs):=by
 simp only [List.length_cons] at h
 unfold laid
 rw [List.take_set,List.drop_set_of_lt (by omega),List.length_cons,show o+1+vs.length=o+(vs.length+1) by omega]
 have:(cs.take (o+1)).set o v=cs.take o++[v]:=by
  rw [List.take_add_one,List.getElem?_eq_getElem (by omega),List.set_append_right _ _ (by simp;omega)]
  simp [Nat.min_eq_left (show o<=cs.length by omega)]
 rw [this]
 simp
theorem qby (w:World) (row:Option Nat):w.grownBy w row:=⟨rfl,rfl,rfl,zl _,fun _ _ _=>rfl⟩
theorem Blk.lay {t:TypeId}:∀ (vs:List Value) (o:Nat) {w:World} {cs:List Value},Blk w g t cs.toArray->o+vs.length<=cs.length->Blk (w.setCells g o vs) g t (laid cs o vs).toArray/\w.grownBy (w.setCells g o vs) (some g)
 | [],o,w,cs,h,ho=>by
  refine ⟨?_,qby _ _⟩
  have:laid cs o []=cs:=by simp [laid]
  rw [this];exact h
 | v::vs,o,w,cs,h,ho=>by
  have h1:Blk (w.setCell ⟨g,o,none⟩ v) g t (cs.set o v).toArray:=by simpa using h.set_ o v
  have h2:=Blk.lay vs (o+1) h1 (by simp at ho ⊢;omega)
  rw [qno cs o v vs ho] at h2
  refine ⟨h2.1,?_⟩
  have h4:=h2.2
  have h5:w.grownBy (w.setCell ⟨g,o,none⟩ v) (some g):=⟨rfl,rfl,rfl,by simp [World.setCell],fun k hk hne=>Below.heap_setCell _ _ _ _ (fun e=>hne (by rw [e]))⟩
  exact ⟨h4.os.trans h5.os,h4.tape.trans h5.tape,h4.output.trans h5.output,Nat.le_trans h5.size h4.size,fun k hk hne=>(h4.block k (Nat.lt_of_lt_of_le hk h5.size) hne).trans (h5.block k hk hne)⟩
theorem Blk.there {o:Nat} {t:TypeId} (h:Blk w g t cs.toArray) (hn:o+n<=cs.length):w.there g o n:=fun j hj=>by
 refine ⟨?_,h.frozen _⟩
 rw [h.cell]
 simp
 omega
theorem Blk.range {o:Nat} {t:TypeId} {vs:List Value} (h:Blk w g t cs.toArray) (hv:(cs.drop o).take vs.length=vs):w.rangeAt g o vs:=fun j u hu=>by
 rw [h.cell]
 rw [<-hv] at hu
 simp only [List.getElem?_take,List.getElem?_drop] at hu
 split at hu
 ·simpa using hu
 ·cases hu
theorem qac (w:World) (g i:Nat) (u:Value):w.grownBy (w.setCell ⟨g,i,none⟩ u) (some g):=⟨rfl,rfl,rfl,by simp [World.setCell],fun k hk hne=>Below.heap_setCell _ _ _ _ (fun e=>hne (by rw [e]))⟩
theorem Blk.set1 {t:TypeId} {cs:Array Value} (h:Blk w g t cs) (a:Value):∃ w',w'=w.setCell ⟨g,i,none⟩ a/\Blk w' g t (cs.setIfInBounds i a)/\w.grownBy w' (some g):=⟨_,rfl,h.set_ i a,qac w g i a⟩
theorem qah {a b c:World} {g:Option Nat} (h:a.grownBy b g) (k:b.grownBy c g):a.grownBy c g :=
 ⟨k.os.trans h.os,k.tape.trans h.tape,k.output.trans h.output,Nat.le_trans h.size k.size,fun j hj hne=>(k.block j (Nat.lt_of_lt_of_le hj h.size) hne).trans (h.block j hj hne)⟩
theorem qbr {a b c:World} {g:Option Nat} (h:a.grownBy b g) (k:Below b.heap.size b c):a.grownBy c g :=
 ⟨k.os.trans h.os,k.tape.trans h.tape,k.output.trans h.output,Nat.le_trans h.size k.size,fun j hj hne=>(k.block j (Nat.lt_of_lt_of_le hj h.size)).trans (h.block j hj hne)⟩
theorem qhv (a:Addr) (x:Int) (w:World) (hc:w.cell? a=some (.int .i64 x)):
  Calls Tryz.prog 165 #[.pointer (some a)] w fun e w'=>e=.returned (.int .i64 x)/\w=w':=by
 obtain ⟨b,o,s⟩:=a
 obtain rfl:s=none:=World.cell?_spot hc
 have hl:=run_call_load (P:=Tryz.prog) Tryz.func220 (by kernel_rfl) (by kernel_rfl) (by kernel_rfl) .i64 (by kernel_rfl) hc
 go_enter Tryz.func165,Tryz.ntmps165
 go_wp2
 go_ret
 exact ⟨rfl,rfl⟩
theorem add64_ (a:Addr) (x y:Int) (w:World) (hc:w.cell? a=some (.int .i64 x)) (hz:w.frozen? a=false) (hx:-1000000<=x/\x<=1000000) (hy:-1000000<=y/\y<=1000000):
  Calls Tryz.prog 171 #[.pointer (some a),.int .i64 y] w fun e w'=>e=.returned (.int .i64 (x+y))/\w'=w.setCell a (.int .i64 (x+y)):=by
 obtain ⟨b,o,s⟩:=a
 obtain rfl:s=none:=World.cell?_spot hc
 have hw:IntKind.i64.wrap (x+y)=x+y:=IntWalk.i64_in _ ⟨by omega,by omega⟩
 have ha:=run_call_add (P:=Tryz.prog) Tryz.func224 (by kernel_rfl) (by kernel_rfl) (by kernel_rfl) .i64 (by kernel_rfl) (y:=y) (s:=x+y) hc hz (by simp [go_sem,hw])
 go_enter Tryz.func171,Tryz.ntmps171
 go_wp2
 go_ret
 exact ⟨rfl,rfl⟩
theorem qkt (a:Addr) (x:Value) (y:Int) (w:World) (hc:w.cell? a=some x) (hz:w.frozen? a=false):
  Calls Tryz.prog 86 #[.pointer (some a),.int .i64 y] w fun e w'=>e=.returned (.tuple #[])/\w'=w.setCell a (.int .i64 y):=by
 obtain ⟨b,o,s⟩:=a
 obtain rfl:s=none:=World.cell?_spot hc
 have ha:=run_call_store (P:=Tryz.prog) Tryz.func156 (by kernel_rfl) (by kernel_rfl) (by kernel_rfl) (by kernel_rfl) (k:=.i64) (y:=y) hc hz
 go_enter Tryz.func86,Tryz.ntmps86
 go_wp2
 first|go_end0|refine bodyPost_ret (results_none rfl _ _ _) rfl ?_
 exact ⟨rfl,rfl⟩
structure Dk (w:World) (d gs gn np:Nat) (l:List UInt8) (ws:Value):Prop where
 blk:Blk w d 137 #[.int .i64 0,.int .u32 0,.slice (some ⟨gs,0,none⟩) np np,.slice (some ⟨gn,0,none⟩) np np,ws]
 now:Blk w gn 337 (qaa l).toArray
 syn:∃ l',Blk w gs 337 (qaa l').toArray/\l'.length=np * 64
 len:l.length=np * 64
 np:2<=np/\np<=4096
 ne:d≠gs/\d≠gn/\gs≠gn
theorem Dk.lt {d:Nat} {ws:Value} (h:Dk w d gs gn np l ws):d<w.heap.size/\gs<w.heap.size/\gn<w.heap.size:=by
 obtain ⟨l',h1,_⟩:=h.syn
 exact ⟨h.blk.lt,h1.lt,h.now.lt⟩
theorem Dk.keep {d:Nat} {ws:Value} (h:Dk w d gs gn np l ws) (k:Keep F w w') (hd:F d) (hs:F gs) (hn:F gn):Dk w' d gs gn np l ws:=by
 obtain ⟨l',h1,h2⟩:=h.syn
 exact ⟨Blk.keep h.blk k hd,Blk.keep h.now k hn,⟨l',Blk.keep h1 k hs,h2⟩,h.len,h.np,h.ne⟩
theorem Dk.ext {d:Nat} {ws:Value} (h:Dk w d gs gn np l ws) (hb:Below w.heap.size w w'):Dk w' d gs gn np l ws:=h.keep (F:=fun _=>True) (Keep.below hb) trivial trivial trivial
theorem five {t:TypeId} {x0 x1 x2 x3 x4:Value} (h:Blk w g t #[x0,x1,x2,x3,x4]) (hb:Below w.heap.size w w'):
  w'.cell? ⟨g,0,none⟩=some x0/\w'.cell? ⟨g,1,none⟩=some x1/\w'.cell? ⟨g,2,none⟩=some x2/\w'.cell? ⟨g,3,none⟩=some x3/\w'.cell? ⟨g,4,none⟩=some x4 :=
 ⟨(h.ext hb).cell 0,(h.ext hb).cell 1,(h.ext hb).cell 2,(h.ext hb).cell 3,(h.ext hb).cell 4⟩
theorem dead_ {o:Nat} (hc:w.cell? ⟨b,o+1,none⟩=some (.int .u32 0)):
  Calls Tryz.prog 223 #[.pointer (some ⟨b,o,none⟩)] w fun e w'=>e=.returned (.bool false)/\w=w':=by
 have hl:=run_call_load (P:=Tryz.prog) Tryz.func196 (by kernel_rfl) (by kernel_rfl) (by kernel_rfl) .u32 (by kernel_rfl) hc
 go_enter Tryz.func223,Tryz.ntmps223
 go_wp2_with (go_at_call 127;go_in)
 go_ret
 exact ⟨rfl,rfl⟩
theorem step_ {o:Nat} (hc:w.cell? ⟨b,o,none⟩=some (.int .i64 0)):
  Calls Tryz.prog 222 #[.pointer (some ⟨b,o,none⟩)] w fun e w'=>e=.returned (.bool false)/\w=w':=by
 have HL:=zh (qhv ⟨b,o,none⟩ 0 w hc)
 go_enter Tryz.func222,Tryz.ntmps222
 go_wp2_with fail
 refine HL.out.mono ?_
 rintro e w' ⟨rfl,rfl⟩
 go_wp2
 go_ret
 exact ⟨rfl,rfl⟩
theorem qoa {d:Nat} {ws:Value} (h:Dk w d gs gn np l ws) (n size:Nat) (hn:n<np) (hs:size<=64):
  Calls Tryz.prog 188 #[.pointer (some ⟨d,0,none⟩),.int .i64 n,.int .i64 size] w fun e w'=>e=.returned (.int .i64 0)/\w=w':=by
 have q:=five h.blk (zb _ _)
 have HD:=zh (dead_ (w:=w) (b:=d) (o:=0) q.2.1)
 have hnp:=h.np
 go_enter Tryz.func188,Tryz.ntmps188
 go_wp2_with fail
 refine HD.out.mono ?_
 rintro e w' ⟨rfl,rfl⟩
 have d1:decide ((n:Int)<0)=false:=by simp;try omega
 have d2:decide ((np:Int)<=(n:Int))=false:=by simp;omega
 have d3:decide (64<(size:Int))=false:=by simp;omega
 go_wp2
 go_ret
 exact ⟨rfl,rfl⟩
theorem pages_ {d:Nat} {ws:Value} (h:Dk w d gs gn np l ws):
  Calls Tryz.prog 164 #[.pointer (some ⟨d,0,none⟩)] w fun e w'=>e=.returned (.int .i64 np)/\w=w':=by
 have q:=five h.blk (zb _ _)
 go_enter Tryz.func164,Tryz.ntmps164
 go_wp2
 go_ret
 exact ⟨rfl,rfl⟩
theorem qoh (k n:Nat) (z:Value) (hk:0<k):madeCells (Array.replicate k z) n=Array.replicate n z:=by
 apply Array.ext
 ·simp [madeCells]
 ·intro i h1 h2
  have h3:i % k<k:=Nat.mod_lt _ hk
  simp [madeCells,h3]
theorem qpn (n:Nat):(qaa (List.replicate n 0)).toArray=Array.replicate n (.int .u8 0):=by
 simp [qaa]
theorem new_ (np:Nat) (h2:2<=np) (h4:np<=4096) (w:World):
  Calls Tryz.prog 12 #[.int .i64 np] w fun e w'=>∃ d gs gn,e=.returned (.tuple #[.pointer (some ⟨d,0,none⟩),.int .i64 0])/\Dk w' d gs gn np (List.replicate (np * 64) 0) (.slice none 0 0)/\w.heap.size<=d/\w.heap.size<=gs/\w.heap.size<=gn/\Below w.heap.size w w':=by
 obtain ⟨i0,hi,hz0,hz1,hz2⟩:=info_parts (P:=Tryz.prog) (e:=337) (z:=.agg (Array.replicate 64 (.int .u8 0))) (size:=64) (bytes:=64) (by kernel_rfl)
 have hmake:∀ w,(Instr.makeSlice 129 (.int .i64 (np:Int)) (.int .i64 (np:Int))).run Tryz.prog w=.ok (.slice (some ⟨w.heap.size,0,none⟩) np np) (w.alloc (.cells (Array.replicate (np * 64) (.int .u8 0)) 337)):=fun w=>by
  have h:=run_make (P:=Tryz.prog) w 129 337 i0 _ Tryz.underlying129 hi hz0 .i64 .i64 (np:Int) (np:Int) (by omega) (Int.le_refl _) (by rw [hz2];omega) (by omega)
  rw [h,Int.toNat_natCast,hz1]
  show Result.ok _ (w.alloc (.cells (madeCells (Array.replicate 64 (.int .u8 0)) (np * 64)) _))=_
  rw [qoh 64 _ _ (by decide)]
 have d1:decide ((np:Int)<2)=false:=by simp;omega
 have d2:decide (4096<(np:Int))=false:=by simp;omega
 clear hi hz0 hz1 hz2
 go_enter Tryz.func12,Tryz.ntmps12
 go_upto_region 3 with fail
 refine qmw ⟨1,11,fun g=>.slice (some ⟨g,0,none⟩) np np,.cells (Array.replicate (np * 64) (.int .u8 0)) 337⟩ ⟨3,13,fun g=>.slice (some ⟨g,0,none⟩) np np,.cells (Array.replicate (np * 64) (.int .u8 0)) 337⟩
  [(0,true),(2,true)] [] [(4,true),(5,false),(6,true),(7,true)] (by kernel_rfl) (by kernel_rfl) ?_
 repeat ((first|refine iT ?_|refine iF ?_);try go_frame)
 refine qbn ⟨?_,?_⟩
 ·intro u hu
  simp only [List.mem_cons,List.not_mem_nil,or_false] at hu
  rcases hu with rfl|rfl <;> exact ⟨_,rfl,rfl,qae rfl,fun w=>by go_simp⟩
 refine qbn ?_
 intro g1 g2 wf he hb hlo1 hhi1 hat1 hlo2 hhi2 hat2 hne
 go_frame
 clear hmake
 repeat ((first|refine pT ?_|refine pF ?_);try go_frame)
 refine pD fun K hK=>?_;go_simp
 obtain ⟨W,hW_,hbW,B1⟩:=al1 wf 137 #[.int .i64 0,.int .u32 0,.slice (some ⟨g1,0,none⟩) np np,.slice (some ⟨g2,0,none⟩) np np,.slice none 0 0]
 rw [<-hW_]
 clear hW_
 have hbw:=zt hb (zm hbW hb.size)
 refine hK.out _ _ hbw ?_
 clear hK K
 repeat ((first|refine pT ?_|refine pF ?_);try go_frame)
 refine qad ?_
 rw [<-qpn] at hat1 hat2
 have C1:Blk wf g1 337 (qaa (List.replicate (np * 64) 0)).toArray:=hat1
 have C2:Blk wf g2 337 (qaa (List.replicate (np * 64) 0)).toArray:=hat2
 have C1:=C1.ext hbW
 have C2:=C2.ext hbW
 have hD:Dk W wf.heap.size g1 g2 np (List.replicate (np * 64) 0) (.slice none 0 0):=⟨B1,C2,⟨_,C1,by simp⟩,by simp,⟨h2,h4⟩,⟨by omega,by omega,hne⟩⟩
 have HD:=zh hD
 have hsz:=hb.size
 have hbw2:=zt (zb _ w).drew hbw
 clear hD C1 C2 B1 hat1 hat2
 go_wp2
 go_ret2
 exact ⟨_,g1,g2,rfl,HD.out,hsz,hlo1,hlo2,hbw2⟩
theorem read_ {d:Nat} {ws:Value} (h:Dk w d gs gn np l ws) (n:Nat) (hn:n<np):
  Calls Tryz.prog 118 #[.pointer (some ⟨d,0,none⟩),.int .i64 n] w fun e w'=>∃ A c,e=.returned (.tuple #[.slice A 64 c,.int .i64 0])/\w'.ownsRow w.heap.size 5 1 (.slice A 64 c) 64 (qaa ((l.drop (n * 64)).take 64))/\Below w.heap.size w w':=by
 have HC:=zh (qoa h n 0 hn (by omega))
 have hl:=h.len
 have hnp:=h.np
 have hlen:((l.drop (n * 64)).take 64).length=64:=by
  have:(n+1) * 64<=np * 64:=Nat.mul_le_mul_right _ hn
  simp;omega
 have hrow:Row w 0 (some ⟨gn,n * 64,none⟩) 64 64 (qaa ((l.drop (n * 64)).take 64)):=by
  refine .inr (.inr ⟨gn,n * 64,rfl,zl _,Nat.zero_le _,h.now.lt,fun i u hu=>?_⟩)
  rw [h.now.cell]
  simp only [qaa,List.getElem?_map,List.getElem?_take,List.getElem?_drop] at hu
  split at hu
  ·simpa [qaa] using hu
  ·simp at hu
 have HCl:=zh (qjk (qaa ((l.drop (n * 64)).take 64)) (some ⟨gn,n * 64,none⟩) 64 64 w (by omega) hrow (by rw [lenB,hlen]) (oneB _))
 have q:=five h.blk (zb _ _)
 clear hrow hlen h
 go_enter Tryz.func118,Tryz.ntmps118
 go_wp2_with fail
 refine HC.out.mono ?_
 rintro e w' ⟨rfl,rfl⟩
 have d1:((n:Int)<np):=by omega
 go_wp2_with fail
 refine HCl.out.mono ?_
 rintro e w2 ⟨A,c,rfl,hown,hb⟩
 have HO:=zh hown
 clear hown
 go_wp2
 go_ret2
 exact ⟨A,c,rfl,HO.out,hb⟩
end Go.Proofs.YtdjbpcnhnkemiaaGreat.tp
