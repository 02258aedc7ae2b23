/- Plain: the nodes that a text is read as are good ones: at most sixty, with texts, numbers and names in their bounds. -/
import Derived.Test.YtfgmlgflfagdjaaMY7
namespace Go.Proofs.Ytfgmlgflfagdjaa.ps
open Go.ChangeShapes Go.WideShapes Go.ChangeAt Go.RowKit Go.Proofs.Ytfgmlgflfagdjaa.lib Go.Proofs.Ytfgmlgflfagdjaa.val Go.Proofs.Ytfgmlgflfagdjaa.lx Go.Proofs.Ytfgmlgflfagdjaa.ev
set_option linter.unusedVariables false

structure NdOK (n : Nd) : Prop where
  vs : n.v.s.size ≤ 60
  vn : ok64 n.v.n
  s : n.s.size ≤ 25
def AllOK (p : Ps) : Prop := p.e.length ≤ 60 ∧ ∀ n ∈ p.e, NdOK n
def WdOK (w : Wd) : Prop := (w.k = 2 → ok64 w.n) ∧ (w.k = 3 → w.s.length ≤ 60)
def WsOK (W : List Wd) : Prop := ∀ w ∈ W, WdOK w
theorem wdok_end : WdOK endW := ⟨fun h => absurd h (by decide), fun h => absurd h (by decide)⟩
theorem wdok_good {w : Wd} (h : lx.Good w) : WdOK w := by
  rcases h with h | h | h | h
  · exact ⟨fun e => by omega, fun e => by omega⟩
  · exact ⟨fun e => by unfold ok64; omega, fun e => by omega⟩
  · exact ⟨fun e => by omega, fun e => h.2.2⟩
  · exact ⟨fun e => by omega, fun e => by omega⟩
theorem wdok_at {W : List Wd} (h : WsOK W) (p : Ps) : WdOK (wAt W p) := by
  unfold wAt
  cases hw : W[p.at_]? with
  | none => exact wdok_end
  | some w => exact h w (List.mem_of_getElem? hw)
theorem e_fail (x : Int) (p : Ps) : (failP x p).e = p.e := by unfold failP; split <;> rfl
theorem e_must (W : List Wd) (s : List UInt8) (p : Ps) : (mustP W s p).e = p.e := by unfold mustP; split <;> first | rfl | exact e_fail 6 p
theorem e_name (W : List Wd) (p : Ps) : (nameP W p).2.e = p.e := by unfold nameP; split <;> first | rfl | exact e_fail 6 p
theorem e_col (W : List Wd) (p : Ps) : (colP W p).2.e = p.e := by
  unfold colP
  split
  · rw [e_name]; exact e_name W p
  · exact e_name W p
theorem l_name (W : List Wd) (p : Ps) : (nameP W p).1.length ≤ 12 := by
  unfold nameP
  split
  · next h =>
    unfold nameIs nameOk at h
    simp only [Bool.and_eq_true, decide_eq_true_eq] at h
    exact h.2.2.2.1
  · exact Nat.zero_le _
theorem l_col (W : List Wd) (p : Ps) : (colP W p).1.length ≤ 25 := by
  unfold colP
  split
  · have h1 := l_name W p
    have h2 := l_name W (stepP (nameP W p).2)
    simp only [List.length_append, List.length_cons, List.length_nil]
    omega
  · exact Nat.le_trans (l_name W p) (by omega)
theorem all_e {p q : Ps} (h : AllOK p) (e : q.e = p.e) : AllOK q := by
  unfold AllOK at *
  rw [e]
  exact h
theorem all_node {p : Ps} {n : Nd} (h : AllOK p) (hn : NdOK n) : AllOK (nodeP n p).2 := by
  unfold nodeP
  split
  · exact h
  split
  · exact all_e h (e_fail 4 p)
  · refine ⟨?_, fun x hx => ?_⟩
    · show (p.e ++ [n]).length ≤ 60
      rw [List.length_append, List.length_singleton]
      omega
    · rcases List.mem_append.1 hx with hx | hx
      · exact h.2 x hx
      · rw [List.mem_singleton.1 hx]; exact hn
theorem ok_zero : ok64 0 := by unfold ok64; omega
theorem ndok_2 (op a b : Int) : NdOK (nd2 op a b) := ⟨Nat.zero_le _, ok_zero, Nat.zero_le _⟩
theorem ndok_v {v : V} (h1 : v.s.size ≤ 60) (h2 : ok64 v.n) : NdOK (ndV v) := ⟨h1, h2, Nat.zero_le _⟩
theorem ndok_c {s : List UInt8} (h : s.length ≤ 25) : NdOK (ndC s) := ⟨Nat.zero_le _, ok_zero, by show (ByteArray.mk s.toArray).size ≤ 25; rw [size_mk]; exact h⟩
theorem all_loop {W : List Wd} {sub : Sub} (hs : ∀ p : Ps, AllOK p → AllOK (sub p).2) (ops : List (List UInt8 × Int)) : ∀ (n : Nat) (a : Int) (p : Ps), AllOK p → AllOK (loopP W sub ops n a p).2
  | 0, a, p, h => h
  | n + 1, a, p, h => by
    unfold loopP
    split
    · exact all_loop hs ops n _ _ (all_node (hs _ (all_e h rfl)) (ndok_2 _ _ _))
    · exact h
theorem all_cmp {W : List Wd} {sub : Sub} (hs : ∀ p : Ps, AllOK p → AllOK (sub p).2) (a : Int) (p : Ps) (h : AllOK p) : AllOK (cmpP W sub a p).2 := by
  unfold cmpP
  split
  · exact all_node (hs _ (all_e h rfl)) (ndok_2 _ _ _)
  · exact h
theorem all_one {W : List Wd} (hW : WsOK W) {sub : Sub} (hs : ∀ p : Ps, AllOK p → AllOK (sub p).2) (p : Ps) (h : AllOK p) : AllOK (oneP W sub p).2 := by
  have hw := wdok_at hW p
  have hq : AllOK (stepP p) := all_e h rfl
  have ok1 : ok64 1 := by unfold ok64; omega
  unfold oneP
  split
  · exact h
  split
  · next hk => exact all_node hq (ndok_v (Nat.zero_le _) (hw.1 hk))
  split
  · next hk => exact all_node hq (ndok_v (by show (ByteArray.mk _).size ≤ 60; rw [size_mk]; exact hw.2 hk) ok_zero)
  split
  · exact all_node hq (ndok_v (Nat.zero_le _) ok1)
  split
  · exact all_node hq (ndok_v (Nat.zero_le _) ok_zero)
  split
  · exact all_node hq (ndok_v (Nat.zero_le _) ok_zero)
  split
  · exact all_e (hs _ hq) (e_must W _ _)
  · exact all_node (all_e h (e_col W p)) (ndok_c (l_col W p))
theorem all_pr {W : List Wd} (hW : WsOK W) : ∀ (f k : Nat) (p : Ps), AllOK p → AllOK (pr W f k p).2
  | 0, k, p, h => by unfold pr; exact h
  | f + 1, k, p, h => by
    have ih := all_pr hW f
    match k with
    | 0 => unfold pr; exact all_loop (ih 1) _ _ _ _ (ih 1 p h)
    | 1 => unfold pr; exact all_loop (ih 2) _ _ _ _ (ih 2 p h)
    | 2 =>
      unfold pr
      split
      · exact all_node (ih 2 _ (all_e h rfl)) (ndok_2 _ _ _)
      · exact ih 3 p h
    | 3 =>
      unfold pr
      split
      · exact all_node (all_e (all_e (ih 4 p h) (q := stepP (pr W f 4 p).2) rfl) (e_must W _ _)) (ndok_2 _ _ _)
      · exact all_cmp (ih 4) _ _ (ih 4 p h)
    | 4 => unfold pr; exact all_loop (ih 5) _ _ _ _ (ih 5 p h)
    | 5 => unfold pr; exact all_loop (ih 6) _ _ _ _ (ih 6 p h)
    | 6 =>
      unfold pr
      split
      · exact all_node (ih 6 _ (all_e h rfl)) (ndok_2 _ _ _)
      · exact ih 7 p h
    | k + 7 => unfold pr; exact all_one hW (ih 0) p h
theorem words_ok_all (l : List UInt8) (h : (wordsL l).1 = 0) : WsOK (wordsL l).2 := by
  unfold wordsL at h ⊢
  split at h
  · cases h
  · next h6 =>
    rw [if_neg h6]
    split at h
    · next hz =>
      rw [if_pos hz]
      intro w hw
      rcases List.mem_append.1 hw with hw | hw
      · exact wdok_good (lexL_good l hz w hw)
      · rw [List.mem_singleton.1 hw]; exact wdok_end
    · next hz => exact absurd h hz
/-- what Expr answers is good -/
theorem expr_ok (l : List UInt8) : (exprL l).2.length ≤ 60 ∧ ∀ n ∈ (exprL l).2, NdOK n := by
  unfold exprL
  split
  · exact ⟨Nat.zero_le _, fun n h => by cases h⟩
  · next h =>
    have hW := words_ok_all l (by simpa using h)
    have h0 : AllOK ⟨0, 0, []⟩ := ⟨Nat.zero_le _, fun n h => by cases h⟩
    have h1 : AllOK (exprP (wordsL l).2 ⟨0, 0, []⟩).2 := all_pr hW _ _ _ h0
    generalize (exprP (wordsL l).2 ⟨0, 0, []⟩).2 = q at *
    have h2 : AllOK (endP (wordsL l).2 q) := by
      unfold endP
      split
      · exact all_e h1 (e_fail 6 q)
      · exact h1
    unfold outP
    split
    · exact ⟨Nat.zero_le _, fun n h => by cases h⟩
    · exact h2
end Go.Proofs.Ytfgmlgflfagdjaa.ps
