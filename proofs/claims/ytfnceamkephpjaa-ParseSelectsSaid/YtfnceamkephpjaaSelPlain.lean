/- ParseSelects: what its texts are read as. Printed by gensel.py. -/
import Derived.Test.YtfnceamkephpjaaQ1
import Derived.Test.YtfnceamkephpjaaLA
namespace Go.Proofs.Ytfnceamkephpjaa.pg
open Go.Proofs.Ytfnceamkephpjaa.lx
set_option linter.unusedVariables false

def sel0 : List UInt8 := [115, 101, 108, 101, 99, 116, 32, 120, 44, 32, 99, 111, 117, 110, 116, 40, 42, 41, 44, 32, 109, 97, 120, 40, 116, 46, 121, 41, 32, 102, 114, 111, 109, 32, 116]
def selJ (b : Bool) : List UInt8 := if b then [32, 106, 111, 105, 110, 32, 117, 32, 111, 110, 32, 97, 32, 61, 32, 98] else []
def selW (b : Bool) : List UInt8 := if b then [32, 119, 104, 101, 114, 101, 32, 99, 32, 105, 115, 32, 110, 117, 108, 108] else []
def selG (b : Bool) : List UInt8 := if b then [32, 103, 114, 111, 117, 112, 32, 98, 121, 32, 116, 46, 103] else []
def selO (b d : Bool) : List UInt8 := if b then (if d then [32, 111, 114, 100, 101, 114, 32, 98, 121, 32, 111] ++ [32, 100, 101, 115, 99] else [32, 111, 114, 100, 101, 114, 32, 98, 121, 32, 111]) else []
def selL : Nat → List UInt8
  | 0 => []
  | n + 1 => [32, 108, 105, 109, 105, 116] ++ ([32] ++ digs n)
def selText (j w g o d : Bool) (m : Nat) : List UInt8 := sel0 ++ (selJ j ++ (selW w ++ (selG g ++ (selO o d ++ selL m))))
def segW (l : List UInt8) : List Wd := (lexL l []).2
def selLw : Nat → List Wd
  | 0 => []
  | n + 1 => [⟨1, 0, [108, 105, 109, 105, 116]⟩, ⟨2, n, []⟩]
def selWords (j w g o d : Bool) (m : Nat) : List Wd := segW sel0 ++ segW (selJ j) ++ segW (selW w) ++ segW (selG g) ++ segW (selO o d) ++ selLw m ++ [endW]
theorem seg_ok (l : List UInt8) (h : (lexL l []).1 = 0) : lexL l [] = (0, segW l) := Prod.ext h rfl
theorem free_32 (l : List UInt8) : Free (32 :: l) := fun c q e => by injection e with e _; subst e; rfl
theorem selJ_ok (b : Bool) : lexL (selJ b) [] = (0, segW (selJ b)) := seg_ok _ (by cases b <;> decide +kernel)
theorem selW_ok (b : Bool) : lexL (selW b) [] = (0, segW (selW b)) := seg_ok _ (by cases b <;> decide +kernel)
theorem selG_ok (b : Bool) : lexL (selG b) [] = (0, segW (selG b)) := seg_ok _ (by cases b <;> decide +kernel)
theorem selO_ok (b d : Bool) : lexL (selO b d) [] = (0, segW (selO b d)) := seg_ok _ (by cases b <;> cases d <;> decide +kernel)
theorem sel0_ok : lexL sel0 [] = (0, segW sel0) := seg_ok _ (by decide +kernel)
theorem selJ_fr (b : Bool) : Free (selJ b) := by cases b; exact free_nil; exact free_32 _
theorem selW_fr (b : Bool) : Free (selW b) := by cases b; exact free_nil; exact free_32 _
theorem selG_fr (b : Bool) : Free (selG b) := by cases b; exact free_nil; exact free_32 _
theorem selO_fr (b d : Bool) : Free (selO b d) := by
  cases b
  · exact free_nil
  · cases d <;> exact free_32 _
theorem selL_fr (m : Nat) : Free (selL m) := by cases m; exact free_nil; exact free_32 _
theorem selL_lex (m : Nat) (hm : m ≤ 1000) (out : List Wd) : lexL (selL m) out = (0, out ++ selLw m) := by
  cases m with
  | zero => simp [selL, selLw, lexL_nil]
  | succ n =>
    unfold selL
    rw [lex_seg (ws := [⟨1, 0, [108, 105, 109, 105, 116]⟩]) out (by kernel_rfl) (by exact free_32 _), lex_blanks [32] _ _ (by decide)]
    have h := lex_num n [] (out ++ [⟨1, 0, [108, 105, 109, 105, 116]⟩]) (by omega) (fun c q e => by cases e)
    rw [List.append_nil] at h
    rw [h, lexL_nil, selLw]
    simp
theorem sel_len (j w g o d : Bool) (m : Nat) (hm : m ≤ 1000) : (selText j w g o d m).length ≤ 150 := by
  have h1 : (selJ j).length ≤ 16 := by cases j <;> decide
  have h2 : (selW w).length ≤ 16 := by cases w <;> decide
  have h3 : (selG g).length ≤ 16 := by cases g <;> decide
  have h4 : (selO o d).length ≤ 20 := by cases o <;> cases d <;> decide
  have h5 : (selL m).length ≤ 26 := by
    cases m with
    | zero => decide
    | succ n =>
      have := digs_19 n (by omega)
      simp only [selL, List.length_append, List.length_cons, List.length_nil]
      omega
  have h0 : sel0.length = 35 := by decide
  unfold selText
  simp only [List.length_append]
  omega
theorem sel_words (j w g o d : Bool) (m : Nat) (hm : m ≤ 1000) : wordsL (selText j w g o d m) = (0, selWords j w g o d m) := by
  refine words_at (W := segW sel0 ++ segW (selJ j) ++ segW (selW w) ++ segW (selG g) ++ segW (selO o d) ++ selLw m) (by have := sel_len j w g o d m hm; omega) ?_
  unfold selText
  rw [lex_seg [] sel0_ok (free_app (selJ_fr j) (free_app (selW_fr w) (free_app (selG_fr g) (free_app (selO_fr o d) (selL_fr m))))),
    lex_seg _ (selJ_ok j) (free_app (selW_fr w) (free_app (selG_fr g) (free_app (selO_fr o d) (selL_fr m)))),
    lex_seg _ (selW_ok w) (free_app (selG_fr g) (free_app (selO_fr o d) (selL_fr m))), lex_seg _ (selG_ok g) (free_app (selO_fr o d) (selL_fr m)), lex_seg _ (selO_ok o d) (selL_fr m), selL_lex m hm]
  simp
/-- what each part must be -/
def selOk (j w g o d : Bool) (r : Int × St) : Bool :=
  decide (r.1 = 0) && (decide (r.2.kind = 6) && (decide (r.2.table = [116]) && (decide (r.2.join = if j then [117] else []) && (decide (r.2.on.length = if j then 3 else 0)
   && (decide (r.2.wh.length = if w then 2 else 0) && (decide (r.2.group = if g then [116, 46, 103] else []) && (decide (r.2.order = if o then [111] else []) && (decide (r.2.desc = (o && d))
   && (match r.2.items with | [a, b, c] => decide (a.1 = 0) && (decide (b.1 = 1) && (decide (b.2.length = 0) && (decide (c.1 = 4) && (match c.2 with | n :: _ => decide (n.nm = [116, 46, 121]) | [] => false)))) | _ => false)))))))))
def selRes (j w g o d : Bool) (r : Int × St) : Bool × Int := (selOk j w g o d r, r.2.limit)
theorem sel_ttt (o d : Bool) : (∀ n : Nat, selRes true true true o d (stmtW (selWords true true true o d (n + 1))) = (true, (n : Int))) ∧ selRes true true true o d (stmtW (selWords true true true o d 0)) = (true, -1) := by
  cases o
  · cases d
    · exact ⟨fun n => by kernel_rfl, by kernel_rfl⟩
    · exact ⟨fun n => by kernel_rfl, by kernel_rfl⟩
  · cases d
    · exact ⟨fun n => by kernel_rfl, by kernel_rfl⟩
    · exact ⟨fun n => by kernel_rfl, by kernel_rfl⟩
theorem sel_ttf (o d : Bool) : (∀ n : Nat, selRes true true false o d (stmtW (selWords true true false o d (n + 1))) = (true, (n : Int))) ∧ selRes true true false o d (stmtW (selWords true true false o d 0)) = (true, -1) := by
  cases o
  · cases d
    · exact ⟨fun n => by kernel_rfl, by kernel_rfl⟩
    · exact ⟨fun n => by kernel_rfl, by kernel_rfl⟩
  · cases d
    · exact ⟨fun n => by kernel_rfl, by kernel_rfl⟩
    · exact ⟨fun n => by kernel_rfl, by kernel_rfl⟩
theorem sel_tft (o d : Bool) : (∀ n : Nat, selRes true false true o d (stmtW (selWords true false true o d (n + 1))) = (true, (n : Int))) ∧ selRes true false true o d (stmtW (selWords true false true o d 0)) = (true, -1) := by
  cases o
  · cases d
    · exact ⟨fun n => by kernel_rfl, by kernel_rfl⟩
    · exact ⟨fun n => by kernel_rfl, by kernel_rfl⟩
  · cases d
    · exact ⟨fun n => by kernel_rfl, by kernel_rfl⟩
    · exact ⟨fun n => by kernel_rfl, by kernel_rfl⟩
theorem sel_tff (o d : Bool) : (∀ n : Nat, selRes true false false o d (stmtW (selWords true false false o d (n + 1))) = (true, (n : Int))) ∧ selRes true false false o d (stmtW (selWords true false false o d 0)) = (true, -1) := by
  cases o
  · cases d
    · exact ⟨fun n => by kernel_rfl, by kernel_rfl⟩
    · exact ⟨fun n => by kernel_rfl, by kernel_rfl⟩
  · cases d
    · exact ⟨fun n => by kernel_rfl, by kernel_rfl⟩
    · exact ⟨fun n => by kernel_rfl, by kernel_rfl⟩
theorem sel_ftt (o d : Bool) : (∀ n : Nat, selRes false true true o d (stmtW (selWords false true true o d (n + 1))) = (true, (n : Int))) ∧ selRes false true true o d (stmtW (selWords false true true o d 0)) = (true, -1) := by
  cases o
  · cases d
    · exact ⟨fun n => by kernel_rfl, by kernel_rfl⟩
    · exact ⟨fun n => by kernel_rfl, by kernel_rfl⟩
  · cases d
    · exact ⟨fun n => by kernel_rfl, by kernel_rfl⟩
    · exact ⟨fun n => by kernel_rfl, by kernel_rfl⟩
theorem sel_ftf (o d : Bool) : (∀ n : Nat, selRes false true false o d (stmtW (selWords false true false o d (n + 1))) = (true, (n : Int))) ∧ selRes false true false o d (stmtW (selWords false true false o d 0)) = (true, -1) := by
  cases o
  · cases d
    · exact ⟨fun n => by kernel_rfl, by kernel_rfl⟩
    · exact ⟨fun n => by kernel_rfl, by kernel_rfl⟩
  · cases d
    · exact ⟨fun n => by kernel_rfl, by kernel_rfl⟩
    · exact ⟨fun n => by kernel_rfl, by kernel_rfl⟩
theorem sel_fft (o d : Bool) : (∀ n : Nat, selRes false false true o d (stmtW (selWords false false true o d (n + 1))) = (true, (n : Int))) ∧ selRes false false true o d (stmtW (selWords false false true o d 0)) = (true, -1) := by
  cases o
  · cases d
    · exact ⟨fun n => by kernel_rfl, by kernel_rfl⟩
    · exact ⟨fun n => by kernel_rfl, by kernel_rfl⟩
  · cases d
    · exact ⟨fun n => by kernel_rfl, by kernel_rfl⟩
    · exact ⟨fun n => by kernel_rfl, by kernel_rfl⟩
theorem sel_fff (o d : Bool) : (∀ n : Nat, selRes false false false o d (stmtW (selWords false false false o d (n + 1))) = (true, (n : Int))) ∧ selRes false false false o d (stmtW (selWords false false false o d 0)) = (true, -1) := by
  cases o
  · cases d
    · exact ⟨fun n => by kernel_rfl, by kernel_rfl⟩
    · exact ⟨fun n => by kernel_rfl, by kernel_rfl⟩
  · cases d
    · exact ⟨fun n => by kernel_rfl, by kernel_rfl⟩
    · exact ⟨fun n => by kernel_rfl, by kernel_rfl⟩
theorem sel_all (j w g o d : Bool) (m : Nat) : selRes j w g o d (stmtW (selWords j w g o d m)) = (true, (m : Int) - 1) := by
  have h : (∀ n : Nat, selRes j w g o d (stmtW (selWords j w g o d (n + 1))) = (true, (n : Int))) ∧ selRes j w g o d (stmtW (selWords j w g o d 0)) = (true, -1) := by
    cases j
    · cases w
      · cases g
        · exact sel_fff o d
        · exact sel_fft o d
      · cases g
        · exact sel_ftf o d
        · exact sel_ftt o d
    · cases w
      · cases g
        · exact sel_tff o d
        · exact sel_tft o d
      · cases g
        · exact sel_ttf o d
        · exact sel_ttt o d
  cases m with
  | zero => exact h.2
  | succ n => exact (h.1 n).trans (by rw [show ((n + 1 : Nat) : Int) - 1 = (n : Int) by omega])
theorem stmt_words {l : List UInt8} {W : List Wd} (h : wordsL l = (0, W)) : stmtL l = stmtW W := by
  unfold stmtL
  rw [h]
  exact if_pos rfl
/-- what is read -/
structure SelR (j w g o d : Bool) (m : Nat) (st : St) : Prop where
  kind : st.kind = 6
  table : st.table = [116]
  join : st.join = if j then [117] else []
  on : st.on.length = if j then 3 else 0
  wh : st.wh.length = if w then 2 else 0
  group : st.group = if g then [116, 46, 103] else []
  order : st.order = if o then [111] else []
  desc : st.desc = (o && d)
  limit : st.limit = (m : Int) - 1
  items : ∃ a b c n r, st.items = [(0, a), (1, b), (4, c)] ∧ b = [] ∧ c = n :: r ∧ n.nm = [116, 46, 121]
theorem sel_ok (j w g o d : Bool) (m : Nat) (hm : m ≤ 1000) : ∃ st, stmtL (selText j w g o d m) = (0, st) ∧ SelR j w g o d m st := by
  have h := sel_all j w g o d m
  rw [← stmt_words (sel_words j w g o d m hm)] at h
  obtain ⟨⟨er, st⟩, hr⟩ : ∃ r, stmtL (selText j w g o d m) = r := ⟨_, rfl⟩
  rw [hr] at h ⊢
  have hl := (show (selRes j w g o d (er, st)).2 = st.limit from rfl).symm.trans (congrArg Prod.snd h)
  replace h := (show (selRes j w g o d (er, st)).1 = selOk j w g o d (er, st) from rfl).symm.trans (congrArg Prod.fst h)
  unfold selOk at h
  simp only [Bool.and_eq_true, decide_eq_true_eq] at h
  obtain ⟨rfl, h1, h2, h3, h4, h5, h6, h7, h8, h9⟩ := h
  refine ⟨st, rfl, h1, h2, h3, h4, h5, h6, h7, h8, hl, ?_⟩
  cases hi : st.items with
  | nil => rw [hi] at h9; cases h9
  | cons a l1 =>
    rw [hi] at h9
    cases l1 with
    | nil => cases h9
    | cons b l2 =>
      cases l2 with
      | nil => cases h9
      | cons c l3 =>
        cases l3 with
        | cons _ _ => cases h9
        | nil =>
          obtain ⟨a1, a2⟩ := a
          obtain ⟨b1, b2⟩ := b
          obtain ⟨c1, c2⟩ := c
          simp only [Bool.and_eq_true, decide_eq_true_eq] at h9
          obtain ⟨rfl, rfl, hb, rfl, h10⟩ := h9
          cases c2 with
          | nil => cases h10
          | cons n r =>
            refine ⟨a2, b2, n :: r, n, r, rfl, List.eq_nil_of_length_eq_zero hb, rfl, ?_⟩
            simpa using h10
end Go.Proofs.Ytfnceamkephpjaa.pg
