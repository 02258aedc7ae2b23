/- Contract: Value. -/
import Derived.Test.YtfgmlgflfagdjaaE10
namespace Go.Proofs.Ytfgmlgflfagdjaa.ev
open Go.ChangeShapes Go.WideShapes Go.ChangeAt Go.RowKit Go.Proofs.Ytfgmlgflfagdjaa.lib Go.Proofs.Ytfgmlgflfagdjaa.val
set_option linter.unusedVariables false

theorem Kindr (es : List Nd) (p : Int × Int) (A : Option Addr) (N c B : Nat) (C : Value) (F : ByteArray → Int × Int) (G : ByteArray → Int) (w0 w : World) (hp : KindV F G es = p) (hN : es.length = N) (hB : B ≤ w0.heap.size) (hw : Below B w0 w) (hr : Nds w0 B A es)
    (hc : ∀ n ∈ es, n.op ≠ 2) (hs : ∀ n ∈ es, n.v.s.size ≤ maxLen) :
    Calls Try.prog 20 #[.slice A N c, C] w fun e w' => e = .returned (two p) ∧ Below w.heap.size w w' := by
  subst hp
  exact Kind es A N c B C F G w hN (Nat.le_trans hB hw.size) (hr.below hw) (fun n hn h => absurd h (hc n hn)) hs

theorem two_set {w : World} {g h : Nat} {t t' : TypeId} {y0 y1 y2 z : Value} (h1 : Blk w g t #[y0, y1, y2]) (h2 : Blk w h t' #[z]) (hne : g ≠ h) (a b c d : Value) :
    ∃ w', w' = (((w.setCell ⟨g, 0, none⟩ a).setCell ⟨g, 1, none⟩ b).setCell ⟨g, 2, none⟩ c).setCell ⟨h, 0, none⟩ d ∧ Blk w' g t #[a, b, c] ∧ Blk w' h t' #[d] ∧ ∀ B, B ≤ g → B ≤ h → Below B w w' := by
  obtain ⟨w1, hw1, B1, hb1, hfar, _⟩ := h1.set3 a b c
  refine ⟨w1.setCell ⟨h, 0, none⟩ d, by rw [hw1], B1.far (p := ⟨h, 0, none⟩) hne d, ?_, fun B hB1 hB2 => (hb1 B hB1).setCell hB2 _⟩
  simpa using (hfar h _ _ (Ne.symm hne) h2).set_ 0 d
/-- the cells of values -/
def cellsV (vs : List V) : List Value := vs.flatMap fun v => [.int .i64 v.k, .int .i64 v.n, .string v.s]
theorem cellsV_len (vs : List V) : (cellsV vs).length = vs.length * 3 := by
  induction vs with
  | nil => rfl
  | cons v r ih => simp only [cellsV, List.flatMap_cons, List.length_append] at ih ⊢; rw [ih]; simp; omega
theorem cellsV_at (vs : List V) : ∀ (i : Nat) (v : V), vs[i]? = some v → (cellsV vs)[i * 3]? = some (.int .i64 v.k) ∧ (cellsV vs)[i * 3 + 1]? = some (.int .i64 v.n) ∧ (cellsV vs)[i * 3 + 2]? = some (.string v.s) := by
  induction vs with
  | nil => intro i v h; cases h
  | cons x r ih =>
    intro i v h
    match i, h with
    | 0, h => injection h with h; subst h; exact ⟨rfl, rfl, rfl⟩
    | i + 1, h =>
      obtain ⟨a, b, c⟩ := ih i v h
      have e : cellsV (x :: r) = .int .i64 x.k :: .int .i64 x.n :: .string x.s :: cellsV r := rfl
      rw [e, show (i + 1) * 3 = i * 3 + 1 + 1 + 1 by omega]
      exact ⟨a, b, c⟩
theorem own_vals {w : World} {base : Nat} {e : TypeId} {v : Value} {n : Nat} {vs : List V} (h : w.ownsRow base e 3 v n (cellsV vs)) (hn : vs.length = n) : ∃ A c, v = .slice A n c ∧ Vals w w.heap.size A vs ∧ (0 < n → ∃ g, A = some ⟨g, 0, none⟩ ∧ base ≤ g) := by
  rcases Nat.eq_zero_or_pos n with h0 | h0
  · subst h0
    rcases h.2 with ⟨rfl, _⟩ | ⟨g, cap, cur, rfl, _⟩
    · exact ⟨none, 0, rfl, fun hp => absurd hp (by omega), fun hp => absurd hp (by omega)⟩
    · exact ⟨some ⟨g, 0, none⟩, cap, rfl, fun hp => absurd hp (by omega), fun hp => absurd hp (by omega)⟩
  · obtain ⟨g, cap, rfl, hb, hlt⟩ := h.form h0
    refine ⟨some ⟨g, 0, none⟩, cap, rfl, fun _ => ⟨g, 0, rfl, hlt, fun i v hi => ?_⟩, fun _ => ⟨g, rfl, hb⟩⟩
    have hl : i < vs.length := (List.getElem?_eq_some_iff.1 hi).1
    obtain ⟨a, b, c⟩ := cellsV_at vs i v hi
    refine ⟨?_, ?_, ?_⟩
    · rw [Nat.zero_add, h.cellAt (i * 3) (by omega)]; exact a
    · rw [Nat.zero_add, h.cellAt (i * 3 + 1) (by omega)]; exact b
    · rw [Nat.zero_add, h.cellAt (i * 3 + 2) (by omega)]; exact c

set_option maxRecDepth 1000000 in
theorem Value_bad (es : List Nd) (A : Option Addr) (N c B : Nat) (C R : Value) (F : ByteArray → Int × Int) (G : ByteArray → Int) (w : World) (k er : Int) (hk : KindV F G es = (k, er)) (her : er ≠ 0) (hN : es.length = N) (hB : B ≤ w.heap.size) (hr : Nds w B A es)
    (hc : ∀ n ∈ es, n.op ≠ 2) (hs : ∀ n ∈ es, n.v.s.size ≤ maxLen) :
    Calls Try.prog 23 #[.slice A N c, C, R] w fun e w' => e = .returned (.tuple #[.agg #[.int .i64 0, .int .i64 0, .string ⟨#[]⟩], .int .i64 er]) ∧ Below w.heap.size w w' := by
  have he : (er == 0) = false := by simpa using her
  have hmf : ∀ (fn : Fn) (first cap : Array Value) (w : World), (Instr.makeFunc fn first cap).run Try.prog w = .ok (.func fn first cap) w := fun _ _ _ _ => rfl
  have HK := Lib.hid hk
  have HN := Lib.hid hN
  clear hk hN
  go_enter_defers Try.func23, Try.ntmps23
  go_wp2_with fail
  obtain ⟨W, hW_, hbW, B1, B2⟩ : ∃ W_, W_ = ((w.alloc (.cells #[.int .i64 0, .int .i64 0, .string ⟨#[]⟩] 30)).alloc (.cells #[.int .i64 0] 41)) ∧ Below w.heap.size w W_ ∧ Blk W_ (w.heap.size) 30 #[.int .i64 0, .int .i64 0, .string ⟨#[]⟩] ∧ Blk W_ (w.heap.size + 1) 41 #[.int .i64 0] :=
    ⟨_, rfl, (((Below.refl _ _).alloc (Nat.le_refl _) _).alloc (by simp; try omega) _), ((blk_new_at w (w.heap.size) _ _ (by simp)).alloc _), (blk_new_at (w.alloc (.cells #[.int .i64 0, .int .i64 0, .string ⟨#[]⟩] 30)) (w.heap.size + 1) _ _ (by simp))⟩
  rw [← hW_]
  clear hW_
  refine (Kindr es _ A N c B C F G w W HK.out HN.out hB (Below.mono hbW hB) hr hc hs).mono ?_
  rintro e w3 ⟨rfl, hb3⟩
  unfold two
  have q1 := (B1.ext hb3).three (Below.refl _ _)
  have f1 := (B1.ext hb3).free3
  have q2 : w3.cell? ⟨w.heap.size + 1, 0, none⟩ = some (.int .i64 0) := (B2.ext hb3).cell 0
  have f2 := (B2.ext hb3).frozen 0
  go_wp2
  clear q1 f1 q2 f2
  obtain ⟨wE, hwE, E1, E2, hbE⟩ := two_set (B1.ext hb3) (B2.ext hb3) (by omega) (.int .i64 0) (.int .i64 0) (.string ⟨#[]⟩) (.int .i64 er)
  rw [← hwE]
  have q1 := E1.three (Below.refl _ _)
  have q2 : wE.cell? ⟨w.heap.size + 1, 0, none⟩ = some (.int .i64 er) := E2.cell 0
  have hb4 : Below w.heap.size w wE := Below.trans (bch0 hbW hb3) (hbE _ (by omega) (by omega))
  simp [bodyPostD, Leaves, results, Try.results23, go_sem, q1, q2, hb4]

end Go.Proofs.Ytfgmlgflfagdjaa.ev
