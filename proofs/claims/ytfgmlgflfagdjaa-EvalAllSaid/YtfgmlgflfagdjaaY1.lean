/- Plain: the document's expression parser over a list of words. -/
import Derived.Test.YtfgmlgflfagdjaaL1
import Derived.Test.YtfgmlgflfagdjaaE5
namespace Go.Proofs.Ytfgmlgflfagdjaa.ps
open Go.Proofs.Ytfgmlgflfagdjaa.val Go.Proofs.Ytfgmlgflfagdjaa.lx Go.Proofs.Ytfgmlgflfagdjaa.ev
set_option linter.unusedVariables false

/-- a parser: where it is, the first error, the nodes -/
structure Ps where
  at_ : Nat
  err : Int
  e : List Nd
def wAt (W : List Wd) (p : Ps) : Wd := (W[p.at_]?).getD endW
def failP (x : Int) (p : Ps) : Ps := if p.err = 0 then ⟨p.at_, x, p.e⟩ else p
def stepP (p : Ps) : Ps := ⟨p.at_ + 1, p.err, p.e⟩
def okIs (W : List Wd) (s : List UInt8) (p : Ps) : Bool := decide (p.err = 0) && ((decide ((wAt W p).k = 1) || decide ((wAt W p).k = 4)) && ((wAt W p).s == s))
def mustP (W : List Wd) (s : List UInt8) (p : Ps) : Ps := if okIs W s p = true then stepP p else failP 6 p
def reserved : List (List UInt8) := [[97, 110, 100], [98, 101, 103, 105, 110], [98, 111, 111, 108], [98, 121], [99, 111, 109, 109, 105, 116], [99, 111, 117, 110, 116], [99, 114, 101, 97, 116, 101], [100, 101, 108, 101, 116, 101], [100, 101, 115, 99], [100, 114, 111, 112], [102, 97, 108, 115, 101], [102, 114, 111, 109], [103, 114, 111, 117, 112], [105, 110, 115, 101, 114, 116], [105, 110, 116], [105, 110, 116, 111], [105, 115], [106, 111, 105, 110], [107, 101, 121], [108, 105, 109, 105, 116], [109, 97, 120], [109, 105, 110], [110, 111, 116], [110, 117, 108, 108], [111, 110], [111, 110, 108, 121], [111, 114], [111, 114, 100, 101, 114], [112, 114, 105, 109, 97, 114, 121], [114, 111, 108, 108, 98, 97, 99, 107], [115, 97, 118, 101, 112, 111, 105, 110, 116], [115, 101, 108, 101, 99, 116], [115, 101, 116], [115, 117, 109], [116, 97, 98, 108, 101], [116, 101, 120, 116], [116, 111], [116, 114, 117, 101], [117, 112, 100, 97, 116, 101], [118, 97, 108, 117, 101, 115], [119, 104, 101, 114, 101]]
def nameOk (s : List UInt8) : Bool := decide (1 ≤ s.length) && (decide (s.length ≤ 12) && (letB (s.headD 0) && (s.all nameB && !(reserved.contains s))))
def nameIs (W : List Wd) (p : Ps) : Bool := decide (p.err = 0) && (decide ((wAt W p).k = 1) && nameOk (wAt W p).s)
def nameP (W : List Wd) (p : Ps) : List UInt8 × Ps := if nameIs W p = true then ((wAt W p).s, stepP p) else ([], failP 6 p)
def colP (W : List Wd) (p : Ps) : List UInt8 × Ps :=
  if okIs W [46] (nameP W p).2 = true then ((nameP W p).1 ++ [46] ++ (nameP W (stepP (nameP W p).2)).1, (nameP W (stepP (nameP W p).2)).2) else nameP W p
def nodeP (n : Nd) (p : Ps) : Int × Ps := if p.err ≠ 0 then (0, p) else if 60 ≤ p.e.length then (0, failP 4 p) else ((p.e.length : Int), ⟨p.at_, p.err, p.e ++ [n]⟩)
/-- a node of two parts -/
def nd2 (op a b : Int) : Nd := ⟨op, a, b, ⟨0, 0, ⟨#[]⟩⟩, ⟨#[]⟩⟩
def ndV (v : V) : Nd := ⟨1, 0, 0, v, ⟨#[]⟩⟩
def ndC (s : List UInt8) : Nd := ⟨2, 0, 0, ⟨0, 0, ⟨#[]⟩⟩, ⟨s.toArray⟩⟩
abbrev Sub := Ps → Int × Ps
/-- parts with signs between, from the left -/
def loopP (W : List Wd) (sub : Sub) (ops : List (List UInt8 × Int)) : Nat → Int → Ps → Int × Ps
  | 0, a, p => (a, p)
  | n + 1, a, p => match ops.find? (fun x => okIs W x.1 p) with
    | some x => loopP W sub ops n (nodeP (nd2 x.2 a (sub (stepP p)).1) (sub (stepP p)).2).1 (nodeP (nd2 x.2 a (sub (stepP p)).1) (sub (stepP p)).2).2
    | none => (a, p)
def cmps : List (List UInt8 × Int) := [([61], 8), ([60, 62], 9), ([60], 10), ([60, 61], 11), ([62], 12), ([62, 61], 13)]
def cmpP (W : List Wd) (sub : Sub) (a : Int) (p : Ps) : Int × Ps := match cmps.find? (fun x => okIs W x.1 p) with
  | some x => nodeP (nd2 x.2 a (sub (stepP p)).1) (sub (stepP p)).2
  | none => (a, p)
def oneP (W : List Wd) (sub : Sub) (p : Ps) : Int × Ps :=
  if p.err ≠ 0 then (0, p)
  else if (wAt W p).k = 2 then nodeP (ndV ⟨2, (wAt W p).n, ⟨#[]⟩⟩) (stepP p)
  else if (wAt W p).k = 3 then nodeP (ndV ⟨3, 0, ⟨(wAt W p).s.toArray⟩⟩) (stepP p)
  else if okIs W [116, 114, 117, 101] p = true then nodeP (ndV ⟨1, 1, ⟨#[]⟩⟩) (stepP p)
  else if okIs W [102, 97, 108, 115, 101] p = true then nodeP (ndV ⟨1, 0, ⟨#[]⟩⟩) (stepP p)
  else if okIs W [110, 117, 108, 108] p = true then nodeP (ndV ⟨0, 0, ⟨#[]⟩⟩) (stepP p)
  else if okIs W [40] p = true then ((sub (stepP p)).1, mustP W [41] (sub (stepP p)).2)
  else nodeP (ndC (colP W p).1) (colP W p).2
/-- the rows of expressions: or, and, not, compare, sum, mul, neg, one -/
def pr (W : List Wd) : Nat → Nat → Ps → Int × Ps
  | 0, _, p => (0, p)
  | f + 1, 0, p => loopP W (pr W f 1) [([111, 114], 6)] W.length (pr W f 1 p).1 (pr W f 1 p).2
  | f + 1, 1, p => loopP W (pr W f 2) [([97, 110, 100], 7)] W.length (pr W f 2 p).1 (pr W f 2 p).2
  | f + 1, 2, p => if okIs W [110, 111, 116] p = true then nodeP (nd2 3 (pr W f 2 (stepP p)).1 0) (pr W f 2 (stepP p)).2 else pr W f 3 p
  | f + 1, 3, p => if okIs W [105, 115] (pr W f 4 p).2 = true then nodeP (nd2 5 (pr W f 4 p).1 0) (mustP W [110, 117, 108, 108] (stepP (pr W f 4 p).2)) else cmpP W (pr W f 4) (pr W f 4 p).1 (pr W f 4 p).2
  | f + 1, 4, p => loopP W (pr W f 5) [([43], 14), ([45], 15)] W.length (pr W f 5 p).1 (pr W f 5 p).2
  | f + 1, 5, p => loopP W (pr W f 6) [([42], 16)] W.length (pr W f 6 p).1 (pr W f 6 p).2
  | f + 1, 6, p => if okIs W [45] p = true then nodeP (nd2 4 (pr W f 6 (stepP p)).1 0) (pr W f 6 (stepP p)).2 else pr W f 7 p
  | f + 1, _ + 7, p => oneP W (pr W f 0) p
/-- words end with End, and only there -/
structure WOk (W : List Wd) : Prop where
  pos : 0 < W.length
  last : ∀ i w, W[i]? = some w → w.k ≠ 0 → i + 1 < W.length
theorem stepP_lt {W : List Wd} (h : WOk W) {p : Ps} (hk : (wAt W p).k ≠ 0) : (stepP p).at_ < W.length := by
  unfold wAt at hk
  cases hw : W[p.at_]? with
  | none => rw [hw] at hk; exact absurd rfl hk
  | some w => rw [hw] at hk; exact h.last _ w hw hk
theorem okIs_k {W : List Wd} {s : List UInt8} {p : Ps} (h : okIs W s p = true) : p.err = 0 ∧ (wAt W p).k ≠ 0 ∧ (wAt W p).s = s := by
  unfold okIs at h
  simp only [Bool.and_eq_true, Bool.or_eq_true, decide_eq_true_eq, beq_iff_eq] at h
  obtain ⟨h1, h2, h3⟩ := h
  exact ⟨h1, by rcases h2 with h2 | h2 <;> omega, h3⟩
/-- it goes on, and stays within -/
structure On (W : List Wd) (p q : Ps) : Prop where
  le : p.at_ ≤ q.at_
  lt : q.at_ < W.length
theorem On.trans {W : List Wd} {p q r : Ps} (h : On W p q) (k : On W q r) : On W p r := ⟨Nat.le_trans h.le k.le, k.lt⟩
theorem on_fail {W : List Wd} {p : Ps} (h : p.at_ < W.length) (x : Int) : On W p (failP x p) := by
  unfold failP
  split
  · exact ⟨Nat.le_refl _, h⟩
  · exact ⟨Nat.le_refl _, h⟩
theorem on_step {W : List Wd} (hW : WOk W) {p : Ps} (hk : (wAt W p).k ≠ 0) : On W p (stepP p) := ⟨Nat.le_succ _, stepP_lt hW hk⟩
theorem on_must {W : List Wd} (hW : WOk W) {p : Ps} (h : p.at_ < W.length) (s : List UInt8) : On W p (mustP W s p) := by
  unfold mustP
  split
  · next hk => exact on_step hW (okIs_k hk).2.1
  · exact on_fail h 6
theorem on_node {W : List Wd} {p : Ps} (h : p.at_ < W.length) (n : Nd) : On W p (nodeP n p).2 := by
  unfold nodeP
  split
  · exact ⟨Nat.le_refl _, h⟩
  split
  · exact on_fail h 4
  · exact ⟨Nat.le_refl _, h⟩
theorem on_name {W : List Wd} (hW : WOk W) {p : Ps} (h : p.at_ < W.length) : On W p (nameP W p).2 := by
  unfold nameP
  split
  · next hk =>
    refine on_step hW ?_
    unfold nameIs at hk
    simp only [Bool.and_eq_true, decide_eq_true_eq] at hk
    omega
  · exact on_fail h 6
theorem on_col {W : List Wd} (hW : WOk W) {p : Ps} (h : p.at_ < W.length) : On W p (colP W p).2 := by
  have h1 := on_name hW h
  unfold colP
  split
  · next hk =>
    have h2 := on_step hW (okIs_k hk).2.1
    exact (h1.trans h2).trans (on_name hW h2.lt)
  · exact h1
theorem find_ok {W : List Wd} {ops : List (List UInt8 × Int)} {p : Ps} {x : List UInt8 × Int} (h : ops.find? (fun x => okIs W x.1 p) = some x) : okIs W x.1 p = true := by
  have := List.find?_some h
  simpa using this
theorem on_loop {W : List Wd} (hW : WOk W) {sub : Sub} (hs : ∀ p : Ps, p.at_ < W.length → On W p (sub p).2) (ops : List (List UInt8 × Int)) : ∀ (n : Nat) (a : Int) (p : Ps), p.at_ < W.length → On W p (loopP W sub ops n a p).2
  | 0, a, p, h => ⟨Nat.le_refl _, h⟩
  | n + 1, a, p, h => by
    unfold loopP
    split
    · next x hx =>
      have h1 := on_step hW (okIs_k (find_ok hx)).2.1
      have h2 := h1.trans (hs _ h1.lt)
      have h3 := h2.trans (on_node h2.lt (nd2 x.2 a (sub (stepP p)).1))
      exact h3.trans (on_loop hW hs ops n _ _ h3.lt)
    · exact ⟨Nat.le_refl _, h⟩
theorem on_cmp {W : List Wd} (hW : WOk W) {sub : Sub} (hs : ∀ p : Ps, p.at_ < W.length → On W p (sub p).2) (a : Int) (p : Ps) (h : p.at_ < W.length) : On W p (cmpP W sub a p).2 := by
  unfold cmpP
  split
  · next x hx =>
    have h1 := on_step hW (okIs_k (find_ok hx)).2.1
    have h2 := h1.trans (hs _ h1.lt)
    exact h2.trans (on_node h2.lt _)
  · exact ⟨Nat.le_refl _, h⟩
theorem on_one {W : List Wd} (hW : WOk W) {sub : Sub} (hs : ∀ p : Ps, p.at_ < W.length → On W p (sub p).2) (p : Ps) (h : p.at_ < W.length) : On W p (oneP W sub p).2 := by
  unfold oneP
  split
  · exact ⟨Nat.le_refl _, h⟩
  split
  · next hk => have h1 := on_step hW (p := p) (by omega); exact h1.trans (on_node h1.lt _)
  split
  · next hk => have h1 := on_step hW (p := p) (by omega); exact h1.trans (on_node h1.lt _)
  split
  · next hk => have h1 := on_step hW (okIs_k hk).2.1; exact h1.trans (on_node h1.lt _)
  split
  · next hk => have h1 := on_step hW (okIs_k hk).2.1; exact h1.trans (on_node h1.lt _)
  split
  · next hk => have h1 := on_step hW (okIs_k hk).2.1; exact h1.trans (on_node h1.lt _)
  split
  · next hk =>
    have h1 := on_step hW (okIs_k hk).2.1
    have h2 := h1.trans (hs _ h1.lt)
    exact h2.trans (on_must hW h2.lt _)
  · have h1 := on_col hW h
    exact h1.trans (on_node h1.lt _)
theorem on_pr {W : List Wd} (hW : WOk W) : ∀ (f k : Nat) (p : Ps), p.at_ < W.length → On W p (pr W f k p).2
  | 0, k, p, h => by unfold pr; exact ⟨Nat.le_refl _, h⟩
  | f + 1, k, p, h => by
    have ih := on_pr hW f
    match k with
    | 0 => unfold pr; have h1 := ih 1 p h; exact h1.trans (on_loop hW (ih 1) _ _ _ _ h1.lt)
    | 1 => unfold pr; have h1 := ih 2 p h; exact h1.trans (on_loop hW (ih 2) _ _ _ _ h1.lt)
    | 2 =>
      unfold pr
      split
      · next hk =>
        have h1 := on_step hW (okIs_k hk).2.1
        have h2 := h1.trans (ih 2 _ h1.lt)
        exact h2.trans (on_node h2.lt _)
      · exact ih 3 p h
    | 3 =>
      unfold pr
      have h1 := ih 4 p h
      split
      · next hk =>
        have h2 := h1.trans (on_step hW (okIs_k hk).2.1)
        have h3 := h2.trans (on_must hW h2.lt [110, 117, 108, 108])
        exact h3.trans (on_node h3.lt _)
      · exact h1.trans (on_cmp hW (ih 4) _ _ h1.lt)
    | 4 => unfold pr; have h1 := ih 5 p h; exact h1.trans (on_loop hW (ih 5) _ _ _ _ h1.lt)
    | 5 => unfold pr; have h1 := ih 6 p h; exact h1.trans (on_loop hW (ih 6) _ _ _ _ h1.lt)
    | 6 =>
      unfold pr
      split
      · next hk =>
        have h1 := on_step hW (okIs_k hk).2.1
        have h2 := h1.trans (ih 6 _ h1.lt)
        exact h2.trans (on_node h2.lt _)
      · exact ih 7 p h
    | k + 7 => unfold pr; exact on_one hW (ih 0) p h
/-- so many rounds are enough -/
theorem loopP_more {W : List Wd} (hW : WOk W) {sub : Sub} (hs : ∀ p : Ps, p.at_ < W.length → On W p (sub p).2) (ops : List (List UInt8 × Int)) : ∀ (n m : Nat) (a : Int) (p : Ps), p.at_ < W.length → W.length ≤ p.at_ + n → W.length ≤ p.at_ + m → loopP W sub ops n a p = loopP W sub ops m a p
  | 0, m, a, p, h, hn, _ => by omega
  | n + 1, 0, a, p, h, _, hm => by omega
  | n + 1, m + 1, a, p, h, hn, hm => by
    unfold loopP
    split
    · next x hx =>
      have h1 := on_step hW (okIs_k (find_ok hx)).2.1
      have h2 := h1.trans (hs _ h1.lt)
      have h3 := h2.trans (on_node h2.lt (nd2 x.2 a (sub (stepP p)).1))
      have h4 : p.at_ + 1 ≤ (nodeP (nd2 x.2 a (sub (stepP p)).1) (sub (stepP p)).2).2.at_ := by
        have h5 := (hs _ h1.lt).le
        have h6 := (on_node h2.lt (nd2 x.2 a (sub (stepP p)).1)).le
        unfold stepP at h5
        simp only at h5
        exact Nat.le_trans h5 h6
      exact loopP_more hW hs ops n m _ _ h3.lt (by omega) (by omega)
    · rfl
end Go.Proofs.Ytfgmlgflfagdjaa.ps
