/- Plain: the program's parser over a list of words: its expressions. -/
import Derived.Test.YtfnceamkephpjaaGreatL1
namespace Go.Proofs.YtfnceamkephpjaaGreat.pg
open Go.Proofs.YtfnceamkephpjaaGreat.lx
set_option linter.unusedVariables false

/-- a node: V's kind, number, text; the name -/
structure Nd where
  op : Int
  a : Int
  b : Int
  k : Int
  n : Int
  s : List UInt8
  nm : List UInt8
/-- a parser: where it is, the first error -/
structure Pp where
  at_ : Nat
  err : Int
/-- a builder: its parser, its nodes -/
structure Bs where
  p : Pp
  e : List Nd
def wAt (W : List Wd) (p : Pp) : Wd := (W[p.at_]?).getD endW
def cur (W : List Wd) (p : Pp) : Wd := if p.err = 0 then wAt W p else endW
def failP (x : Int) (p : Pp) : Pp := if p.err = 0 then ⟨p.at_, x⟩ else p
def stepP (p : Pp) : Pp := ⟨p.at_ + 1, p.err⟩
def nextP (W : List Wd) (p : Pp) : Pp := if (cur W p).k = 0 then p else stepP p
def okIs (W : List Wd) (s : List UInt8) (p : Pp) : Bool := (decide ((cur W p).k = 1) || decide ((cur W p).k = 4)) && ((cur W p).s == s)
def isP (W : List Wd) (s : List UInt8) (p : Pp) : Pp := if okIs W s p = true then stepP p else p
def mustP (W : List Wd) (s : List UInt8) (p : Pp) : Pp := if okIs W s p = true then stepP p else failP 6 p
def reserved : List (List UInt8) := [[97, 110, 100], [98, 101, 103, 105, 110], [98, 111, 111, 108], [98, 121], [99, 111, 109, 109, 105, 116], [99, 111, 117, 110, 116], [99, 114, 101, 97, 116, 101], [100, 101, 108, 101, 116, 101], [100, 101, 115, 99], [100, 114, 111, 112], [102, 97, 108, 115, 101], [102, 114, 111, 109], [103, 114, 111, 117, 112], [105, 110, 115, 101, 114, 116], [105, 110, 116], [105, 110, 116, 111], [105, 115], [106, 111, 105, 110], [107, 101, 121], [108, 105, 109, 105, 116], [109, 97, 120], [109, 105, 110], [110, 111, 116], [110, 117, 108, 108], [111, 110], [111, 110, 108, 121], [111, 114], [111, 114, 100, 101, 114], [112, 114, 105, 109, 97, 114, 121], [114, 111, 108, 108, 98, 97, 99, 107], [115, 97, 118, 101, 112, 111, 105, 110, 116], [115, 101, 108, 101, 99, 116], [115, 101, 116], [115, 117, 109], [116, 97, 98, 108, 101], [116, 101, 120, 116], [116, 111], [116, 114, 117, 101], [117, 112, 100, 97, 116, 101], [118, 97, 108, 117, 101, 115], [119, 104, 101, 114, 101]]
def nameOk (s : List UInt8) : Bool := decide (1 ≤ s.length) && (decide (s.length ≤ 12) && (letB (s.headD 0) && (s.all nameB && !(reserved.contains s))))
def nameIs (W : List Wd) (p : Pp) : Bool := decide ((cur W p).k = 1) && nameOk (cur W p).s
def nameP (W : List Wd) (p : Pp) : List UInt8 × Pp := if nameIs W p = true then ((cur W p).s, stepP p) else ([], failP 6 p)
def colP (W : List Wd) (p : Pp) : List UInt8 × Pp := match nameP W p with
  | (s, q) => if okIs W [46] q = true then (match nameP W (stepP q) with | (t, r) => (s ++ ([46] ++ t), r)) else (s, q)
def endP (W : List Wd) (p : Pp) : Pp := if (cur W p).k = 0 then p else failP 6 p
def putP (n : Nd) (b : Bs) : Int × Bs := if 60 ≤ b.e.length then (0, ⟨failP 4 b.p, b.e⟩) else ((b.e.length : Int), ⟨b.p, b.e ++ [n]⟩)
/-- a node of two parts -/
def nd2 (op a b : Int) : Nd := ⟨op, a, b, 0, 0, [], []⟩
def ndV (k n : Int) (s : List UInt8) : Nd := ⟨1, 0, 0, k, n, s, []⟩
def ndC (s : List UInt8) : Nd := ⟨2, 0, 0, 0, 0, [], s⟩
abbrev Sub := Bs → Int × Bs
abbrev Ops := List (List UInt8 × Int)
/-- the sign that the first word is -/
def opAt (W : List Wd) (ops : Ops) (p : Pp) : Option Int :=
  if (cur W p).k = 1 ∨ (cur W p).k = 4 then (ops.find? (fun x => x.1 == (cur W p).s)).map (·.2) else none
def opS (W : List Wd) (ops : Ops) (p : Pp) : Option Int :=
  if (cur W p).k = 4 then (ops.find? (fun x => x.1 == (cur W p).s)).map (·.2) else none
def stepB (b : Bs) : Bs := ⟨stepP b.p, b.e⟩
/-- a part behind a sign, and the node of both -/
def pairP (sub : Sub) (op a : Int) (b : Bs) : Int × Bs := match sub (stepB b) with
  | (c, q) => putP (nd2 op a c) q
/-- parts with signs between, from the left -/
def loopP (W : List Wd) (sub : Sub) (ops : Ops) : Nat → Int → Bs → Int × Bs
  | 0, a, b => (a, b)
  | n + 1, a, b => match opAt W ops b.p with
    | some op => (match pairP sub op a b with | (a', b') => loopP W sub ops n a' b')
    | none => (a, b)
def pairsP (W : List Wd) (sub : Sub) (ops : Ops) (b : Bs) : Int × Bs := match sub b with
  | (a, q) => loopP W sub ops W.length a q
def cmps : Ops := [([61], 8), ([60, 62], 9), ([60], 10), ([60, 61], 11), ([62], 12), ([62, 61], 13)]
def cmpP (W : List Wd) (sub : Sub) (b : Bs) : Int × Bs := match sub b with
  | (a, q) => if okIs W [105, 115] q.p = true then putP (nd2 5 a 0) ⟨mustP W [110, 117, 108, 108] (stepP q.p), q.e⟩
    else match opS W cmps q.p with
    | some op => pairP sub op a q
    | none => (a, q)
/-- a sign ahead -/
def preP (W : List Wd) (s : List UInt8) (op : Int) (sub nxt : Sub) (b : Bs) : Int × Bs :=
  if okIs W s b.p = true then (match sub (stepB b) with | (a, q) => putP (nd2 op a 0) q) else nxt b
def consts (s : List UInt8) : Option Nd :=
  if s = [116, 114, 117, 101] then some (ndV 1 1 []) else if s = [102, 97, 108, 115, 101] then some (ndV 1 0 []) else if s = [110, 117, 108, 108] then some (ndV 0 0 []) else none
def constAt (W : List Wd) (p : Pp) : Option Nd := if (cur W p).k = 1 then consts (cur W p).s else none
def oneP (W : List Wd) (sub : Sub) (b : Bs) : Int × Bs :=
  if (cur W b.p).k = 2 then putP (ndV 2 (cur W b.p).n []) (stepB b)
  else if (cur W b.p).k = 3 then putP (ndV 3 0 (cur W b.p).s) (stepB b)
  else match constAt W b.p with
  | some n => putP n (stepB b)
  | none => if okIs W [40] b.p = true then (match sub (stepB b) with | (a, q) => (a, ⟨mustP W [41] q.p, q.e⟩))
    else match colP W b.p with
    | (s, q) => if q.err = 0 then putP (ndC s) ⟨q, b.e⟩ else (0, ⟨q, b.e⟩)
/-- the rows of expressions: or, and, not, compare, sum, product, minus, one -/
def pr (W : List Wd) : Nat → Nat → Sub
  | 0, _ => fun b => (0, b)
  | f + 1, 0 => pairsP W (pr W f 1) [([111, 114], 6)]
  | f + 1, 1 => pairsP W (pr W f 2) [([97, 110, 100], 7)]
  | f + 1, 2 => preP W [110, 111, 116] 3 (pr W f 2) (pr W f 3)
  | f + 1, 3 => cmpP W (pr W f 4)
  | f + 1, 4 => pairsP W (pr W f 5) [([43], 14), ([45], 15)]
  | f + 1, 5 => pairsP W (pr W f 6) [([42], 16)]
  | f + 1, 6 => preP W [45] 4 (pr W f 6) (pr W f 7)
  | f + 1, _ + 7 => oneP W (pr W f 0)
/-- an expression: its nodes -/
def exprP (W : List Wd) (p : Pp) : List Nd × Pp := match pr W (W.length * 9 + 9) 0 ⟨p, []⟩ with
  | (_, b) => (b.e, b.p)
/-- words end with End, and only there -/
structure WOk (W : List Wd) : Prop where
  pos : 0 < W.length
  last : ∀ i w, W[i]? = some w → w.k ≠ 0 → i + 1 < W.length
theorem cur_k {W : List Wd} {p : Pp} (h : (cur W p).k ≠ 0) : p.err = 0 ∧ cur W p = wAt W p := by
  unfold cur at h ⊢
  split at h
  · next he => exact ⟨he, by rw [if_pos he]⟩
  · exact absurd rfl h
theorem stepP_lt {W : List Wd} (h : WOk W) {p : Pp} (hk : (cur W p).k ≠ 0) : (stepP p).at_ < W.length := by
  rw [(cur_k hk).2] at hk
  unfold wAt at hk
  cases hw : W[p.at_]? with
  | none => rw [hw] at hk; exact absurd rfl hk
  | some w => rw [hw] at hk; exact h.last _ w hw hk
theorem okIs_k {W : List Wd} {s : List UInt8} {p : Pp} (h : okIs W s p = true) : (cur W p).k ≠ 0 := by
  unfold okIs at h
  simp only [Bool.and_eq_true, Bool.or_eq_true, decide_eq_true_eq, beq_iff_eq] at h
  rcases h.1 with h | h <;> omega
theorem opAt_k {W : List Wd} {ops : Ops} {p : Pp} {x : Int} (h : opAt W ops p = some x) : (cur W p).k ≠ 0 := by
  unfold opAt at h
  split at h
  · next hk => omega
  · cases h
theorem opS_k {W : List Wd} {ops : Ops} {p : Pp} {x : Int} (h : opS W ops p = some x) : (cur W p).k ≠ 0 := by
  unfold opS at h
  split at h
  · next hk => omega
  · cases h
theorem constAt_k {W : List Wd} {p : Pp} {x : Nd} (h : constAt W p = some x) : (cur W p).k ≠ 0 := by
  unfold constAt at h
  split at h
  · next hk => omega
  · cases h
/-- it goes on, and stays within -/
structure On (W : List Wd) (p q : Pp) : Prop where
  le : p.at_ ≤ q.at_
  lt : q.at_ < W.length
theorem On.trans {W : List Wd} {p q r : Pp} (h : On W p q) (k : On W q r) : On W p r := ⟨Nat.le_trans h.le k.le, k.lt⟩
theorem On.refl {W : List Wd} {p : Pp} (h : p.at_ < W.length) : On W p p := ⟨Nat.le_refl _, h⟩
theorem on_fail {W : List Wd} {p : Pp} (h : p.at_ < W.length) (x : Int) : On W p (failP x p) := by
  unfold failP
  split
  · exact ⟨Nat.le_refl _, h⟩
  · exact ⟨Nat.le_refl _, h⟩
theorem on_step {W : List Wd} (hW : WOk W) {p : Pp} (hk : (cur W p).k ≠ 0) : On W p (stepP p) := ⟨Nat.le_succ _, stepP_lt hW hk⟩
theorem on_is {W : List Wd} (hW : WOk W) {p : Pp} (h : p.at_ < W.length) (s : List UInt8) : On W p (isP W s p) := by
  unfold isP
  split
  · next hk => exact on_step hW (okIs_k hk)
  · exact .refl h
theorem on_must {W : List Wd} (hW : WOk W) {p : Pp} (h : p.at_ < W.length) (s : List UInt8) : On W p (mustP W s p) := by
  unfold mustP
  split
  · next hk => exact on_step hW (okIs_k hk)
  · exact on_fail h 6
theorem on_put {W : List Wd} {b : Bs} (h : b.p.at_ < W.length) (n : Nd) : On W b.p (putP n b).2.p := by
  unfold putP
  split
  · exact on_fail h 4
  · exact .refl h
theorem on_name {W : List Wd} (hW : WOk W) {p : Pp} (h : p.at_ < W.length) : On W p (nameP W p).2 := by
  unfold nameP
  split
  · next hk =>
    refine on_step hW ?_
    unfold nameIs at hk
    simp only [Bool.and_eq_true, decide_eq_true_eq] at hk
    omega
  · exact on_fail h 6
theorem on_col {W : List Wd} (hW : WOk W) {p : Pp} (h : p.at_ < W.length) : On W p (colP W p).2 := by
  have h1 := on_name hW h
  unfold colP
  obtain ⟨⟨s, q⟩, hq⟩ : ∃ X, nameP W p = X := ⟨_, rfl⟩
  rw [hq] at h1 ⊢
  simp only at h1 ⊢
  split
  · next hk =>
    have h2 := on_step hW (okIs_k hk)
    exact (h1.trans h2).trans (on_name hW h2.lt)
  · exact h1
/-- a rule that goes on -/
def OnS (W : List Wd) (sub : Sub) : Prop := ∀ b : Bs, b.p.at_ < W.length → On W b.p (sub b).2.p
theorem on_pair {W : List Wd} (hW : WOk W) {sub : Sub} (hs : OnS W sub) (op a : Int) (b : Bs) (hk : (cur W b.p).k ≠ 0) : b.p.at_ + 1 ≤ (pairP sub op a b).2.p.at_ ∧ (pairP sub op a b).2.p.at_ < W.length := by
  have h1 := on_step hW hk
  have h2 := hs (stepB b) h1.lt
  unfold pairP
  obtain ⟨⟨c, q⟩, hq⟩ : ∃ X, sub (stepB b) = X := ⟨_, rfl⟩
  rw [hq] at h2 ⊢
  have h3 := on_put h2.lt (nd2 op a c)
  exact ⟨Nat.le_trans (show b.p.at_ + 1 ≤ q.p.at_ from h2.le) h3.le, h3.lt⟩
theorem on_loop {W : List Wd} (hW : WOk W) {sub : Sub} (hs : OnS W sub) (ops : Ops) : ∀ (n : Nat) (a : Int) (b : Bs), b.p.at_ < W.length → On W b.p (loopP W sub ops n a b).2.p
  | 0, a, b, h => .refl h
  | n + 1, a, b, h => by
    unfold loopP
    split
    · next x hx =>
      have h1 := on_pair hW hs x a b (opAt_k hx)
      obtain ⟨⟨a', b'⟩, hq⟩ : ∃ X, pairP sub x a b = X := ⟨_, rfl⟩
      rw [hq] at h1 ⊢
      have h3 := on_loop hW hs ops n a' b' h1.2
      exact ⟨Nat.le_trans (Nat.le_trans (Nat.le_succ _) h1.1) h3.le, h3.lt⟩
    · exact .refl h
theorem on_pairs {W : List Wd} (hW : WOk W) {sub : Sub} (hs : OnS W sub) (ops : Ops) : OnS W (pairsP W sub ops) := by
  intro b h
  have h1 := hs b h
  exact h1.trans (on_loop hW hs ops W.length (sub b).1 (sub b).2 h1.lt)
theorem on_cmp {W : List Wd} (hW : WOk W) {sub : Sub} (hs : OnS W sub) : OnS W (cmpP W sub) := by
  intro b h
  have h1 := hs b h
  unfold cmpP
  obtain ⟨⟨a, q⟩, hq⟩ : ∃ X, sub b = X := ⟨_, rfl⟩
  rw [hq] at h1 ⊢
  simp only at h1 ⊢
  split
  · next hk =>
    have h2 := h1.trans (on_step hW (okIs_k hk))
    have h3 := h2.trans (on_must hW h2.lt [110, 117, 108, 108])
    exact h3.trans (on_put (b := ⟨mustP W [110, 117, 108, 108] (stepP q.p), q.e⟩) h3.lt _)
  · split
    · next x hx =>
      have h2 := on_pair hW hs x a q (opS_k hx)
      exact ⟨Nat.le_trans h1.le (Nat.le_trans (Nat.le_succ _) h2.1), h2.2⟩
    · exact h1
theorem on_pre {W : List Wd} (hW : WOk W) {s : List UInt8} {op : Int} {sub nxt : Sub} (hs : OnS W sub) (hn : OnS W nxt) : OnS W (preP W s op sub nxt) := by
  intro b h
  unfold preP
  split
  · next hk =>
    have h1 := on_step hW (okIs_k hk)
    have h2 := h1.trans (hs (stepB b) h1.lt)
    exact h2.trans (on_put h2.lt _)
  · exact hn b h
theorem on_one {W : List Wd} (hW : WOk W) {sub : Sub} (hs : OnS W sub) : OnS W (oneP W sub) := by
  intro b h
  unfold oneP
  split
  · next hk => have h1 := on_step hW (p := b.p) (by omega); exact h1.trans (on_put (b := stepB b) h1.lt _)
  split
  · next hk => have h1 := on_step hW (p := b.p) (by omega); exact h1.trans (on_put (b := stepB b) h1.lt _)
  split
  · next n hn => have h1 := on_step hW (p := b.p) (constAt_k hn); exact h1.trans (on_put (b := stepB b) h1.lt _)
  split
  · next hk =>
    have h1 := on_step hW (okIs_k hk)
    have h2 := h1.trans (hs (stepB b) h1.lt)
    exact h2.trans (on_must hW h2.lt _)
  · have h1 := on_col hW h
    obtain ⟨⟨s, q⟩, hq⟩ : ∃ X, colP W b.p = X := ⟨_, rfl⟩
    rw [hq] at h1 ⊢
    simp only at h1 ⊢
    split
    · exact h1.trans (on_put (b := ⟨q, b.e⟩) h1.lt _)
    · exact h1
theorem on_pr {W : List Wd} (hW : WOk W) : ∀ (f k : Nat), OnS W (pr W f k)
  | 0, k => fun b h => by unfold pr; exact .refl h
  | f + 1, k => by
    have ih := on_pr hW f
    match k with
    | 0 => unfold pr; exact on_pairs hW (ih 1) _
    | 1 => unfold pr; exact on_pairs hW (ih 2) _
    | 2 => unfold pr; exact on_pre hW (ih 2) (ih 3)
    | 3 => unfold pr; exact on_cmp hW (ih 4)
    | 4 => unfold pr; exact on_pairs hW (ih 5) _
    | 5 => unfold pr; exact on_pairs hW (ih 6) _
    | 6 => unfold pr; exact on_pre hW (ih 6) (ih 7)
    | k + 7 => unfold pr; exact on_one hW (ih 0)
theorem on_expr {W : List Wd} (hW : WOk W) {p : Pp} (h : p.at_ < W.length) : On W p (exprP W p).2 := on_pr hW (W.length * 9 + 9) 0 ⟨p, []⟩ h
/-- an expression has at most sixty nodes -/
def FewS (sub : Sub) : Prop := ∀ b : Bs, b.e.length ≤ 60 → (sub b).2.e.length ≤ 60
/-- a text read as an expression -/
def outP (W : List Wd) (r : List Nd × Pp) : Int × List Nd := match endP W r.2 with
  | q => if q.err = 0 then (0, r.1) else (q.err, [])
def exprL (l : List UInt8) : Int × List Nd := match wordsL l with
  | (x, W) => if x = 0 then outP W (exprP W ⟨0, 0⟩) else (x, [])
end Go.Proofs.YtfnceamkephpjaaGreat.pg
