/- Contracts: Index, Contains (of strings), sign. -/
import Derived.Test.YtfnceamkephpjaaGreatK3
namespace Go.Proofs.YtfnceamkephpjaaGreat.lx
open Go.ChangeShapes Go.WideShapes Go.ChangeAt Go.RowKit Go.Proofs.YtfnceamkephpjaaGreat.lib
set_option linter.unusedVariables false

set_option maxRecDepth 100000 in
theorem beqBA (a b : ByteArray) : (a == b) = true ↔ a = b := by
  constructor
  · intro h
    apply ByteArray.ext
    exact eq_of_beq (α := Array UInt8) h
  · rintro rfl
    exact beq_self_eq_true a.data
set_option maxRecDepth 100000 in
theorem mk_beq (l m : List UInt8) : ((⟨l.toArray⟩ : ByteArray) == ⟨m.toArray⟩) = (l == m) := by
  rw [Bool.eq_iff_iff, beqBA, beq_iff_eq]
  constructor
  · intro h
    have := congrArg (fun b : ByteArray => b.data.toList) h
    simpa using this
  · rintro rfl; rfl
set_option maxRecDepth 100000 in
theorem tl_beq (a b : ByteArray) : (a.toList == b.toList) = (a == b) := by
  rw [Bool.eq_iff_iff, beqBA, beq_iff_eq, ByteArray.toList_eq, ByteArray.toList_eq]
  exact ⟨fun h => bytes_inj h, fun h => by rw [h]⟩
def hasB (xs : List ByteArray) (s : ByteArray) : Bool := xs.any (fun x => s == x)
def SomeIdx (p : Bool) (w : World) (e : Ending) (w' : World) : Prop := ∃ k : Int, e = .returned (.int .i64 k) ∧ decide (0 ≤ k) = p ∧ w = w'
set_option maxRecDepth 100000 in
theorem index_ (xs : List ByteArray) (s : ByteArray) (b c : Nat) (w : World) (hc : ∀ (i : Nat) x, xs[i]? = some x → w.cell? ⟨b, i, none⟩ = some (.string x)) (hn : xs.length ≤ 1000) :
    Calls Tryz.prog 73 #[.slice (some ⟨b, 0, none⟩) xs.length c, .string s] w (SomeIdx (hasB xs s) w) := by
  obtain ⟨N, hN⟩ : ∃ N, xs.length = N := ⟨_, rfl⟩
  rw [hN] at hn ⊢
  have HN := Lib.hid hN
  have HC := Lib.hid hc
  clear hN hc
  go_enter Tryz.func73, Tryz.ntmps73
  go_wp2
  go_loopw [5, 8] (fun _ i w' => ∃ k : Nat, w' = w ∧ k ≤ N ∧ i = .int .i64 k ∧ Hid (∀ j x, j < k → xs[j]? = some x → (s == x) = false)) (fun _ i _ => N - (intOf i).toNat)
  case atStart => exact ⟨0, rfl, Nat.zero_le _, rfl, Lib.hid (fun j x h => absurd h (by omega))⟩
  case round =>
    obtain ⟨k, rfl, hk, rfl, HK⟩ := hrel
    rcases Nat.lt_or_ge k N with hlt | hge
    · have hd : decide ((k : Int) < (N : Int)) = true := by simp; omega
      obtain ⟨x, hx⟩ : ∃ x, xs[k]? = some x := ⟨_, List.getElem?_eq_getElem (by rw [HN.out]; exact hlt)⟩
      have HX := Lib.hid hx
      have q := HC.out k x hx
      clear hx
      by_cases he : (s == x) = true
      · have HE := Lib.hid he
        rw [← tl_beq] at he
        go_wp2
        go_ret
        refine ⟨k, rfl, ?_, rfl⟩
        have : hasB xs s = true := List.any_eq_true.2 ⟨x, List.mem_of_getElem? HX.out, HE.out⟩
        rw [this]; simp
      · have he : (s == x) = false := by simpa using he
        have HE := Lib.hid he
        rw [← tl_beq] at he
        go_wp2
        go_roundw
        case rel =>
          refine ⟨k + 1, by trivial, by omega, by go_num, Lib.hid (fun j y hj hy => ?_)⟩
          by_cases hjk : j = k
          · subst hjk
            rw [HX.out] at hy
            injection hy with hy
            rw [← hy]; exact HE.out
          · exact HK.out j y (by omega) hy
        case measure => simp [intOf]; omega
    · have hd : decide ((k : Int) < (N : Int)) = false := by simp; omega
      go_wp2
      go_ret
      refine ⟨-1, rfl, ?_, rfl⟩
      have : hasB xs s = false := by
        unfold hasB
        rw [List.any_eq_false]
        intro x hx
        obtain ⟨j, hj, e⟩ := List.getElem_of_mem hx
        have := HK.out j x (by have := HN.out; omega) (by rw [List.getElem?_eq_getElem hj, e])
        rw [this]; decide
      rw [this]; rfl
set_option maxRecDepth 100000 in
theorem contains_ (xs : List ByteArray) (s : ByteArray) (b c n : Nat) (p : Bool) (w : World) (hl : xs.length = n) (hp : hasB xs s = p) (hc : ∀ (i : Nat) x, xs[i]? = some x → w.cell? ⟨b, i, none⟩ = some (.string x)) (hn : n ≤ 1000) :
    Calls Tryz.prog 62 #[.slice (some ⟨b, 0, none⟩) n c, .string s] w fun e w' => e = .returned (.bool p) ∧ w = w' := by
  subst hl hp
  go_enter Tryz.func62, Tryz.ntmps62
  go_wp2_with fail
  refine (index_ xs s b c _ hc hn).mono ?_
  rintro e w1 ⟨k, rfl, hk, rfl⟩
  have HK := Lib.hid hk
  clear hk
  go_wp2
  go_ret
  exact ⟨ret_bool HK.out, rfl⟩

/-- the walker stands at the bytes l, has the words ws -/
def At (w : World) (g base : Nat) (l : List UInt8) (ws : List Wd) : Prop := ∃ out, Blk w g 81 (wk l out 0 0) ∧ w.ownsRow base 57 3 out ws.length (cellsW ws)
def StAt (g base : Nat) (ws : List Wd) (w' : World) : St → Prop
  | .skip q => At w' g base q ws
  | .put x q => At w' g base q (ws ++ [x])
  | .err e => ∃ l out, Blk w' g 81 (wk l out 1 e)
def StP (g base : Nat) (ws : List Wd) (st : St) (w : World) (r : Ending) (w' : World) : Prop := r = .returned (.tuple #[]) ∧ Below base w w' ∧ StAt g base ws w' st
set_option maxRecDepth 100000 in
theorem At.ext {w w' : World} {g base : Nat} {l : List UInt8} {ws : List Wd} (h : At w g base l ws) (hb : Below w.heap.size w w') : At w' g base l ws := by
  obtain ⟨out, h1, h2⟩ := h
  exact ⟨out, h1.ext hb, own_ext h2 hb⟩
set_option maxRecDepth 100000 in
theorem At.six {w : World} {g base : Nat} {l : List UInt8} {ws : List Wd} (h : At w g base l ws) : w.cell? ⟨g, 0, none⟩ = some (.string ⟨l.toArray⟩) ∧ w.cell? ⟨g, 5, none⟩ = some (.int .i64 0) ∧ g < w.heap.size := by
  obtain ⟨out, h1, h2⟩ := h
  exact ⟨h1.cell 0, h1.cell 5, h1.lt⟩
set_option maxRecDepth 100000 in
theorem putA (g base n : Nat) (l q : List UInt8) (ws : List Wd) (xk xn : Int) (xs : List UInt8) (xb : ByteArray) (w : World) (h : At w g base l ws) (hx : xb = ⟨xs.toArray⟩) (hq : l.drop n = q) (hn : n ≤ l.length) (hl : l.length ≤ 100000) (hw : ws.length ≤ 100000) (hbg : base ≤ g) :
    Calls Tryz.prog 40 #[.pointer (some ⟨g, 0, none⟩), .agg #[.int .i64 xk, .int .i64 xn, .string xb], .int .i64 n] w (StP g base ws (.put ⟨xk, xn, xs⟩ q) w) := by
  subst hx hq
  obtain ⟨out, h1, h2⟩ := h
  have := h1.lt
  exact (put_ g base n l ws ⟨xk, xn, xs⟩ out w h1 h2 hn hl hw hbg (by omega)).mono fun r w' ⟨e, o, p1, p2, p3⟩ => ⟨e, p3, o, p1, p2⟩
set_option maxRecDepth 100000 in
theorem failA (g base : Nat) (l : List UInt8) (ws : List Wd) (e : Int) (w : World) (h : At w g base l ws) (hbg : base ≤ g) :
    Calls Tryz.prog 20 #[.pointer (some ⟨g, 0, none⟩), .int .i64 e] w (StP g base ws (.err e) w) := by
  obtain ⟨out, h1, h2⟩ := h
  exact (fail_ g l out e w h1).mono fun r w' ⟨e, p1, p2⟩ => ⟨e, p2 _ hbg, l, out, p1⟩
set_option maxRecDepth 100000 in
theorem take_mk (l : List UInt8) (n : Nat) : (ByteArray.mk l.toArray).extract 0 n = ⟨(l.take n).toArray⟩ := by
  apply ByteArray.ext
  rw [ByteArray.data_extract]
  simp
set_option maxRecDepth 100000 in
theorem two_has (a b : UInt8) (r : List UInt8) : hasB [(⟨#[60, 62]⟩ : ByteArray), ⟨#[60, 61]⟩, ⟨#[62, 61]⟩] ⟨((a :: b :: r).take 2).toArray⟩ = twoB (a :: b :: r) := by
  have e : ∀ x y : UInt8, ((⟨((a :: b :: r).take 2).toArray⟩ : ByteArray) == ⟨#[x, y]⟩) = (a == x && b == y) := by
    intro x y
    have := mk_beq ((a :: b :: r).take 2) [x, y]
    simpa using this
  unfold twoB hasB
  simp only [List.any_cons, List.any_nil, e, Bool.or_false]
  rw [Bool.or_assoc]

def two1 (p : Bool) : Nat := if p then 2 else 1
set_option maxRecDepth 100000 in
theorem three_str {w : World} {b : Nat} {t : TypeId} (h : Blk w b t #[.string ⟨#[60, 62]⟩, .string ⟨#[60, 61]⟩, .string ⟨#[62, 61]⟩]) : ∀ (i : Nat) x, [(⟨#[60, 62]⟩ : ByteArray), ⟨#[60, 61]⟩, ⟨#[62, 61]⟩][i]? = some x → w.cell? ⟨b, i, none⟩ = some (.string x) := by
  intro i x hx
  have hi : i < 3 := (List.getElem?_eq_some_iff.1 hx).1
  rw [h.cell]
  match i, hi, hx with
  | 0, _, hx => injection hx with hx; subst hx; rfl
  | 1, _, hx => injection hx with hx; subst hx; rfl
  | 2, _, hx => injection hx with hx; subst hx; rfl

set_option maxRecDepth 100000 in
set_option maxHeartbeats 1000000 in
theorem sign_two (g base : Nat) (L : List UInt8) (ws : List Wd) (w : World) (p : Bool) (HL : Hid (∃ a b r, L = a :: b :: r ∧ twoB L = p)) (h : At w g base L ws) (hl : L.length ≤ 100000) (hll : 2 ≤ L.length) (hw : ws.length ≤ 100000) (hbg : base ≤ g) :
    Calls Tryz.prog 43 #[.pointer (some ⟨g, 0, none⟩)] w (StP g base ws (.put ⟨4, 0, L.take (two1 p)⟩ (L.drop (two1 p))) w) := by
  have hq := h.six
  have hsz : (ByteArray.mk L.toArray).size = L.length := size_mk _
  have HH : Hid (hasB [(⟨#[60, 62]⟩ : ByteArray), ⟨#[60, 61]⟩, ⟨#[62, 61]⟩] ((ByteArray.mk L.toArray).extract 0 2) = p) := Lib.hid (by
    obtain ⟨a, b, r, h1, h2⟩ := HL.out
    rw [take_mk, ← h2, h1]
    exact two_has a b r)
  have hd1 : decide (1 < (L.length : Int)) = true := by simp; omega
  have hd2 : decide (2 ≤ (L.length : Int)) = true := by simp; omega
  have hbw := hq.2.2
  go_enter Tryz.func43, Tryz.ntmps43
  go_wp2_with fail
  obtain ⟨W, hW_, hbW, B1⟩ : ∃ W_, W_ = (w.alloc (.cells #[.string ⟨#[60, 62]⟩, .string ⟨#[60, 61]⟩, .string ⟨#[62, 61]⟩] 9)) ∧ Below w.heap.size w W_ ∧ Blk W_ (w.heap.size) 9 #[.string ⟨#[60, 62]⟩, .string ⟨#[60, 61]⟩, .string ⟨#[62, 61]⟩] :=
    ⟨_, rfl, ((Below.refl _ _).alloc (Nat.le_refl _) _), (blk_new_at w (w.heap.size) _ _ (by simp))⟩
  rw [← hW_]
  clear hW_
  clear hq
  have hA := h.ext hbW
  have hq := hA.six
  refine (contains_ _ _ _ 3 3 p _ rfl HH.out (three_str B1) (by omega)).mono ?_
  rintro e w1 ⟨rfl, rfl⟩
  cases p with
  | true =>
    go_wp2_with fail
    refine (putA g base 2 L (L.drop 2) ws 4 0 (L.take 2) _ _ hA (take_mk _ _) rfl hll hl hw hbg).mono ?_
    rintro e w2 ⟨rfl, hb2, hst⟩
    go_wp2
    go_end0
    exact ⟨rfl, Below.trans (Below.mono hbW (by omega)) hb2, hst⟩
  | false =>
    go_wp2_with fail
    refine (putA g base 1 L (L.drop 1) ws 4 0 (L.take 1) _ _ hA (take_mk _ _) rfl (by omega) hl hw hbg).mono ?_
    rintro e w2 ⟨rfl, hb2, hst⟩
    go_wp2
    go_end0
    exact ⟨rfl, Below.trans (Below.mono hbW (by omega)) hb2, hst⟩
set_option maxRecDepth 100000 in
theorem sign_one (g base : Nat) (L : List UInt8) (ws : List Wd) (w : World) (h : At w g base L ws) (hll : L.length = 1) (hw : ws.length ≤ 100000) (hbg : base ≤ g) :
    Calls Tryz.prog 43 #[.pointer (some ⟨g, 0, none⟩)] w (StP g base ws (.put ⟨4, 0, L.take 1⟩ (L.drop 1)) w) := by
  have hq := h.six
  have hsz : (ByteArray.mk L.toArray).size = L.length := size_mk _
  have hd1 : decide (1 < (L.length : Int)) = false := by simp; omega
  have hd2 : decide (1 ≤ (L.length : Int)) = true := by simp; omega
  have h1 : 1 ≤ L.length := by omega
  have h2 : L.length ≤ 1 := by omega
  clear hll
  go_enter Tryz.func43, Tryz.ntmps43
  go_wp2_with fail
  refine (putA g base 1 L (L.drop 1) ws 4 0 (L.take 1) _ _ h (take_mk _ _) rfl h1 (by omega) hw hbg).mono ?_
  rintro e w2 ⟨rfl, hb2, hst⟩
  go_wp2
  go_end0
  exact ⟨rfl, hb2, hst⟩
def signSt (l : List UInt8) : St := .put ⟨4, 0, l.take (two1 (twoB l))⟩ (l.drop (two1 (twoB l)))
set_option maxRecDepth 100000 in
theorem sign_ (g base : Nat) (L : List UInt8) (ws : List Wd) (w : World) (h : At w g base L ws) (hl : L.length ≤ 100000) (hll : 1 ≤ L.length) (hw : ws.length ≤ 100000) (hbg : base ≤ g) :
    Calls Tryz.prog 43 #[.pointer (some ⟨g, 0, none⟩)] w (StP g base ws (signSt L) w) := by
  match L, h, hl, hll with
  | [a], h, hl, hll => exact sign_one g base [a] ws w h rfl hw hbg
  | a :: b :: r, h, hl, hll => exact sign_two g base (a :: b :: r) ws w (twoB (a :: b :: r)) (Lib.hid ⟨a, b, r, rfl, rfl⟩) h hl (by simp) hw hbg
end Go.Proofs.YtfnceamkephpjaaGreat.lx
