/- Contracts: find; the law's columns; Kind of a column's name. -/
import Derived.Test.YtfgmlgflfagdjaaC1
namespace Go.Proofs.Ytfgmlgflfagdjaa.ev
open Go.ChangeShapes Go.WideShapes Go.ChangeAt Go.RowKit Go.Proofs.Ytfgmlgflfagdjaa.lib Go.Proofs.Ytfgmlgflfagdjaa.val
set_option linter.unusedVariables false

/-- a column -/
structure Cl where
  nm : ByteArray
  k : Int
  z : Bool
def Cl.l (c : Cl) : List UInt8 := c.nm.data.toList
def Cls (w : World) (b : Nat) (cs : List Cl) : Prop := b < w.heap.size ∧ ∀ (i : Nat) (c : Cl), cs[i]? = some c → w.cell? ⟨b, i * 3, none⟩ = some (.string c.nm) ∧ w.cell? ⟨b, i * 3 + 1, none⟩ = some (.int .i64 c.k) ∧ w.cell? ⟨b, i * 3 + 2, none⟩ = some (.bool c.z)
theorem Cls.ext {w w' : World} {b : Nat} {cs : List Cl} (h : Cls w b cs) (hb : Below w.heap.size w w') : Cls w' b cs :=
  ⟨Nat.lt_of_lt_of_le h.1 hb.size, fun i c hc => by
    obtain ⟨h1, h2, h3⟩ := h.2 i c hc
    exact ⟨(hb.cell (by exact h.1)).trans h1, (hb.cell (by exact h.1)).trans h2, (hb.cell (by exact h.1)).trans h3⟩⟩
/-- what find answers of the columns behind number i, where one was found at a -/
def findL (n : List UInt8) : List Cl → Nat → Int → Int × Int
  | [], _, a => if a < 0 then (0, 2) else (a, 0)
  | c :: r, i, a => if tellsL n c.l = true then (if 0 ≤ a then (0, 12) else findL n r (i + 1) i) else findL n r (i + 1) a
theorem findL_bd (n : List UInt8) : ∀ (cs : List Cl) (i : Nat) (a : Int), -1 ≤ a → a < i → (findL n cs i a).2 = 0 → 0 ≤ (findL n cs i a).1 ∧ (findL n cs i a).1 < (i + cs.length : Nat)
  | [], i, a, h1, h2, h => by
    unfold findL at h ⊢
    split
    · rename_i h3; rw [if_pos h3] at h; cases h
    · simp; omega
  | c :: r, i, a, h1, h2, h => by
    unfold findL at h ⊢
    split
    · rename_i h3
      rw [if_pos h3] at h
      split
      · rename_i h4; rw [if_pos h4] at h; cases h
      · rename_i h4
        rw [if_neg h4] at h
        have := findL_bd n r (i + 1) i (by omega) (by omega) h
        simp only [List.length_cons]
        omega
    · rename_i h3
      rw [if_neg h3] at h
      have := findL_bd n r (i + 1) a h1 (by omega) h
      simp only [List.length_cons]
      omega

set_option maxRecDepth 100000 in
set_option maxHeartbeats 4000000 in
theorem find_ (s : ByteArray) (b cap N : Nat) (cs : List Cl) (w : World) (hc : Cls w b cs) (hN : cs.length = N) (hN2 : N ≤ 1000) (hs : s.size ≤ 100000) (hcs : ∀ c ∈ cs, c.nm.size ≤ 100000) :
    Calls Try.prog 49 #[.string s, .slice (some ⟨b, 0, none⟩) N cap] w fun e w' => e = .returned (two (findL s.data.toList cs 0 (-1))) ∧ Below w.heap.size w w' := by
  obtain ⟨p, hp⟩ : ∃ p, findL s.data.toList cs 0 (-1) = p := ⟨_, rfl⟩
  rw [hp]
  have HP := Lib.hid hp
  have HN := Lib.hid hN
  have HCS := Lib.hid hcs
  have hsl : s.data.toList.length ≤ 100000 := by rw [Array.length_toList]; exact hs
  clear hp hN hcs
  go_enter Try.func49, Try.ntmps49
  go_wp2
  go_loopw [6, 7, 8, 11] (fun a _ _ i wr => ∃ (k : Nat) (x : Int), i = .int .i64 k ∧ a = .int .i64 x ∧ k ≤ N ∧ -1 ≤ x ∧ x < (k : Int) ∧ Below w.heap.size w wr ∧ Hid (findL s.data.toList (cs.drop k) k x = p)) (fun _ _ _ i _ => N - (intOf i).toNat)
  case atStart => exact ⟨0, -1, rfl, rfl, Nat.zero_le _, by omega, by omega, Below.refl _ _, Lib.hid HP.out⟩
  case round =>
    obtain ⟨k, x, rfl, rfl, hk, hx1, hx2, hb, HF⟩ := hrel
    rcases Nat.lt_or_ge k N with hlt | hge
    · have hd : decide (k < N) = true := by simp; omega
      have hkN : (k : Int) < (N : Int) := by omega
      obtain ⟨⟨nm, ck, cz⟩, hcx⟩ : ∃ c, cs[k]? = some c := ⟨_, List.getElem?_eq_getElem (by rw [HN.out]; exact hlt)⟩
      have HCX := Lib.hid hcx
      have hnm : nm.data.toList.length ≤ 100000 := by rw [Array.length_toList]; exact HCS.out _ (List.mem_of_getElem? hcx)
      have q := (hc.ext hb).2 k _ hcx
      simp only at q
      obtain ⟨t, ht⟩ : ∃ t, tellsL s.data.toList nm.data.toList = t := ⟨_, rfl⟩
      have hfl := HF.out
      rw [drop_at cs k _ hcx, findL] at hfl
      have HFL : Hid ((if t = true then (if 0 ≤ x then (0, 12) else findL s.data.toList (cs.drop (k + 1)) (k + 1) k) else findL s.data.toList (cs.drop (k + 1)) (k + 1) x) = p) := Lib.hid (by rw [← ht]; exact hfl)
      have HT := Lib.hid (show ∀ W, Calls Try.prog 67 #[.string s, .agg #[.string nm, .int .i64 ck, .bool cz]] W fun e w' => e = .returned (.bool t) ∧ Below W.heap.size W w' by
        intro W; rw [← ht]; exact tells_ s nm _ _ (Str.of s) (Str.of nm) hsl hnm ck cz W)
      clear hcx ht hfl
      go_wp2_with fail
      obtain ⟨W, hW_, hbW, B1⟩ : ∃ W_, W_ = (wr.alloc (.cells #[.string nm, .int .i64 ck, .bool cz] 77)) ∧ Below wr.heap.size wr W_ ∧ Blk W_ (wr.heap.size) 77 #[.string nm, .int .i64 ck, .bool cz] :=
        ⟨_, rfl, ((Below.refl _ _).alloc (Nat.le_refl _) _), (blk_new_at wr (wr.heap.size) _ _ (by simp))⟩
      rw [← hW_]
      clear hW_
      refine (HT.out _).mono ?_
      rintro e w2 ⟨rfl, hb2⟩
      have hb3 : Below w.heap.size w w2 := Below.trans hb (Below.mono (bch0 hbW hb2) hb.size)
      clear q
      cases t with
      | true =>
        by_cases hx0 : 0 ≤ x
        · have hdx : decide (0 ≤ x) = true := by simpa using hx0
          have e : p = (0, 12) := by rw [← HFL.out, if_pos rfl, if_pos hx0]
          subst e
          go_wp2_with fail
          go_ret2
          exact ⟨rfl, hb3⟩
        · have hdx : decide (0 ≤ x) = false := by simpa using hx0
          have HF2 := Lib.hid (show findL s.data.toList (cs.drop (k + 1)) (k + 1) k = p by rw [← HFL.out, if_pos rfl, if_neg hx0])
          go_wp2_with fail
          go_roundw
          case rel => exact ⟨k + 1, k, by go_num, rfl, by omega, by omega, by omega, hb3, HF2⟩
          case measure => simp [intOf]; omega
      | false =>
        have HF2 := Lib.hid (show findL s.data.toList (cs.drop (k + 1)) (k + 1) x = p by rw [← HFL.out, if_neg (by decide)])
        go_wp2_with fail
        go_roundw
        case rel => exact ⟨k + 1, x, by go_num, rfl, by omega, hx1, by omega, hb3, HF2⟩
        case measure => simp [intOf]; omega
    · have hd : decide (k < N) = false := by simp; omega
      have hkN : ¬ (k : Int) < (N : Int) := by omega
      have hfl := HF.out
      rw [List.drop_of_length_le (by have := HN.out; omega), findL] at hfl
      by_cases hx0 : x < 0
      · have hdx : decide (x < 0) = true := by simpa using hx0
        rw [if_pos hx0] at hfl
        subst hfl
        go_wp2_with fail
        go_ret2
        exact ⟨rfl, hb⟩
      · have hdx : decide (x < 0) = false := by simpa using hx0
        rw [if_neg hx0] at hfl
        subst hfl
        go_wp2_with fail
        go_ret2
        exact ⟨rfl, hb⟩

/-- the law's columns -/
def colsL : List Cl := [⟨⟨#[116, 46, 97]⟩, 2, false⟩, ⟨⟨#[116, 46, 98]⟩, 3, false⟩, ⟨⟨#[117, 46, 99]⟩, 1, false⟩, ⟨⟨#[117, 46, 98]⟩, 3, false⟩]
def colCs : Array Value := #[.string ⟨#[116, 46, 97]⟩, .int .i64 2, .bool false, .string ⟨#[116, 46, 98]⟩, .int .i64 3, .bool false, .string ⟨#[117, 46, 99]⟩, .int .i64 1, .bool false, .string ⟨#[117, 46, 98]⟩, .int .i64 3, .bool false]
theorem cls_of {w : World} {b : Nat} (h : Blk w b 77 colCs) : Cls w b colsL := by
  refine ⟨h.lt, fun i c hc => ?_⟩
  have hi : i < 4 := (List.getElem?_eq_some_iff.1 hc).1
  rw [h.cell, h.cell, h.cell]
  have : i = 0 ∨ i = 1 ∨ i = 2 ∨ i = 3 := by omega
  rcases this with rfl | rfl | rfl | rfl <;> (injection hc with hc; subst hc; exact ⟨rfl, rfl, rfl⟩)
def ColsP (w : World) (e : Ending) (w' : World) : Prop := ∃ g, e = .returned (.slice (some ⟨g, 0, none⟩) 4 4) ∧ Cls w' g colsL ∧ w.heap.size ≤ g ∧ Below w.heap.size w w'
theorem cols_ (w : World) : Calls Try.prog 21 #[] w (ColsP w) := by
  go_enter Try.func21, Try.ntmps21
  go_wp2
  go_ret
  exact ⟨w.heap.size, rfl, cls_of (Blk.new w _ _), Nat.le_refl _, (Below.refl _ _).alloc (Nat.le_refl _) _⟩

def colF (s : ByteArray) : Int × Int := findL s.data.toList colsL 0 (-1)
def colG (s : ByteArray) : Int := ((colsL.map (·.k)).getD (colF s).1.toNat 0)
theorem colOK (w : World) (b : Nat) (n : Nd) (h : Cls w b colsL) (hs : n.s.size ≤ 100000) : ColOK w w.heap.size (.slice (some ⟨b, 0, none⟩) 4 4) colF colG n := by
  intro _
  refine ⟨fun w' hb => ?_, fun h0 => ?_⟩
  · exact find_ n.s b 4 4 colsL w' (h.ext hb) rfl (by omega) hs (by decide)
  · have hbd := findL_bd n.s.data.toList colsL 0 (-1) (by omega) (by omega) h0
    have hlt : (colF n.s).1.toNat < 4 := by
      have : (colF n.s).1 < (0 + colsL.length : Nat) := hbd.2
      have : (colF n.s).1 < 4 := this
      omega
    refine ⟨(colF n.s).1.toNat, b, 0, 4, 4, ?_, rfl, hlt, by omega, h.1, ?_⟩
    · have : 0 ≤ (colF n.s).1 := hbd.1
      omega
    · obtain ⟨c, hc⟩ : ∃ c, colsL[(colF n.s).1.toNat]? = some c := ⟨_, List.getElem?_eq_getElem hlt⟩
      have := (h.2 _ c hc).2.1
      rw [Nat.zero_add, this]
      unfold colG
      rw [List.getD_eq_getElem?_getD, List.getElem?_map, hc]
      rfl
/-- Kind over the law's columns -/
theorem KindC (es : List Nd) (p : Int × Int) (g N c b : Nat) (w : World) (cs : Array Value) (hp : KindV colF colG es = p) (hN : es.length = N) (hb : Blk w g 36 cs) (hcs : cs.toList = cellsN es) (hcl : Cls w b colsL)
    (hc : ∀ n ∈ es, n.v.s.size ≤ maxLen ∧ n.s.size ≤ 100000) :
    Calls Try.prog 20 #[.slice (some ⟨g, 0, none⟩) N c, .slice (some ⟨b, 0, none⟩) 4 4] w fun e w' => e = .returned (two p) ∧ Below w.heap.size w w' := by
  subst hp
  exact Kind es _ N c w.heap.size _ colF colG w hN (Nat.le_refl _) (Nds.of_blk hb hcs) (fun n hn => colOK w b n hcl (hc n hn).2) (fun n hn => (hc n hn).1)
end Go.Proofs.Ytfgmlgflfagdjaa.ev
