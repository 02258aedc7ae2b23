/- Contracts of the document's lex: letter, digit, name, num. -/
import Derived.Test.YtfgmlgflfagdjaaK9
namespace Go.Proofs.Ytfgmlgflfagdjaa.lx
open Go.ChangeShapes Go.WideShapes Go.ChangeAt Go.RowKit Go.Proofs.Ytfgmlgflfagdjaa.lib
set_option linter.unusedVariables false

theorem letB_iff (c : UInt8) : letB c = true ↔ 97 ≤ c.toNat ∧ c.toNat ≤ 122 := by unfold letB; simp
theorem digB_iff (c : UInt8) : digB c = true ↔ 48 ≤ c.toNat ∧ c.toNat ≤ 57 := by unfold digB; simp
theorem letter_ (c : UInt8) (p : Bool) (hp : letB c = p) (w : World) : Calls Try.prog 57 #[.int .u8 c.toNat] w fun e w' => e = .returned (.bool p) ∧ w = w' := by
  have hcs : (p = true ∧ 97 ≤ c.toNat ∧ c.toNat ≤ 122) ∨ (p = false ∧ c.toNat < 97) ∨ (p = false ∧ 97 ≤ c.toNat ∧ 122 < c.toNat) := by
    subst hp
    have := letB_iff c
    cases h : letB c with
    | true => exact .inl ⟨rfl, this.1 h⟩
    | false =>
      have h2 : ¬ (97 ≤ c.toNat ∧ c.toNat ≤ 122) := fun h3 => by rw [this.2 h3] at h; cases h
      by_cases h4 : c.toNat < 97
      · exact .inr (.inl ⟨rfl, h4⟩)
      · exact .inr (.inr ⟨rfl, by omega, by omega⟩)
  generalize hn : c.toNat = n at *
  clear hn hp
  rcases hcs with ⟨rfl, h1, h2⟩ | ⟨rfl, h1⟩ | ⟨rfl, h1, h2⟩
  all_goals
    go_enter Try.func57, Try.ntmps57
    go_wp2
    go_ret
    exact ⟨ret_bool (by first | rfl | (simp; omega)), rfl⟩
theorem digit_ (c : UInt8) (p : Bool) (hp : digB c = p) (w : World) : Calls Try.prog 59 #[.int .u8 c.toNat] w fun e w' => e = .returned (.bool p) ∧ w = w' := by
  have hcs : (p = true ∧ 48 ≤ c.toNat ∧ c.toNat ≤ 57) ∨ (p = false ∧ c.toNat < 48) ∨ (p = false ∧ 48 ≤ c.toNat ∧ 57 < c.toNat) := by
    subst hp
    have := digB_iff c
    cases h : digB c with
    | true => exact .inl ⟨rfl, this.1 h⟩
    | false =>
      have h2 : ¬ (48 ≤ c.toNat ∧ c.toNat ≤ 57) := fun h3 => by rw [this.2 h3] at h; cases h
      by_cases h4 : c.toNat < 48
      · exact .inr (.inl ⟨rfl, h4⟩)
      · exact .inr (.inr ⟨rfl, by omega, by omega⟩)
  generalize hn : c.toNat = n at *
  clear hn hp
  rcases hcs with ⟨rfl, h1, h2⟩ | ⟨rfl, h1⟩ | ⟨rfl, h1, h2⟩
  all_goals
    go_enter Try.func59, Try.ntmps59
    go_wp2
    go_ret
    exact ⟨ret_bool (by first | rfl | (simp; omega)), rfl⟩

/-- a string and its bytes -/
structure Str (s : ByteArray) (l : List UInt8) : Prop where
  eq : s = ⟨l.toArray⟩
theorem Str.size {s : ByteArray} {l : List UInt8} (h : Str s l) : s.size = l.length := by rw [h.eq]; exact size_mk l
theorem Str.get {s : ByteArray} {l : List UInt8} (h : Str s l) (i : Nat) (h1 : i < s.size) (h2 : i < l.length) : s[i]'h1 = l[i] := by
  obtain ⟨rfl⟩ := h
  exact get_mk l i h1 h2
theorem tw_drop (p : UInt8 → Bool) (l : List UInt8) (k m : Nat) (hk : k ≤ m) (h1 : ∀ j (hj : j < l.length), k ≤ j → j < m → p l[j] = true) (h2 : ∀ hm : m < l.length, p l[m] = false) (hm : m ≤ l.length) : ((l.drop k).takeWhile p).length = m - k := by
  refine tw_at p (l.drop k) (m - k) (fun j hj hjk => ?_) (fun hmk => ?_) (by rw [List.length_drop]; omega)
  · rw [List.length_drop] at hj
    rw [List.getElem_drop]
    exact h1 _ (by omega) (by omega) (by omega)
  · rw [List.length_drop] at hmk
    rw [List.getElem_drop]
    have e : k + (m - k) = m := by omega
    simp only [e]
    exact h2 (by omega)

set_option maxRecDepth 100000 in
set_option maxHeartbeats 2000000 in
theorem name_ (s : ByteArray) (l : List UInt8) (hs : Str s l) (k : Nat) (hk : k ≤ l.length) (hl : l.length ≤ 100000) (w : World) :
    Calls Try.prog 58 #[.string s, .int .i64 k] w fun e w' => e = .returned (.int .i64 (k + ((l.drop k).takeWhile nameB).length : Nat)) ∧ w = w' := by
  have HS := Lib.hid hs
  have hz := hs.size
  have HZ := Lib.hid hz
  have hsb : s.size ≤ 100000 := by omega
  have hks : k ≤ s.size := by omega
  clear hs hz
  go_enter Try.func58, Try.ntmps58
  go_wp2_with fail
  go_loopw [1] (fun i w' => ∃ (m : Nat), w' = w ∧ k ≤ m ∧ m ≤ s.size ∧ i = .int .i64 m ∧ Hid (∀ j (hj : j < l.length), k ≤ j → j < m → nameB l[j] = true)) (fun i _ => s.size - (intOf i).toNat)
  case atStart => exact ⟨k, rfl, Nat.le_refl _, hks, rfl, Lib.hid (fun j hj h1 h2 => absurd h1 (by omega))⟩
  case round =>
    obtain ⟨m, rfl, hkm, hms, rfl, HJ⟩ := hrel
    rcases Nat.lt_or_ge m s.size with hlt | hge
    · have hd : decide (m < s.size) = true := by simp; omega
      have hd2 : decide ((m : Int) < (s.size : Int)) = true := by simp; omega
      have hl2 : m < l.length := by rw [← HZ.out]; exact hlt
      have hg := HS.out.get m hlt hl2
      obtain ⟨p, hp⟩ : ∃ p, letB (s[m]'hlt) = p := ⟨_, rfl⟩
      obtain ⟨q, hq⟩ : ∃ q, digB (s[m]'hlt) = q := ⟨_, rfl⟩
      obtain ⟨t, ht⟩ : ∃ t, ((s[m]'hlt) == 95) = t := ⟨_, rfl⟩
      have hb : (((s[m]'hlt).toNat : Int) == 95) = t := by
        rw [← ht, Bool.eq_iff_iff, beq_iff_eq, beq_iff_eq]
        exact ⟨fun h => UInt8.toNat_inj.1 (by show _ = 95; omega), fun h => by rw [h]; rfl⟩
      have HN : Hid (nameB l[m] = (p || q || t)) := Lib.hid (by rw [← hg]; unfold nameB; rw [hp, hq, ht])
      have HP := Lib.hid hp
      have HQ := Lib.hid hq
      clear hp hq ht hg
      cases p with
      | true =>
        go_wp2_with (first | (go_at_call 57; refine (letter_ _ true HP.out _).mono ?_; rintro e w' ⟨rfl, rfl⟩) | (go_at_call 59; refine (digit_ _ q HQ.out _).mono ?_; rintro e w' ⟨rfl, rfl⟩))
        go_roundw
        case rel =>
          refine ⟨m + 1, by trivial, by omega, by omega, by go_num, Lib.hid (fun j hj h1 h2 => ?_)⟩
          by_cases hjm : j = m
          · subst hjm; rw [HN.out]; rfl
          · exact HJ.out j hj h1 (by omega)
        case measure => simp [intOf]; omega
      | false =>
        cases q with
        | true =>
          go_wp2_with (first | (go_at_call 57; refine (letter_ _ false HP.out _).mono ?_; rintro e w' ⟨rfl, rfl⟩) | (go_at_call 59; refine (digit_ _ true HQ.out _).mono ?_; rintro e w' ⟨rfl, rfl⟩))
          go_roundw
          case rel =>
            refine ⟨m + 1, by trivial, by omega, by omega, by go_num, Lib.hid (fun j hj h1 h2 => ?_)⟩
            by_cases hjm : j = m
            · subst hjm; rw [HN.out]; rfl
            · exact HJ.out j hj h1 (by omega)
          case measure => simp [intOf]; omega
        | false =>
          cases t with
          | true =>
            go_wp2_with (first | (go_at_call 57; refine (letter_ _ false HP.out _).mono ?_; rintro e w' ⟨rfl, rfl⟩) | (go_at_call 59; refine (digit_ _ false HQ.out _).mono ?_; rintro e w' ⟨rfl, rfl⟩))
            go_roundw
            case rel =>
              refine ⟨m + 1, by trivial, by omega, by omega, by go_num, Lib.hid (fun j hj h1 h2 => ?_)⟩
              by_cases hjm : j = m
              · subst hjm; rw [HN.out]; rfl
              · exact HJ.out j hj h1 (by omega)
            case measure => simp [intOf]; omega
          | false =>
            go_wp2_with (first | (go_at_call 57; refine (letter_ _ false HP.out _).mono ?_; rintro e w' ⟨rfl, rfl⟩) | (go_at_call 59; refine (digit_ _ false HQ.out _).mono ?_; rintro e w' ⟨rfl, rfl⟩))
            go_ret
            refine ⟨ret_int ?_, rfl⟩
            rw [tw_drop nameB l k m hkm HJ.out (fun _ => HN.out) (by omega)]
            omega
    · have hd : decide (m < s.size) = false := by simp; omega
      have hd2 : decide ((m : Int) < (s.size : Int)) = false := by simp; omega
      go_wp2
      go_ret
      refine ⟨ret_int ?_, rfl⟩
      have := HZ.out
      rw [tw_drop nameB l k m hkm HJ.out (fun h => absurd h (by omega)) (by omega)]
      omega

def NumP (s : Nat) (tw : List UInt8) (w : World) (e : Ending) (w' : World) : Prop :=
  w = w' ∧ match numL tw 0 with
    | some x => e = .returned (.tuple #[.int .i64 x, .int .i64 (s + tw.length : Nat), .int .i64 0])
    | none => e = .returned (.tuple #[.int .i64 0, .int .i64 0, .int .i64 11])
theorem take_tw (p : UInt8 → Bool) (l : List UInt8) (k m : Nat) (hk : k ≤ m) (hm : m ≤ l.length) (h : ((l.drop k).takeWhile p).length = m - k) : (l.drop k).takeWhile p = (l.drop k).take (m - k) := by
  rw [← (tw_take p (l.drop k)).1, h]
theorem numL_take (l : List UInt8) (k m : Nat) (hk : k ≤ m) (hm : m < l.length) : numL ((l.drop k).take (m + 1 - k)) 0 = (numL ((l.drop k).take (m - k)) 0).bind (numL [l[m]]) := by
  have e : m + 1 - k = (m - k) + 1 := by omega
  have hlt : m - k < (l.drop k).length := by rw [List.length_drop]; omega
  rw [e, List.take_succ_eq_append_getElem hlt, numL_append]
  congr 2
  rw [List.getElem_drop]
  congr 2
  omega
theorem numL_one' (c : UInt8) (x : Int) : numL [c] x = if (9223372036854775807 - ((c.toNat : Int) - 48)) / 10 < x then none else some (10 * x + ((c.toNat : Int) - 48)) := by
  unfold numL
  split <;> rfl
theorem numL_none_more (a b : List UInt8) (x : Int) (h : numL a x = none) : numL (a ++ b) x = none := by rw [numL_append, h]; rfl

set_option maxRecDepth 100000 in
set_option maxHeartbeats 4000000 in
theorem num_ (s : ByteArray) (l : List UInt8) (hs : Str s l) (k : Nat) (hk : k ≤ l.length) (hl : l.length ≤ 100000) (w : World) :
    Calls Try.prog 60 #[.string s, .int .i64 k] w (NumP k ((l.drop k).takeWhile digB) w) := by
  have HS := Lib.hid hs
  have hz := hs.size
  have HZ := Lib.hid hz
  have hsb : s.size ≤ 100000 := by omega
  have hks : k ≤ s.size := by omega
  clear hs hz
  go_enter Try.func60, Try.ntmps60
  go_wp2_with fail
  go_loopw [1, 7, 8] (fun i x _ w' => ∃ (m : Nat) (y : Int), w' = w ∧ k ≤ m ∧ m ≤ s.size ∧ i = .int .i64 m ∧ x = .int .i64 y ∧ 0 ≤ y ∧ y ≤ 9223372036854775807 ∧ Hid ((∀ j (hj : j < l.length), k ≤ j → j < m → digB l[j] = true) ∧ numL ((l.drop k).take (m - k)) 0 = some y)) (fun i _ _ _ => s.size - (intOf i).toNat)
  case atStart => exact ⟨k, 0, rfl, Nat.le_refl _, hks, rfl, rfl, by omega, by omega, Lib.hid ⟨fun j hj h1 h2 => absurd h1 (by omega), by rw [Nat.sub_self]; rfl⟩⟩
  case round =>
    obtain ⟨m, y, rfl, hkm, hms, rfl, rfl, hy0, hy1, HJ⟩ := hrel
    rcases Nat.lt_or_ge m s.size with hlt | hge
    · have hd : decide (m < s.size) = true := by simp; omega
      have hd2 : decide ((m : Int) < (s.size : Int)) = true := by simp; omega
      have hl2 : m < l.length := by rw [← HZ.out]; exact hlt
      have hg := HS.out.get m hlt hl2
      obtain ⟨q, hq⟩ : ∃ q, digB (s[m]'hlt) = q := ⟨_, rfl⟩
      have HQ := Lib.hid hq
      have HQ2 : Hid (digB l[m] = q) := Lib.hid (by rw [← hg]; exact hq)
      have hst := numL_take l k m hkm hl2
      rw [HJ.out.2, Option.bind_some, numL_one', ← hg] at hst
      have HST := Lib.hid hst
      clear hst hg
      cases q with
      | false =>
        clear hq
        go_wp2_with (go_at_call 59; refine (digit_ _ false HQ.out _).mono ?_; rintro e w' ⟨rfl, rfl⟩)
        go_ret3
        have e := tw_drop digB l k m hkm HJ.out.1 (fun _ => HQ2.out) (by omega)
        refine ⟨rfl, ?_⟩
        rw [take_tw digB l k m hkm (by omega) e, HJ.out.2]
        show Ending.returned _ = Ending.returned _
        rw [List.length_take, List.length_drop, show k + min (m - k) (l.length - k) = m by omega]
        rfl
      | true =>
        have hc := digB_bd hq
        clear hq
        obtain ⟨hc1, hc2⟩ := hc
        by_cases hov : (9223372036854775807 - (((s[m]'hlt).toNat : Int) - 48)) / 10 < y
        · have hdv : decide ((9223372036854775807 - (((s[m]'hlt).toNat : Int) - 48)) / 10 < y) = true := by simpa using hov
          have HOV := Lib.hid hov
          go_wp2_with (go_at_call 59; refine (digit_ _ true HQ.out _).mono ?_; rintro e w' ⟨rfl, rfl⟩)
          go_ret3
          refine ⟨rfl, ?_⟩
          have hnone : numL ((l.drop k).take (m + 1 - k)) 0 = none := by rw [HST.out, if_pos (by have := HOV.out; omega)]
          have hall : ∀ c ∈ (l.drop k).take (m + 1 - k), digB c = true := by
            intro c hc
            obtain ⟨j, hj, e⟩ := List.getElem_of_mem hc
            rw [List.length_take, List.length_drop] at hj
            rw [List.getElem_take, List.getElem_drop] at e
            rw [← e]
            by_cases hjm : k + j = m
            · simp only [hjm]; exact HQ2.out
            · exact HJ.out.1 _ (by omega) (by omega) (by omega)
          have hsplit : (l.drop k).takeWhile digB = (l.drop k).take (m + 1 - k) ++ ((l.drop k).drop (m + 1 - k)).takeWhile digB := by
            conv => lhs; rw [← List.take_append_drop (m + 1 - k) (l.drop k)]
            generalize (l.drop k).take (m + 1 - k) = a at *
            generalize (l.drop k).drop (m + 1 - k) = b at *
            clear hnone HST
            induction a with
            | nil => rfl
            | cons c a ih =>
              have hc := hall c (List.mem_cons_self ..)
              simp only [List.cons_append, List.takeWhile, hc]
              rw [ih (fun x hx => hall x (List.mem_cons_of_mem _ hx))]
          rw [hsplit, numL_none_more _ _ _ hnone]
          rfl
        · have hdv : decide ((9223372036854775807 - (((s[m]'hlt).toNat : Int) - 48)) / 10 < y) = false := by simpa using hov
          have HOV := Lib.hid hov
          go_wp2_with (go_at_call 59; refine (digit_ _ true HQ.out _).mono ?_; rintro e w' ⟨rfl, rfl⟩)
          go_roundw
          case rel =>
            refine ⟨m + 1, 10 * y + (((s[m]'hlt).toNat : Int) - 48), by trivial, by omega, by omega, by go_num, by go_num, by omega, by omega, Lib.hid ⟨fun j hj h1 h2 => ?_, ?_⟩⟩
            · by_cases hjm : j = m
              · subst hjm; exact HQ2.out
              · exact HJ.out.1 j hj h1 (by omega)
            · rw [HST.out, if_neg (by have := HOV.out; omega)]
          case measure => simp [intOf]; omega
    · have hd : decide (m < s.size) = false := by simp; omega
      have hd2 : decide ((m : Int) < (s.size : Int)) = false := by simp; omega
      go_wp2
      go_ret3
      have hZ := HZ.out
      have e := tw_drop digB l k m hkm HJ.out.1 (fun h => absurd h (by omega)) (by omega)
      refine ⟨rfl, ?_⟩
      rw [take_tw digB l k m hkm (by omega) e, HJ.out.2]
      show Ending.returned _ = Ending.returned _
      rw [List.length_take, List.length_drop, show k + min (m - k) (l.length - k) = m by omega]
      rfl
end Go.Proofs.Ytfgmlgflfagdjaa.lx
