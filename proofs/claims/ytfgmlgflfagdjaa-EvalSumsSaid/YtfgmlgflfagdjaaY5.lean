/- The document's schema.Name. Printed by geny.py. -/
import Derived.Test.YtfgmlgflfagdjaaY2
import Derived.Test.YtfgmlgflfagdjaaT
import Derived.Deep.CutRange
namespace Go.Proofs.Ytfgmlgflfagdjaa.ps
open Go.ChangeShapes Go.WideShapes Go.ChangeAt Go.RowKit Go.Proofs.Ytfgmlgflfagdjaa.lib Go.Proofs.Ytfgmlgflfagdjaa.val Go.Proofs.Ytfgmlgflfagdjaa.lx Go.Proofs.Ytfgmlgflfagdjaa.ev
set_option linter.unusedVariables false

theorem nameOk_no {l : List UInt8} (k : Nat) (hk : k < l.length) (h : nameB l[k] = false) : nameOk l = false := by
  unfold nameOk
  have : l.all nameB = false := by
    rw [Bool.eq_false_iff]
    intro h2
    rw [List.all_eq_true] at h2
    have := h2 l[k] (List.getElem_mem hk)
    rw [h] at this
    cases this
  rw [this]
  simp
set_option maxRecDepth 1000000 in
set_option maxHeartbeats 4000000 in
theorem reserved_ (w : World) : Calls Try.prog 96 #[] w fun e w' => ∃ g, e = .returned (.slice (some ⟨g, 0, none⟩) 41 41) ∧ Row w' 0 (some ⟨g, 0, none⟩) 41 41 (reserved.map fun s => Value.string ⟨s.toArray⟩) ∧ Below w.heap.size w w' := by
  go_enter Try.func96, Try.ntmps96
  go_wp2
  go_ret
  exact ⟨_, rfl, Row.of_blk (Blk.new w _ _) (Nat.zero_le _) 41 41 (Nat.le_refl _), (Below.refl _ _).alloc (Nat.le_refl _) _⟩
set_option maxRecDepth 1000000 in
set_option maxHeartbeats 4000000 in
theorem rname_ (s : ByteArray) (l : List UInt8) (hs : Str s l) (hl : l.length ≤ 1000) (w : World) :
    Calls Try.prog 95 #[.string s] w fun e w' => e = .returned (.bool (nameOk l)) ∧ Below w.heap.size w w' := by
  have HS := Lib.hid hs
  have hz := hs.size
  have HZ := Lib.hid hz
  have hsb : s.size ≤ 1000 := by omega
  obtain ⟨ok, hok⟩ : ∃ b, nameOk l = b := ⟨_, rfl⟩
  rw [hok]
  have HOK := Lib.hid hok
  clear hs hz hok
  go_enter Try.func95, Try.ntmps95
  rcases Nat.lt_or_ge s.size 1 with h1 | h1
  case inl =>
    have d1 : decide ((s.size : Int) < 1) = true := by simp; omega
    obtain rfl : ok = false := by rw [← HOK.out]; unfold nameOk; rw [decide_eq_false (show ¬ 1 ≤ l.length by have := HZ.out; omega)]; rfl
    clear h1
    go_wp2
    go_ret
    exact ⟨rfl, Below.refl _ _⟩
  have d1 : decide ((s.size : Int) < 1) = false := by simp; omega
  rcases Nat.lt_or_ge 12 s.size with h2 | h2
  case inl =>
    have d2 : decide ((12 : Int) < (s.size : Int)) = true := by simp; omega
    obtain rfl : ok = false := by rw [← HOK.out]; unfold nameOk; rw [decide_eq_false (show ¬ l.length ≤ 12 by have := HZ.out; omega)]; simp
    clear h2
    go_wp2
    go_ret
    exact ⟨rfl, Below.refl _ _⟩
  have d2 : decide ((12 : Int) < (s.size : Int)) = false := by simp; omega
  have h0 : (0 : Int) < (s.size : Int) := by omega
  have h00 : 0 < s.size := by omega
  have hl0 : 0 < l.length := by have := HZ.out; omega
  have hg0 := HS.out.get 0 h00 hl0
  obtain ⟨c, hc⟩ : ∃ c, (s[0]'h00).toNat = c := ⟨_, rfl⟩
  have HC := Lib.hid (show (l.headD 0).toNat = c by
    have : l.headD 0 = l[0] := by
      cases l with
      | nil => simp at hl0
      | cons a t => rfl
    rw [this, ← hg0]; exact hc)
  clear hg0
  rcases Nat.lt_or_ge c 97 with h3 | h3
  case inl =>
    have a1 : decide ((c : Int) < 97) = true := by simp; omega
    obtain rfl : ok = false := by
      rw [← HOK.out]; unfold nameOk letB
      rw [HC.out, decide_eq_false (show ¬ 97 ≤ c by omega)]; simp
    clear h3
    go_wp2
    go_ret
    exact ⟨rfl, Below.refl _ _⟩
  have a1 : decide ((c : Int) < 97) = false := by simp; omega
  rcases Nat.lt_or_ge 122 c with h4 | h4
  case inl =>
    have a2 : decide ((122 : Int) < (c : Int)) = true := by simp; omega
    obtain rfl : ok = false := by
      rw [← HOK.out]; unfold nameOk letB
      rw [HC.out, decide_eq_false (show ¬ c ≤ 122 by omega)]; simp
    clear h4
    go_wp2
    go_ret
    exact ⟨rfl, Below.refl _ _⟩
  have a2 : decide ((122 : Int) < (c : Int)) = false := by simp; omega
  have HL := Lib.hid (show letB (l.headD 0) = true by unfold letB; rw [HC.out]; simp; omega)
  go_wp2_with fail
  clear a1 a2 d1 d2 h0 hc h3 h4 HC
  go_loopw [3] (fun i w' => ∃ k : Nat, i = .int .i64 k ∧ k ≤ s.size ∧ Hid (∀ j (hj : j < l.length), j < k → nameB l[j] = true) ∧ w' = w) (fun i _ => s.size - (intOf i).toNat)
  case atStart => exact ⟨0, rfl, Nat.zero_le _, Lib.hid (fun j hj h => by omega), rfl⟩
  case round =>
    obtain ⟨k, rfl, hk, HNO, rfl⟩ := hrel
    rcases Nat.lt_or_ge k s.size with hlt | hge
    case inl =>
      have hd : decide (k < s.size) = true := by simp; omega
      have hd2 : decide ((k : Int) < (s.size : Int)) = true := by simp; omega
      have hl2 : k < l.length := by rw [← HZ.out]; exact hlt
      have hg := HS.out.get k hlt hl2
      obtain ⟨c, hc⟩ : ∃ c, (s[k]'hlt).toNat = c := ⟨_, rfl⟩
      have HC := Lib.hid (show l[k].toNat = c by rw [← hg]; exact hc)
      clear hg
      rcases Nat.lt_or_ge c 97 with h1 | h1
      case inr =>
        rcases Nat.lt_or_ge 122 c with h2 | h2
        case inr =>
          have a1 : decide ((c : Int) < 97) = false := by simp; omega
          have a2 : decide ((122 : Int) < (c : Int)) = false := by simp; omega
          have HOKK := Lib.hid (show nameB l[k] = true by
            unfold nameB letB
            rw [HC.out]
            simp
            omega)
          clear h1 h2
          go_wp2
          go_roundw
          case rel => exact ⟨k + 1, by go_num, by omega, Lib.hid (fun j hj h => by
            by_cases hjk : j = k
            · subst hjk; exact HOKK.out
            · exact HNO.out j hj (by omega)), by trivial⟩
          case measure => simp [intOf]; omega
        have a1 : decide ((c : Int) < 97) = false := by simp; omega
        have a2 : decide ((122 : Int) < (c : Int)) = true := by simp; omega
        have a4 : decide ((c : Int) < 48) = false := by simp; omega
        have a5 : decide ((57 : Int) < (c : Int)) = true := by simp; omega
        have a6 : ((c : Int) != 95) = true := by simp; omega
        have HNN := Lib.hid (show nameB l[k] = false by
          unfold nameB letB digB
          have e : (l[k] == 95) = false := by rw [beq_eq_false_iff_ne]; intro e; have := congrArg UInt8.toNat e; rw [HC.out] at this; simp at this; omega
          rw [HC.out, e]
          simp
          omega)
        obtain rfl : ok = false := by rw [← HOK.out]; exact nameOk_no k hl2 HNN.out
        clear h1 h2
        go_wp2
        go_ret
        exact ⟨rfl, Below.refl _ _⟩
      have a1 : decide ((c : Int) < 97) = true := by simp; omega
      rcases Nat.lt_or_ge c 48 with h3 | h3
      case inl =>
        have a4 : decide ((c : Int) < 48) = true := by simp; omega
        have a6 : ((c : Int) != 95) = true := by simp; omega
        have HNN := Lib.hid (show nameB l[k] = false by
          unfold nameB letB digB
          have e : (l[k] == 95) = false := by rw [beq_eq_false_iff_ne]; intro e; have := congrArg UInt8.toNat e; rw [HC.out] at this; simp at this; omega
          rw [HC.out, e]
          simp
          omega)
        obtain rfl : ok = false := by rw [← HOK.out]; exact nameOk_no k hl2 HNN.out
        clear h1 h3
        go_wp2
        go_ret
        exact ⟨rfl, Below.refl _ _⟩
      have a4 : decide ((c : Int) < 48) = false := by simp; omega
      rcases Nat.lt_or_ge 57 c with h5 | h5
      case inr =>
        have a5 : decide ((57 : Int) < (c : Int)) = false := by simp; omega
        have HOKK := Lib.hid (show nameB l[k] = true by
          unfold nameB letB digB
          rw [HC.out]
          simp
          omega)
        clear h1 h3 h5
        go_wp2
        go_roundw
        case rel => exact ⟨k + 1, by go_num, by omega, Lib.hid (fun j hj h => by
          by_cases hjk : j = k
          · subst hjk; exact HOKK.out
          · exact HNO.out j hj (by omega)), by trivial⟩
        case measure => simp [intOf]; omega
      have a5 : decide ((57 : Int) < (c : Int)) = true := by simp; omega
      by_cases h9 : c = 95
      · have a6 : ((c : Int) != 95) = false := by subst h9; rfl
        have HOKK := Lib.hid (show nameB l[k] = true by
          unfold nameB
          have e : (l[k] == 95) = true := by rw [beq_iff_eq]; exact UInt8.toNat_inj.1 (by rw [HC.out, h9]; rfl)
          rw [e]
          simp)
        clear h1 h3 h5 h9
        go_wp2
        go_roundw
        case rel => exact ⟨k + 1, by go_num, by omega, Lib.hid (fun j hj h => by
          by_cases hjk : j = k
          · subst hjk; exact HOKK.out
          · exact HNO.out j hj (by omega)), by trivial⟩
        case measure => simp [intOf]; omega
      have a6 : ((c : Int) != 95) = true := by simp; omega
      have HNN := Lib.hid (show nameB l[k] = false by
        unfold nameB letB digB
        have e : (l[k] == 95) = false := by rw [beq_eq_false_iff_ne]; intro e; have := congrArg UInt8.toNat e; rw [HC.out] at this; simp at this; omega
        rw [HC.out, e]
        simp
        omega)
      obtain rfl : ok = false := by rw [← HOK.out]; exact nameOk_no k hl2 HNN.out
      clear h1 h3 h5 h9
      go_wp2
      go_ret
      exact ⟨rfl, Below.refl _ _⟩
    have hd : decide (k < s.size) = false := by simp; omega
    have hd2 : decide ((k : Int) < (s.size : Int)) = false := by simp; omega
    have HALL := Lib.hid (show l.all nameB = true by
      rw [List.all_eq_true]
      intro x hx
      obtain ⟨j, hj, rfl⟩ := List.getElem_of_mem hx
      exact HNO.out j hj (by have := HZ.out; omega))
    have HN := Lib.hid (show nameOk l = !(reserved.contains l) by
      unfold nameOk
      rw [HALL.out, HL.out, decide_eq_true (show 1 ≤ l.length by omega), decide_eq_true (show l.length ≤ 12 by have := HZ.out; omega)]
      simp)
    go_wp2_with fail
    refine (reserved_ _).mono ?_
    rintro e w1 ⟨g, rfl, hrow, hb1⟩
    clear hd hd2 HNO
    go_wp2_with fail
    go_loopw [6] (fun i w' => ∃ m : Nat, i = .int .i64 m ∧ m ≤ 41 ∧ Hid (∀ r ∈ reserved.take m, r ≠ l) ∧ w1 = w') (fun i _ => 41 - (intOf i).toNat)
    case atStart => exact ⟨0, rfl, Nat.zero_le _, Lib.hid (by simp), rfl⟩
    case round =>
      obtain ⟨m, rfl, hm, HNR, rfl⟩ := hrel
      rcases Nat.lt_or_ge m 41 with hlt | hge2
      case inr =>
        have hd : decide ((m : Int) < 41) = false := by simp; omega
        obtain rfl : ok = true := by
          rw [← HOK.out, HN.out]
          have : reserved.contains l = false := by
            rw [Bool.eq_false_iff]
            intro h
            rw [List.contains_iff_mem] at h
            exact HNR.out l (by rw [List.take_of_length_le (show reserved.length ≤ m from hge2)]; exact h) rfl
          rw [this]; rfl
        clear hge2
        go_wp2
        go_ret
        exact ⟨rfl, hb1⟩
      have hd : decide ((m : Int) < 41) = true := by simp; omega
      have hm41 : (m : Int) < 41 := by omega
      obtain ⟨r, hr⟩ : ∃ r, reserved[m]? = some r := ⟨_, List.getElem?_eq_getElem (show m < reserved.length from hlt)⟩
      have hc := hrow.at_ (i := m) (u := .string ⟨r.toArray⟩) (by rw [List.getElem?_map, hr]; rfl)
      simp only [Nat.zero_add] at hc
      have HR := Lib.hid hr
      clear hr
      by_cases he : r = l
      case pos =>
        have f1 : (r == s.toList) = true := by rw [HS.out.eq, ByteArray.toList_eq]; simpa using he
        obtain rfl : ok = false := by
          rw [← HOK.out, HN.out]
          have : reserved.contains l = true := by
            rw [List.contains_iff_mem, ← he]
            exact List.mem_of_getElem? HR.out
          rw [this]; rfl
        clear he
        go_wp2
        go_ret
        exact ⟨rfl, hb1⟩
      have f1 : (r == s.toList) = false := by rw [HS.out.eq, ByteArray.toList_eq]; simpa using he
      have HNE := Lib.hid he
      clear he
      go_wp2
      go_roundw
      case rel => exact ⟨m + 1, by go_num, by omega, Lib.hid (fun x hx => by
        rw [List.take_add_one, HR.out, Option.toList_some] at hx
        rcases List.mem_append.1 hx with hx | hx
        · exact HNR.out x hx
        · rw [List.mem_singleton.1 hx]; exact HNE.out), by trivial⟩
      case measure => simp [intOf]; omega
end Go.Proofs.Ytfgmlgflfagdjaa.ps
