/- Contracts of the document's eval: two, wants, tells, Find. -/
import Derived.Test.YtfgmlgflfagdjaaV1
import Derived.Test.YtfgmlgflfagdjaaC2
namespace Go.Proofs.Ytfgmlgflfagdjaa.ev
open Go.ChangeShapes Go.WideShapes Go.ChangeAt Go.RowKit Go.Proofs.Ytfgmlgflfagdjaa.lib Go.Proofs.Ytfgmlgflfagdjaa.val
set_option linter.unusedVariables false

theorem rtwo_ (op : Int) (b : Bool) (w : World) (hb : decide (6 ≤ op ∧ op ≤ 16) = b) :
    Calls Try.prog 41 #[.int .i64 op] w fun e w' => e = .returned (.bool b) ∧ w = w' := by
  subst hb
  by_cases h6 : 6 ≤ op
  · have h1 : decide (6 ≤ op) = true := by simpa using h6
    obtain ⟨c, hc⟩ : ∃ c, decide (op ≤ 16) = c := ⟨_, rfl⟩
    have e : decide (6 ≤ op ∧ op ≤ 16) = c := by rw [← hc]; simp [h6]
    rw [e]
    clear h6 e
    go_enter Try.func41, Try.ntmps41
    go_wp2
    go_ret
    exact ⟨rfl, rfl⟩
  · have h1 : decide (6 ≤ op) = false := by simpa using h6
    have e : decide (6 ≤ op ∧ op ≤ 16) = false := by simp; omega
    rw [e]
    clear h6 e
    go_enter Try.func41, Try.ntmps41
    go_wp2
    go_ret
    exact ⟨rfl, rfl⟩
def wantsV (op : Int) : Int × Int := if op = 3 ∨ op = 6 ∨ op = 7 then (1, 1) else if op = 4 ∨ op = 14 ∨ op = 15 ∨ op = 16 then (2, 2) else (0, 1)
theorem rwants_ (op : Int) (p : Int × Int) (w : World) (hp : wantsV op = p) :
    Calls Try.prog 51 #[.int .i64 op] w fun e w' => e = .returned (two p) ∧ w = w' := by
  subst hp
  have c : op = 3 ∨ op = 4 ∨ op = 6 ∨ op = 7 ∨ op = 14 ∨ op = 15 ∨ op = 16 ∨ (op ≠ 3 ∧ op ≠ 4 ∧ op ≠ 6 ∧ op ≠ 7 ∧ op ≠ 14 ∧ op ≠ 15 ∧ op ≠ 16) := by omega
  rcases c with rfl | rfl | rfl | rfl | rfl | rfl | rfl | ⟨h3, h4, h6, h7, h14, h15, h16⟩
  case inr.inr.inr.inr.inr.inr.inr =>
    have e : wantsV op = (0, 1) := by unfold wantsV; rw [if_neg (by omega), if_neg (by omega)]
    rw [e]
    have k3 : (op == 3) = false := by simpa using h3
    have k4 : (op == 4) = false := by simpa using h4
    have k6 : (op == 6) = false := by simpa using h6
    have k7 : (op == 7) = false := by simpa using h7
    have k14 : (op == 14) = false := by simpa using h14
    have k15 : (op == 15) = false := by simpa using h15
    have k16 : (op == 16) = false := by simpa using h16
    clear h3 h4 h6 h7 h14 h15 h16 e
    go_enter Try.func51, Try.ntmps51
    go_wp2
    go_ret2
    exact ⟨rfl, rfl⟩
  all_goals
    go_enter Try.func51, Try.ntmps51
    go_wp2
    go_ret2
    exact ⟨rfl, rfl⟩
theorem beq_cm (a b : List UInt8) : (a == b) = (b == a) := by
  rw [Bool.eq_iff_iff, beq_iff_eq, beq_iff_eq]
  exact ⟨Eq.symm, Eq.symm⟩
set_option maxHeartbeats 2000000 in
theorem rtells_ (s t : ByteArray) (l m : List UInt8) (hs : Str s l) (ht : Str t m) (hl : l.length ≤ 100000) (hm : m.length ≤ 100000) (w : World) :
    Calls Try.prog 53 #[.string s, .string t] w fun e w' => e = .returned (.bool (tellsL l m)) ∧ w = w' := by
  obtain ⟨R, hR⟩ : ∃ R, tellsL l m = R := ⟨_, rfl⟩
  rw [hR]
  have h0 := tl_eq hs ht
  have hz := hs.size
  have hz2 := ht.size
  have HS := Lib.hid hs
  have HT := Lib.hid ht
  have HZ := Lib.hid hz
  have HZ2 := Lib.hid hz2
  have hsb : s.size ≤ 100000 := by omega
  have htb : t.size ≤ 100000 := by omega
  have HE : Hid (s.toList = l) := Lib.hid (by rw [ByteArray.toList_eq, hs.eq])
  clear hs ht hz hz2
  cases hb0 : l == m with
  | true =>
    rw [hb0] at h0
    obtain rfl : R = true := by rw [← hR]; unfold tellsL; rw [hb0]; rfl
    clear hR hb0
    go_enter Try.func53, Try.ntmps53
    go_wp2
    go_ret
    exact ⟨rfl, rfl⟩
  | false =>
    rw [hb0] at h0
    have HR : Hid (R = ((behL l).isNone && sameO l (behL m))) := Lib.hid (by rw [← hR]; unfold tellsL; rw [hb0]; rfl)
    clear hb0 hR
    go_enter Try.func53, Try.ntmps53
    go_wp2
    go_loopw [5] (fun i wr => ∃ k : Nat, wr = w ∧ k ≤ s.size ∧ i = .int .i64 k ∧ Hid (∀ j (hj : j < l.length), j < k → l[j] ≠ 46)) (fun i _ => s.size - (intOf i).toNat)
    case atStart => exact ⟨0, rfl, Nat.zero_le _, rfl, Lib.hid (fun j hj h => absurd h (by omega))⟩
    case round =>
      obtain ⟨k, rfl, hk, rfl, HJ⟩ := hrel
      rcases Nat.lt_or_ge k s.size with hlt | hge
      · have hl2 : k < l.length := by rw [← HZ.out]; exact hlt
        have hd : decide (k < s.size) = true := by simp; omega
        have hd2 : decide ((k : Int) < (s.size : Int)) = true := by simp; omega
        have hg := HS.out.get k hlt hl2
        by_cases hc : l[k] = 46
        · have he : (((s[k]'hlt).toNat : Int) == 46) = true := by rw [hg, hc]; decide
          have hB := behL_at l k (by omega) HJ.out
          rw [List.drop_eq_getElem_cons hl2, hc, behL, if_pos rfl] at hB
          obtain rfl : R = false := by rw [HR.out, hB]; rfl
          clear hc hg hB
          go_wp2
          go_ret
          exact ⟨rfl, rfl⟩
        · have he : (((s[k]'hlt).toNat : Int) == 46) = false := by
            rw [hg, Bool.eq_false_iff]
            intro e
            rw [beq_iff_eq] at e
            exact hc (UInt8.toNat_inj.1 (by show l[k].toNat = 46; omega))
          have HC := Lib.hid hc
          clear hc hg
          go_wp2
          go_roundw
          case rel =>
            refine ⟨k + 1, by trivial, by omega, by go_num, Lib.hid (fun j hj h => ?_)⟩
            by_cases hjk : j = k
            · subst hjk; exact HC.out
            · exact HJ.out j hj (by omega)
          case measure => simp [intOf]; omega
      · have hd : decide (k < s.size) = false := by simp; omega
        have hd2 : decide ((k : Int) < (s.size : Int)) = false := by simp; omega
        have hB := behL_at l k (by have := HZ.out; omega) HJ.out
        rw [List.drop_of_length_le (by have := HZ.out; omega)] at hB
        have HR2 : Hid (R = sameO l (behL m)) := Lib.hid (by rw [HR.out, hB]; rfl)
        clear hB
        go_wp2
        go_loopw [6] (fun i wx => ∃ k : Nat, wx = wr ∧ k ≤ t.size ∧ i = .int .i64 k ∧ Hid (∀ j (hj : j < m.length), j < k → m[j] ≠ 46)) (fun i _ => t.size - (intOf i).toNat)
        case atStart => exact ⟨0, rfl, Nat.zero_le _, rfl, Lib.hid (fun j hj h => absurd h (by omega))⟩
        case round =>
          obtain ⟨k2, hwx, hk2, rfl, HJ2⟩ := hrel
          cases hwx
          rcases Nat.lt_or_ge k2 t.size with hlt | hge
          · have hl2 : k2 < m.length := by rw [← HZ2.out]; exact hlt
            have hd : decide (k2 < t.size) = true := by simp; omega
            have hd2 : decide ((k2 : Int) < (t.size : Int)) = true := by simp; omega
            have hg := HT.out.get k2 hlt hl2
            by_cases hc : m[k2] = 46
            · have he : (((t[k2]'hlt).toNat : Int) == 46) = true := by rw [hg, hc]; decide
              have hB := behL_at m k2 (by omega) HJ2.out
              rw [List.drop_eq_getElem_cons hl2, hc, behL, if_pos rfl] at hB
              have hx : t.extract (k2 + 1) t.size = ⟨(m.drop (k2 + 1)).toArray⟩ := by rw [HZ2.out, HT.out.eq]; exact drop_mk m (k2 + 1) (by omega)
              have hq : ((t.extract (k2 + 1) t.size).toList == s.toList) = R := by
                rw [HR2.out, hB, hx, HE.out, ByteArray.toList_eq, beq_cm]; rfl
              clear hc hg hB hx
              go_wp2
              go_ret
              exact ⟨rfl, rfl⟩
            · have he : (((t[k2]'hlt).toNat : Int) == 46) = false := by
                rw [hg, Bool.eq_false_iff]
                intro e
                rw [beq_iff_eq] at e
                exact hc (UInt8.toNat_inj.1 (by show m[k2].toNat = 46; omega))
              have HC := Lib.hid hc
              clear hc hg
              go_wp2
              go_roundw
              case rel =>
                refine ⟨k2 + 1, by trivial, by omega, by go_num, Lib.hid (fun j hj h => ?_)⟩
                by_cases hjk : j = k2
                · subst hjk; exact HC.out
                · exact HJ2.out j hj (by omega)
              case measure => simp [intOf]; omega
          · have hd : decide (k2 < t.size) = false := by simp; omega
            have hd2 : decide ((k2 : Int) < (t.size : Int)) = false := by simp; omega
            have hB := behL_at m k2 (by have := HZ2.out; omega) HJ2.out
            rw [List.drop_of_length_le (by have := HZ2.out; omega)] at hB
            obtain rfl : R = false := by rw [HR2.out, hB]; rfl
            clear hB
            go_wp2
            go_ret
            exact ⟨rfl, rfl⟩
set_option maxRecDepth 100000 in
set_option maxHeartbeats 4000000 in
theorem rFind_ (s : ByteArray) (b cap N : Nat) (cs : List Cl) (w : World) (hc : Cls w b cs) (hN : cs.length = N) (hN2 : N ≤ 1000) (hs : s.size ≤ 100000) (hcs : ∀ c ∈ cs, c.nm.size ≤ 100000) :
    Calls Try.prog 40 #[.slice (some ⟨b, 0, none⟩) N cap, .string s] w fun e w' => e = .returned (two (findL s.data.toList cs 0 (-1))) ∧ w = w' := by
  obtain ⟨p, hp⟩ : ∃ p, findL s.data.toList cs 0 (-1) = p := ⟨_, rfl⟩
  rw [hp]
  have HP := Lib.hid hp
  have HN := Lib.hid hN
  have HCS := Lib.hid hcs
  have hsl : s.data.toList.length ≤ 100000 := by rw [Array.length_toList]; exact hs
  clear hp hN hcs
  go_enter Try.func40, Try.ntmps40
  go_wp2
  go_loopw [6, 7] (fun a i wr => ∃ (k : Nat) (x : Int), wr = w ∧ i = .int .i64 k ∧ a = .int .i64 x ∧ k ≤ N ∧ -1 ≤ x ∧ x < (k : Int) ∧ Hid (findL s.data.toList (cs.drop k) k x = p)) (fun _ i _ => N - (intOf i).toNat)
  case atStart => exact ⟨0, -1, rfl, rfl, rfl, Nat.zero_le _, by omega, by omega, Lib.hid HP.out⟩
  case round =>
    obtain ⟨k, x, rfl, rfl, rfl, hk, hx1, hx2, HF⟩ := hrel
    rcases Nat.lt_or_ge k N with hlt | hge
    · have hd : decide (k < N) = true := by simp; omega
      have hd9 : decide ((k : Int) < (N : Int)) = true := by simp; omega
      have hkN : (k : Int) < (N : Int) := by omega
      obtain ⟨⟨nm, ck, cz⟩, hcx⟩ : ∃ c, cs[k]? = some c := ⟨_, List.getElem?_eq_getElem (by rw [HN.out]; exact hlt)⟩
      have HCX := Lib.hid hcx
      have hnm : nm.data.toList.length ≤ 100000 := by rw [Array.length_toList]; exact HCS.out _ (List.mem_of_getElem? hcx)
      have q := (hc.2 k _ hcx).1
      simp only at q
      obtain ⟨t, ht⟩ : ∃ t, tellsL s.data.toList nm.data.toList = t := ⟨_, rfl⟩
      have hfl := HF.out
      rw [drop_at cs k _ hcx, findL] at hfl
      have HFL : Hid ((if t = true then (if 0 ≤ x then (0, 12) else findL s.data.toList (cs.drop (k + 1)) (k + 1) k) else findL s.data.toList (cs.drop (k + 1)) (k + 1) x) = p) := Lib.hid (by rw [← ht]; exact hfl)
      have HT := Lib.hid (show ∀ W, Calls Try.prog 53 #[.string s, .string nm] W fun e w' => e = .returned (.bool t) ∧ W = w' by
        intro W; rw [← ht]; exact rtells_ s nm _ _ (Str.of s) (Str.of nm) hsl hnm W)
      clear hcx ht hfl
      go_wp2_with fail
      refine (HT.out _).mono ?_
      rintro e w2 ⟨rfl, rfl⟩
      clear q
      cases t with
      | true =>
        by_cases hx0 : 0 ≤ x
        · have hdx : decide (0 ≤ x) = true := by simpa using hx0
          have e : p = (0, 12) := by rw [← HFL.out, if_pos rfl, if_pos hx0]
          subst e
          go_wp2_with fail
          go_ret2
          exact ⟨rfl, rfl⟩
        · have hdx : decide (0 ≤ x) = false := by simpa using hx0
          have HF2 := Lib.hid (show findL s.data.toList (cs.drop (k + 1)) (k + 1) k = p by rw [← HFL.out, if_pos rfl, if_neg hx0])
          go_wp2_with fail
          go_roundw
          case rel => exact ⟨k + 1, k, by trivial, by go_num, rfl, by omega, by omega, by omega, HF2⟩
          case measure => simp [intOf]; omega
      | false =>
        have HF2 := Lib.hid (show findL s.data.toList (cs.drop (k + 1)) (k + 1) x = p by rw [← HFL.out, if_neg (by decide)])
        go_wp2_with fail
        go_roundw
        case rel => exact ⟨k + 1, x, by trivial, by go_num, rfl, by omega, hx1, by omega, HF2⟩
        case measure => simp [intOf]; omega
    · have hd : decide (k < N) = false := by simp; omega
      have hd9 : decide ((k : Int) < (N : Int)) = false := by simp; omega
      have hkN : ¬ (k : Int) < (N : Int) := by omega
      have hfl := HF.out
      rw [List.drop_of_length_le (by have := HN.out; omega), findL] at hfl
      by_cases hx0 : x < 0
      · have hdx : decide (x < 0) = true := by simpa using hx0
        rw [if_pos hx0] at hfl
        subst hfl
        go_wp2_with fail
        go_ret2
        exact ⟨rfl, rfl⟩
      · have hdx : decide (x < 0) = false := by simpa using hx0
        rw [if_neg hx0] at hfl
        subst hfl
        go_wp2_with fail
        go_ret2
        exact ⟨rfl, rfl⟩
end Go.Proofs.Ytfgmlgflfagdjaa.ev
