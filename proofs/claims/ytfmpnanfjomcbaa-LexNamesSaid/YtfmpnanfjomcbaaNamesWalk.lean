/- The walk of LexNames. -/
import Derived.Test.YtfmpnanfjomcbaaNumsPlain
import Derived.Test.YtfmpnanfjomcbaaTextsWalk
namespace Go.Proofs.Ytfmpnanfjomcbaa.lx
open Go.ChangeShapes Go.WideShapes Go.ChangeAt Go.RowKit Go.Proofs.Ytfmpnanfjomcbaa.lib
set_option linter.unusedVariables false

/-- a name -/
def Nm (nm : List UInt8) : Prop := (∃ c r, nm = c :: r ∧ letB c = true) ∧ ∀ c ∈ nm, nameB c = true
theorem words_name (nm : List UInt8) (h : Nm nm) (hl : nm.length ≤ 100) : wordsL (nm ++ ([32, 49, 120] ++ nm)) = (0, [⟨1, 0, nm⟩, ⟨2, 1, []⟩, ⟨1, 0, 120 :: nm⟩, endW]) := by
  have e1 : stepL (nm ++ ([32, 49, 120] ++ nm)) = .put ⟨1, 0, nm⟩ ([32, 49, 120] ++ nm) := step_rend ⟨1, 0, nm⟩ _ (.inl ⟨rfl, rfl, h.1, h.2⟩) (fun c q e => by injection e with e _; subst e; rfl)
  have e2 : stepL ([32, 49, 120] ++ nm) = .skip ([49, 120] ++ nm) := rfl
  have e3 : stepL ([49, 120] ++ nm) = .put ⟨2, 1, []⟩ ([120] ++ nm) := rfl
  have e4 : stepL ([120] ++ nm ++ []) = .put ⟨1, 0, 120 :: nm⟩ [] := step_rend ⟨1, 0, 120 :: nm⟩ [] (.inl ⟨rfl, rfl, ⟨120, nm, rfl, by decide⟩, fun c hc => by
    rcases List.mem_cons.1 hc with rfl | hc
    · decide
    · exact h.2 c hc⟩) (fun c q e => by cases e)
  rw [List.append_nil] at e4
  unfold wordsL
  rw [if_neg (by simp; omega), lexL_put [] e1, lexL_skip _ e2, lexL_put _ e3, lexL_put _ e4, lexL_nil]
  rfl
theorem words_low (nm : List UInt8) (c : UInt8) (hc : c = 95 ∨ c = 65) (hl : nm.length ≤ 100) : wordsL (c :: nm) = (6, []) := by
  have e1 : stepL (c :: nm) = .err 6 := by
    have ht : twoB (c :: nm) = false := by
      cases nm with
      | nil => rfl
      | cons d r => rcases hc with rfl | rfl <;> rfl
    rw [stepL]
    rcases hc with rfl | rfl
    · rw [if_neg (by decide), if_neg (by decide), if_neg (by decide), if_neg (by decide), if_neg (by rw [ht]; decide), if_neg (by decide)]
    · rw [if_neg (by decide), if_neg (by decide), if_neg (by decide), if_neg (by decide), if_neg (by rw [ht]; decide), if_neg (by decide)]
  unfold wordsL
  rw [if_neg (by simp; omega), lexL_err [] (by simp) e1]
  rfl
theorem name_cases (c : UInt8) : (nameB c = true ∧ ((97 ≤ c.toNat ∧ c.toNat ≤ 122) ∨ (48 ≤ c.toNat ∧ c.toNat ≤ 57) ∨ (95 ≤ c.toNat ∧ c.toNat ≤ 95))) ∨ (nameB c = false ∧ (c.toNat < 48 ∨ (58 ≤ c.toNat ∧ c.toNat ≤ 94) ∨ (96 ≤ c.toNat ∧ c.toNat ≤ 96) ∨ 123 ≤ c.toNat)) := by
  have e : (c == 95) = decide (c.toNat = 95) := by
    rw [Bool.eq_iff_iff, beq_iff_eq, decide_eq_true_iff]
    exact ⟨fun h => by rw [h]; rfl, fun h => UInt8.toNat_inj.1 h⟩
  unfold nameB letB digB
  rw [e]
  by_cases h1 : 97 ≤ c.toNat ∧ c.toNat ≤ 122
  · exact .inl ⟨by simp [h1], .inl h1⟩
  by_cases h2 : 48 ≤ c.toNat ∧ c.toNat ≤ 57
  · exact .inl ⟨by simp [h2], .inr (.inl h2)⟩
  by_cases h3 : c.toNat = 95
  · exact .inl ⟨by simp [h3], .inr (.inr (by omega))⟩
  refine .inr ⟨?_, by omega⟩
  simp
  omega

set_option maxRecDepth 1000000 in
set_option maxHeartbeats 8000000 in
theorem names_walk (n : Int) (s : ByteArray) (w : World) (hs : s.size ≤ maxLen) :
    Calls Try.prog 8 #[.int .i64 n, .string s] w fun e w' => e = .returned (.bool true) ∧ Below w.heap.size w w' := by
  by_cases h30 : 30 < s.size
  · unfold maxLen at hs
    have hd : decide (30 < (s.size : Int)) = true := by simp; try omega
    go_enter Try.func8, Try.ntmps8
    go_wp2_with fail
    refine (known _).mono ?_
    rintro e w1 ⟨rfl, hb1⟩
    go_wp2
    go_ret
    exact ⟨rfl, hb1⟩
  have hd : decide (30 < (s.size : Int)) = false := by simp; omega
  obtain ⟨l, hl⟩ : ∃ l, l = s.data.toList := ⟨_, rfl⟩
  have hz : l.length = s.size := by rw [hl, Array.length_toList]; rfl
  have hsl : s = ⟨l.toArray⟩ := by rw [hl]
  have hg : ∀ (i : Nat) (h : i < s.size) (h2 : i < l.length), s[i]'h = l[i] := by subst hsl; exact get_mk l
  have HS := Lib.hid hsl
  have HZ := Lib.hid hz
  have HG := Lib.hid hg
  have hsb : s.size ≤ 30 := by omega
  have hmx : (1000 : Nat) ≤ maxLen := by decide
  clear hl hz hsl hg h30 hs
  go_enter Try.func8, Try.ntmps8
  go_wp2_with fail
  refine (known _).mono ?_
  rintro e w1 ⟨rfl, hb1⟩
  go_wp2_with fail
  go_loopw [5, 6] (fun t i wr => ∃ (k : Nat) (u : ByteArray), wr = w1 ∧ k ≤ s.size ∧ i = .int .i64 k ∧ t = .string u ∧ u.size ≤ k + 1 ∧ Hid (u = ⟨(97 :: l.take k).toArray⟩ ∧ ∀ c ∈ l.take k, nameB c = true)) (fun _ i _ => s.size - (intOf i).toNat)
  case atStart => exact ⟨0, ⟨#[97]⟩, rfl, Nat.zero_le _, rfl, rfl, by decide, Lib.hid ⟨rfl, fun c h => by simp at h⟩⟩
  case round =>
    obtain ⟨k, u, rfl, hk, rfl, rfl, hus, HU⟩ := hrel
    rcases Nat.lt_or_ge k s.size with hlt | hge
    · have hl2 : k < l.length := by rw [HZ.out]; exact hlt
      have hd0 : decide (k < s.size) = true := by simp; omega
      have hx := HG.out k hlt hl2
      rcases name_cases l[k] with ⟨h3, h4⟩ | ⟨h3, h4⟩
      · have H3 := Lib.hid h3
        have HX := Lib.hid (ext_one s l HS.out k hl2)
        have hxs : (s.extract k (k + 1)).size ≤ 1 := by rw [HX.out]; exact Nat.le_refl _
        have hus2 : (u ++ s.extract k (k + 1)).size ≤ k + 1 + 1 := by rw [ByteArray.size_append]; omega
        have HT := Lib.hid (show l.take (k + 1) = l.take k ++ [l[k]] from List.take_succ_eq_append_getElem hl2)
        rw [← hx] at h4
        clear h3 hx
        rcases h4 with ⟨h5, h6⟩ | ⟨h5, h6⟩ | ⟨h5, h6⟩
        · go_wp2_with fail
          go_roundw
          case rel =>
            refine ⟨k + 1, _, by trivial, by omega, by go_num, rfl, by omega, Lib.hid ⟨?_, fun c hc => ?_⟩⟩
            · rw [HX.out, HU.out.1, HT.out, app_mk']; simp
            · rw [HT.out] at hc
              rcases List.mem_append.1 hc with hc | hc
              · exact HU.out.2 c hc
              · rw [List.mem_singleton.1 hc]; exact H3.out
          case measure => simp [intOf]; omega
        · go_wp2_with fail
          go_roundw
          case rel =>
            refine ⟨k + 1, _, by trivial, by omega, by go_num, rfl, by omega, Lib.hid ⟨?_, fun c hc => ?_⟩⟩
            · rw [HX.out, HU.out.1, HT.out, app_mk']; simp
            · rw [HT.out] at hc
              rcases List.mem_append.1 hc with hc | hc
              · exact HU.out.2 c hc
              · rw [List.mem_singleton.1 hc]; exact H3.out
          case measure => simp [intOf]; omega
        · have hb6 : (((s[k]'hlt).toNat : Int) == 95) = true := by rw [beq_iff_eq]; omega
          go_wp2_with fail
          go_roundw
          case rel =>
            refine ⟨k + 1, _, by trivial, by omega, by go_num, rfl, by omega, Lib.hid ⟨?_, fun c hc => ?_⟩⟩
            · rw [HX.out, HU.out.1, HT.out, app_mk']; simp
            · rw [HT.out] at hc
              rcases List.mem_append.1 hc with hc | hc
              · exact HU.out.2 c hc
              · rw [List.mem_singleton.1 hc]; exact H3.out
          case measure => simp [intOf]; omega
      · rw [← hx] at h4
        have hb5 : (((s[k]'hlt).toNat : Int) == 95) = false := by
          rw [Bool.eq_false_iff]
          intro e
          rw [beq_iff_eq] at e
          omega
        clear h3 hx
        rcases h4 with h5 | ⟨h5, h6⟩ | ⟨h5, h6⟩ | h5
        all_goals
          have HN : Hid (Nm (97 :: l.take k)) := Lib.hid ⟨⟨97, _, rfl, by decide⟩, fun c hc => by
            rcases List.mem_cons.1 hc with rfl | hc
            · decide
            · exact HU.out.2 c hc⟩
          have hnl : (97 :: l.take k).length ≤ 100 := by have := HZ.out; simp; omega
          obtain ⟨nm, hnm⟩ : ∃ nm, nm = 97 :: l.take k := ⟨_, rfl⟩
          rw [← hnm] at HN hnl
          have HUU := Lib.hid (show u = ⟨nm.toArray⟩ by rw [hnm]; exact HU.out.1)
          clear hnm
          have W1 := Lib.hid (words_name nm HN.out hnl)
          have W2 := Lib.hid (words_low nm 95 (.inl rfl) hnl)
          have W3 := Lib.hid (words_low nm 65 (.inr rfl) hnl)
          have L1 : Hid ((u ++ ByteArray.mk #[32, 49, 120] ++ u).data.toList = nm ++ ([32, 49, 120] ++ nm)) := Lib.hid (by rw [HUU.out]; show (ByteArray.mk _ ++ ByteArray.mk [32, 49, 120].toArray ++ ByteArray.mk _).data.toList = _; rw [app_mk', app_mk']; simp)
          have L2 : Hid ((ByteArray.mk #[95] ++ u).data.toList = 95 :: nm) := Lib.hid (by rw [HUU.out]; show (ByteArray.mk [95].toArray ++ ByteArray.mk _).data.toList = _; rw [app_mk']; simp)
          have L3 : Hid ((ByteArray.mk #[65] ++ u).data.toList = 65 :: nm) := Lib.hid (by rw [HUU.out]; show (ByteArray.mk [65].toArray ++ ByteArray.mk _).data.toList = _; rw [app_mk']; simp)
          have LX : Hid ((⟨(120 :: nm).toArray⟩ : ByteArray) = ByteArray.mk #[120] ++ u) := Lib.hid (by rw [HUU.out]; show _ = (ByteArray.mk [120].toArray ++ ByteArray.mk _); rw [app_mk']; rfl)
          have s1 : (u ++ ByteArray.mk #[32, 49, 120]).size ≤ 34 := by rw [ByteArray.size_append]; show _ + 3 ≤ _; omega
          have s2 : (u ++ ByteArray.mk #[32, 49, 120] ++ u).size ≤ 65 := by rw [ByteArray.size_append]; omega
          have s3 : (ByteArray.mk #[95] ++ u).size ≤ 32 := by rw [ByteArray.size_append]; show 1 + _ ≤ _; omega
          have s4 : (ByteArray.mk #[65] ++ u).size ≤ 32 := by rw [ByteArray.size_append]; show 1 + _ ≤ _; omega
          have eu : (u.toList == u.toList) = true := beq_self_eq_true _
          have ex : ((ByteArray.mk #[120] ++ u).toList == (ByteArray.mk #[120] ++ u).toList) = true := beq_self_eq_true _
          go_wp2_with fail
          refine (words0 _ _ _ 4 _ L1.out W1.out rfl (by omega) (by omega)).mono ?_
          rintro r w3 ⟨g, c, rfl, hW, hb3⟩
          go_wp2_with fail
          refine (wordsE _ _ 6 _ L2.out W2.out (by omega)).mono ?_
          rintro r w4 ⟨A4, c4, rfl, hb4⟩
          go_wp2_with fail
          refine (wordsE _ _ 6 _ L3.out W3.out (by omega)).mono ?_
          rintro r w5 ⟨A5, c5, rfl, hb5⟩
          have hW5 := (hW.ext hb4).ext hb5
          have q0 : w5.cell? ⟨g, 0, none⟩ = some (.int .i64 1) := (hW5.at_ (i := 0) rfl).1
          have q1 : w5.cell? ⟨g, 2, none⟩ = some (.string u) := by rw [HUU.out]; exact (hW5.at_ (i := 0) rfl).2.2
          have q2 : w5.cell? ⟨g, 3, none⟩ = some (.int .i64 2) := (hW5.at_ (i := 1) rfl).1
          have q3 : w5.cell? ⟨g, 8, none⟩ = some (.string (ByteArray.mk #[120] ++ u)) := by rw [← LX.out]; exact (hW5.at_ (i := 2) rfl).2.2
          go_wp2
          go_ret
          exact ⟨rfl, bch0 hb1 (bch0 hb3 (bch0 hb4 hb5))⟩
    · have hd0 : decide (k < s.size) = false := by simp; omega
      have HN : Hid (Nm (97 :: l.take k)) := Lib.hid ⟨⟨97, _, rfl, by decide⟩, fun c hc => by
        rcases List.mem_cons.1 hc with rfl | hc
        · decide
        · exact HU.out.2 c hc⟩
      have hnl : (97 :: l.take k).length ≤ 100 := by have := HZ.out; simp; omega
      obtain ⟨nm, hnm⟩ : ∃ nm, nm = 97 :: l.take k := ⟨_, rfl⟩
      rw [← hnm] at HN hnl
      have HUU := Lib.hid (show u = ⟨nm.toArray⟩ by rw [hnm]; exact HU.out.1)
      clear hnm
      have W1 := Lib.hid (words_name nm HN.out hnl)
      have W2 := Lib.hid (words_low nm 95 (.inl rfl) hnl)
      have W3 := Lib.hid (words_low nm 65 (.inr rfl) hnl)
      have L1 : Hid ((u ++ ByteArray.mk #[32, 49, 120] ++ u).data.toList = nm ++ ([32, 49, 120] ++ nm)) := Lib.hid (by rw [HUU.out]; show (ByteArray.mk _ ++ ByteArray.mk [32, 49, 120].toArray ++ ByteArray.mk _).data.toList = _; rw [app_mk', app_mk']; simp)
      have L2 : Hid ((ByteArray.mk #[95] ++ u).data.toList = 95 :: nm) := Lib.hid (by rw [HUU.out]; show (ByteArray.mk [95].toArray ++ ByteArray.mk _).data.toList = _; rw [app_mk']; simp)
      have L3 : Hid ((ByteArray.mk #[65] ++ u).data.toList = 65 :: nm) := Lib.hid (by rw [HUU.out]; show (ByteArray.mk [65].toArray ++ ByteArray.mk _).data.toList = _; rw [app_mk']; simp)
      have LX : Hid ((⟨(120 :: nm).toArray⟩ : ByteArray) = ByteArray.mk #[120] ++ u) := Lib.hid (by rw [HUU.out]; show _ = (ByteArray.mk [120].toArray ++ ByteArray.mk _); rw [app_mk']; rfl)
      have s1 : (u ++ ByteArray.mk #[32, 49, 120]).size ≤ 34 := by rw [ByteArray.size_append]; show _ + 3 ≤ _; omega
      have s2 : (u ++ ByteArray.mk #[32, 49, 120] ++ u).size ≤ 65 := by rw [ByteArray.size_append]; omega
      have s3 : (ByteArray.mk #[95] ++ u).size ≤ 32 := by rw [ByteArray.size_append]; show 1 + _ ≤ _; omega
      have s4 : (ByteArray.mk #[65] ++ u).size ≤ 32 := by rw [ByteArray.size_append]; show 1 + _ ≤ _; omega
      have eu : (u.toList == u.toList) = true := beq_self_eq_true _
      have ex : ((ByteArray.mk #[120] ++ u).toList == (ByteArray.mk #[120] ++ u).toList) = true := beq_self_eq_true _
      go_wp2_with fail
      refine (words0 _ _ _ 4 _ L1.out W1.out rfl (by omega) (by omega)).mono ?_
      rintro r w3 ⟨g, c, rfl, hW, hb3⟩
      go_wp2_with fail
      refine (wordsE _ _ 6 _ L2.out W2.out (by omega)).mono ?_
      rintro r w4 ⟨A4, c4, rfl, hb4⟩
      go_wp2_with fail
      refine (wordsE _ _ 6 _ L3.out W3.out (by omega)).mono ?_
      rintro r w5 ⟨A5, c5, rfl, hb5⟩
      have hW5 := (hW.ext hb4).ext hb5
      have q0 : w5.cell? ⟨g, 0, none⟩ = some (.int .i64 1) := (hW5.at_ (i := 0) rfl).1
      have q1 : w5.cell? ⟨g, 2, none⟩ = some (.string u) := by rw [HUU.out]; exact (hW5.at_ (i := 0) rfl).2.2
      have q2 : w5.cell? ⟨g, 3, none⟩ = some (.int .i64 2) := (hW5.at_ (i := 1) rfl).1
      have q3 : w5.cell? ⟨g, 8, none⟩ = some (.string (ByteArray.mk #[120] ++ u)) := by rw [← LX.out]; exact (hW5.at_ (i := 2) rfl).2.2
      go_wp2
      go_ret
      exact ⟨rfl, bch0 hb1 (bch0 hb3 (bch0 hb4 hb5))⟩
end Go.Proofs.Ytfmpnanfjomcbaa.lx
