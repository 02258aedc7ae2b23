/- IndexNone: the walk. Printed by genlaw11.py. -/
import Derived.Test.YtnlmbjmgmofeiaaI15
import Derived.Test.YtnlmbjmgmofeiaaTArg
namespace Go.Proofs.Ytnlmbjmgmofeiaa.ix
open Go.ChangeShapes Go.WideShapes Go.ChangeAt Go.RowKit Go.Proofs.Ytnlmbjmgmofeiaa.lib Go.Proofs.Ytnlmbjmgmofeiaa.val Go.Proofs.Ytnlmbjmgmofeiaa.tb
set_option linter.unusedVariables false

def vz : V := ⟨3, 0, ⟨#[122, 122, 122, 122, 122, 122, 122, 122, 122, 122]⟩⟩
def vw : V := ⟨2, 1099511627776, ⟨#[]⟩⟩
theorem abc_z : ∀ k, k ≤ 9 → Lib.compareBytes (List.take k abc.data.toList) [122, 122, 122, 122, 122, 122, 122, 122, 122, 122] = -1 := by decide +kernel
theorem fit_z (c : Col) (h : 1 ≤ c.kind ∧ c.kind ≤ 3) (i : Nat) (x : Int) : cmpV (fitV c i x) vz < 0 := by
  have hk := kk_bd i x
  unfold fitV rawV
  split
  · decide +kernel
  split
  · have e : kkV i x % 2 = 0 ∨ kkV i x % 2 = 1 := by omega
    rcases e with e | e <;> rw [e] <;> decide +kernel
  split
  · unfold cmpV or3 ord vz
    simp
  split
  · have h9 : (kkV i x % 9).toNat ≤ 9 := by omega
    have := abc_z _ h9
    unfold cmpV or3 ord vz
    simp [this]
  · omega
theorem fit_w (c : Col) (h : 1 ≤ c.kind ∧ c.kind ≤ 3) (i : Nat) (x : Int) : cmpV (fitV c i x) vw ≠ 0 := by
  intro h0
  have h0 := (cmpV_zero _ _).1 h0
  have hk := kk_bd i x
  unfold vEq vw at h0
  simp only [Bool.and_eq_true, beq_iff_eq] at h0
  have h1 := h0.2.1
  unfold fitV rawV at h1
  split at h1
  · exact absurd h1 (by decide)
  split at h1
  · simp only at h1; omega
  split at h1
  · simp only at h1; omega
  split at h1
  · simp only at h1; omega
  · simp only at h1; omega
theorem no_keys {S : Sch} {rows : List (List V)} {col : Nat} (hOk : Ok S.cols S.key rows) (hS : SOk S) (hfd : ∀ r ∈ rows, Fitd S.cols r) (hcl : col < S.cols.length) :
    keysN (buildN col S.key rows) vz = [] ∧ keysN (buildN col S.key rows) vw = [] ∧ geN (buildN col S.key rows) vz = [] := by
  have key : ∀ x ∈ buildN col S.key rows, cmpV x.v vz < 0 ∧ cmpV x.v vw ≠ 0 := by
    intro x hx
    obtain ⟨r, hr, rfl⟩ := mem_buildN hx
    obtain ⟨y, rfl⟩ := hfd r hr
    have hc : S.cols[col]? = some S.cols[col] := List.getElem?_eq_getElem hcl
    have hk := hS.kinds col _ hc
    unfold enR
    simp only
    rw [fitL_at S.cols y col _ hc, Option.getD_some]
    exact ⟨fit_z _ hk _ _, fit_w _ hk _ _⟩
  unfold keysN geN
  refine ⟨?_, ?_, ?_⟩
  · rw [List.filter_eq_nil_iff.2 (fun x hx => by have := (key x hx).1; simp; omega)]; rfl
  · rw [List.filter_eq_nil_iff.2 (fun x hx => by have := (key x hx).2; simpa using this)]; rfl
  · rw [List.filter_eq_nil_iff.2 (fun x hx => by have := (key x hx).1; simp; omega)]; rfl
set_option maxRecDepth 1000000 in
set_option maxHeartbeats 8000000 in
theorem none_walk (s : ByteArray) (A : Option Addr) (n c : Nat) (l : List Col) (key : Int) (only : Bool) (Ai : Option Addr) (ni ci : Nat) (zs : List Int) (pc : Int) (w : World) (hs : s.size ≤ maxLen) (hC : Cs w 0 A n c l) (hn : n ≤ maxLen) (hp : ∀ x ∈ l, RawC x) (hkey : ok64 key) (hI : Row w 0 Ai ni ci (flatK encI zs)) (hni : zs.length = ni) (hi2 : ni ≤ maxLen) (hz : ∀ x ∈ zs, ok64 x) (hpc : ok64 pc) :
    Calls Try.prog 5 #[.agg #[.string s, .slice A n c, .int .i64 key, .bool only], .slice Ai ni ci, .int .i64 pc] w fun e W' => e = .returned (.bool true) ∧ Below w.heap.size w W' := by
  go_enter Try.func5, Try.ntmps5
  go_upto_region 1 with fail
  obtain ⟨W0, hW_, hbW0, BS⟩ : ∃ W_, W_ = (w.alloc (.cells #[.string s, .slice A n c, .int .i64 key, .bool only] 24)) ∧ Below w.heap.size w W_ ∧ Blk W_ (w.heap.size) 24 #[.string s, .slice A n c, .int .i64 key, .bool only] :=
    ⟨_, rfl, ((Below.refl _ _).alloc (Nat.le_refl _) _), (blk_new_at w (w.heap.size) _ _ (by simp))⟩
  rw [← hW_]
  clear hW_
  go_wp2_with fail
  refine (known11_ _).mono ?_
  rintro e w1 ⟨rfl, hb1⟩
  have hbw1 := Below.trans hbW0 (Below.mono hb1 hbW0.size)
  have BS := BS.ext hb1
  clear hbW0 hb1
  have q := four BS (Below.refl _ _)
  go_wp2_with fail
  refine (few9_ s A n c l key only _ hs (hC.ext hbw1) hn (fun x hx => (hp x hx).s)).mono ?_
  rintro e w2 ⟨⟨b, rfl⟩, hb2⟩
  have hbw2 := Below.trans hbw1 (Below.mono hb2 hbw1.size)
  have BS := BS.ext hb2
  clear hbw1 hb2 q
  by_cases hbt : b = true
  case neg =>
    obtain rfl : b = false := by cases b with | false => rfl | true => exact absurd rfl hbt
    go_wp2
    go_ret
    exact ⟨rfl, hbw2⟩
  subst hbt
  have q := four BS (Below.refl _ _)
  go_wp2_with fail
  refine (good9_ s A n c l key only _ (hC.ext hbw2) hn hp hkey).mono ?_
  rintro e w3 ⟨A7, c7, rfl, hC7, hF7, hb3⟩
  have hbw3 := Below.trans hbw2 (Below.mono hb3 hbw2.size)
  have hS : SOk (goodS l key only) := good_ok l key only
  generalize goodS l key only = S at *
  have hC7 := hC7.base (Nat.zero_le _)
  clear hbw2 hb3 q BS hs hC hn hp hkey
  have h6 := hS.six
  have hpos := hS.pos
  have hn7 : S.cols.length ≤ 100 := by omega
  simp only [schA]
  go_wp2_with fail
  obtain ⟨W4, hW_, hbW4, B7⟩ : ∃ W_, W_ = (w3.alloc (.cells #[.string S.name, .slice A7 S.cols.length c7, .int .i64 S.key, .bool S.only] 24)) ∧ Below w3.heap.size w3 W_ ∧ Blk W_ (w3.heap.size) 24 #[.string S.name, .slice A7 S.cols.length c7, .int .i64 S.key, .bool S.only] :=
    ⟨_, rfl, ((Below.refl _ _).alloc (Nat.le_refl _) _), (blk_new_at w3 (w3.heap.size) _ _ (by simp))⟩
  rw [← hW_]
  clear hW_
  obtain ⟨g7, hg7⟩ : ∃ g, w3.heap.size = g := ⟨_, rfl⟩
  have hbw4 := Below.trans hbw3 (Below.mono hbW4 hbw3.size)
  have hC7 := hC7.ext hbW4
  rw [hg7] at B7 ⊢
  clear hg7 hbW4 hbw3 hF7
  obtain ⟨col, hcol, hcl⟩ : ∃ col : Nat, pc % (S.cols.length : Int) = (col : Int) ∧ col < S.cols.length := by
    have h1 := Int.emod_nonneg pc (by omega : (S.cols.length : Int) ≠ 0)
    have h2 := Int.emod_lt_of_pos pc (by omega : (0 : Int) < (S.cols.length : Int))
    exact ⟨(pc % (S.cols.length : Int)).toNat, by omega, by omega⟩
  refine (within11 pc (S.cols.length : Int) (col : Int) hcol _ (by omega) (by omega) hpc.1 hpc.2).mono ?_
  rintro e w5 ⟨rfl, rfl⟩
  clear hcol
  have q := four B7 (Below.refl _ _)
  go_wp2_with fail
  refine (fill_ S A7 c7 Ai ni ci zs _ hS hC7 (hI.ext hbw4) hni hi2 hz).mono ?_
  rintro e w6 ⟨rows, At, nt, ct, rfl, hR, hFt, hOk, hlen, hfd, hb6⟩
  have hlow6 := hbw4.size
  have hR := hR.base hlow6
  have hbw6 := Below.trans hbw4 (Below.mono hb6 hbw4.size)
  have B7 := B7.ext hb6
  have hC7 := hC7.ext hb6
  have hRN := hR.len
  have hnt : nt ≤ 50 := by omega
  have hrow : ∀ c, c < S.cols.length → ∀ r ∈ rows, RowN c S.key r := fun c hc r hr => rowN_of (hOk.fit r hr) (hfd r hr).num hc hS.key hn7
  clear hb6 q hbw4 hlow6
  simp only [tabA]
  go_wp2_with fail
  refine (of_ S A7 S.cols.length c7 At nt ct _).mono ?_
  rintro e w7 ⟨rfl, hb7⟩
  have hbw7 := Below.trans hbw6 (Below.mono hb7 hbw6.size)
  have B7 := B7.ext hb7
  have hR := hR.ext hb7
  have hC7 := hC7.ext hb7
  simp only [tabA]
  go_wp2_with fail
  refine (build_ S rows col S.key _ A7 S.cols.length c7 At nt ct _ rfl hR (by omega) (hrow col hcl)).mono ?_
  rintro e w8 ⟨g, ws, Ax, cx, rfl, hx, hmap, hlo, hb8⟩
  have hbw8 := Below.trans hbw7 (Below.mono hb8 hbw7.size)
  have B7 := B7.ext hb8
  have hR := hR.ext hb8
  have hC7 := hC7.ext hb8
  have hwl : ws.length ≤ 50 := by
    have h4 := buildN_len col S.key rows rows.length
    rw [List.take_of_length_le (Nat.le_refl _), ← hmap, List.length_map] at h4
    omega
  have hz := no_keys hOk hS hfd hcl
  rw [← hmap] at hz
  obtain ⟨hz1, hz2, hz3⟩ := hz
  have HX := Lib.hid hx
  have HZ1 := Lib.hid hz1
  have HZ2 := Lib.hid hz2
  have HZ3 := Lib.hid hz3
  clear hx hz1 hz2 hz3 hmap hrow hfd hOk hb7 hb8
  go_wp2_with fail
  obtain ⟨W9, hW_, hb9, BZ, BW⟩ : ∃ W_, W_ = ((w8.alloc (.cells #[.int .i64 3, .int .i64 0, .string ⟨#[122, 122, 122, 122, 122, 122, 122, 122, 122, 122]⟩] 41)).alloc (.cells #[.int .i64 2, .int .i64 1099511627776, .string ⟨#[]⟩] 41)) ∧ Below w8.heap.size w8 W_ ∧ Blk W_ (w8.heap.size) 41 #[.int .i64 3, .int .i64 0, .string ⟨#[122, 122, 122, 122, 122, 122, 122, 122, 122, 122]⟩] ∧ Blk W_ (w8.heap.size + 1) 41 #[.int .i64 2, .int .i64 1099511627776, .string ⟨#[]⟩] :=
    ⟨_, rfl, (((Below.refl _ _).alloc (Nat.le_refl _) _).alloc (by simp; try omega) _), ((blk_new_at w8 (w8.heap.size) _ _ (by simp)).alloc _), (blk_new_at (w8.alloc (.cells #[.int .i64 3, .int .i64 0, .string ⟨#[122, 122, 122, 122, 122, 122, 122, 122, 122, 122]⟩] 41)) (w8.heap.size + 1) _ _ (by simp))⟩
  rw [← hW_]
  clear hW_
  have hx9 := HX.out.ext hb9
  have hbw9 := Below.trans hbw8 (Below.mono hb9 hbw8.size)
  have hk1 := keys_ ws vz g (g + 1) col S.key Ax cx _ hx9 (by omega)
  rw [HZ1.out] at hk1
  refine hk1.mono ?_
  rintro e w10 ⟨A2, c2, rfl, _, hb10⟩
  clear hk1
  have hx10 := hx9.ext hb10
  have hbw10 := Below.trans hbw9 (Below.mono hb10 hbw9.size)
  have BZ := BZ.ext hb10
  have BW := BW.ext hb10
  have qz := BZ.three (Below.refl _ _)
  have qw := BW.three (Below.refl _ _)
  have HX9 := Lib.hid hx10
  clear hb9 hb10 hx9 hx10
  go_wp2_with fail
  have hk2 := keys_ ws vw g (g + 1) col S.key Ax cx _ HX9.out (by omega)
  rw [HZ2.out] at hk2
  refine hk2.mono ?_
  rintro e w11 ⟨A3, c3, rfl, _, hb11⟩
  clear hk2
  have HX11 := Lib.hid (HX9.out.ext hb11)
  have hbw11 := Below.trans hbw10 (Below.mono hb11 hbw10.size)
  have BZ := BZ.ext hb11
  clear qz qw
  have qz := BZ.three (Below.refl _ _)
  clear hb11
  go_wp2_with fail
  have hk3 := from_ ws vz 9 g (g + 1) col S.key Ax cx _ HX11.out (by omega)
  rw [fromN, HZ3.out] at hk3
  refine hk3.mono ?_
  rintro e w12 ⟨A4, c4, rfl, _, hb12⟩
  clear hk3
  go_wp2
  go_ret
  exact ⟨rfl, Below.trans hbw11 (Below.mono hb12 hbw11.size)⟩
end Go.Proofs.Ytnlmbjmgmofeiaa.ix
