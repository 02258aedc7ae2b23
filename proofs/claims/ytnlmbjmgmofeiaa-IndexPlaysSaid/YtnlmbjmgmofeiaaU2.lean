/- Contracts: the document's Put. Printed by genrput.py. -/
import Derived.Test.YtnlmbjmgmofeiaaU1
import Derived.Test.YtnlmbjmgmofeiaaTy
namespace Go.Proofs.Ytnlmbjmgmofeiaa.tb
open Go.ChangeShapes Go.WideShapes Go.ChangeAt Go.RowKit Go.Proofs.Ytnlmbjmgmofeiaa.lib Go.Proofs.Ytnlmbjmgmofeiaa.val
set_option linter.unusedVariables false

theorem grown_refl (w : World) (row : Option Nat) : w.grownBy w row := ⟨rfl, rfl, rfl, Nat.le_refl _, fun _ _ _ => rfl⟩
section
variable {P : Program} {w : World} {ops : Array Oper} {rest : List Oper} {o : Oper} {a : Act} {Q : Exit → Act → World → Prop}
/-- a row, wherever it lies, or none, is appended to one's own -/
theorem wpList_append_row (hgd : o.guard = none) (s x : Operand) (t : TypeId)
    (ho : o.op = .call { callee := .builtin .append, args := #[s, x], argTypes := #[t, t] })
    (base : Nat) (e : TypeId) (i : TypeInfo) (z : Value) (size bytes : Nat) (ht : P.underlying t = some (.slice e)) (hi : P.info? e = some i) (hz : i.zero = some z)
    (hsize : i.size = size) (hby : i.bytes = bytes) (hzs : z.cells.size = size) (hsz : 0 < size)
    (v : Value) (n : Nat) (xs : List Value) (hs : a.eval s = v) (hown : w.ownsRow base e size v n xs)
    (A : Option Addr) (m c lo : Nat) (news : List Value) (hx : a.eval x = .slice A m c) (hrow : Row w lo A m c news) (hl : news.length = m * size) (h1 : ∀ u ∈ news, u.oneCell' = true)
    (h63 : n + m ≤ maxLen) (hbytes : (n + m) * bytes ≤ 140737488355328) (hbase : base ≤ w.heap.size)
    (h : ∀ v' w', w'.ownsRow base e size v' (n + m) (xs ++ news) → w.grownBy w' v.ownBlock → wpList P ops Q rest (a.put o.dst v') w') : wpList P ops Q (o :: rest) a w := by
  cases A with
  | none =>
    have hr2 : m = 0 ∧ c = 0 ∧ news = [] := by
      rcases hrow with h | ⟨_, h, _⟩ | ⟨_, _, h, _⟩
      · exact h.2
      · cases h
      · cases h
    obtain ⟨rfl, rfl, rfl⟩ := hr2
    exact wpList_append_own_none hgd s x t ho base e i size ht hi v n xs hs hown hx (h v w (by simpa using hown) (grown_refl _ _))
  | some ad => exact wpList_append_own w hgd s x t ho base e i z size bytes ht hi hz hsize hby hzs hsz v n xs hs hown ad m c news hx hl hrow.src' h1 h63 hbytes hbase (fun v' w' k1 k2 _ => h v' w' k1 k2)
end
def PutR (S : Sch) (A : Option Addr) (n c : Nat) (p : Int × List (List V)) (lo : Nat) (w : World) (e : Ending) (w' : World) : Prop := ∃ A' n' c', e = .returned (.tuple #[.agg (tabA S A n c A' n' c'), .int .i64 p.1]) ∧ Rs w' lo A' n' c' p.2 ∧ Fine A' ∧ Below w.heap.size w w'
theorem put_hold {w wz : World} {hs : List Value} {rows : List (List V)} {r : List V} {k m n10 c8 c10 lo B B8 : Nat} {A8 A10 : Option Addr} (hhs : Hs w lo hs rows) (hbz : Below w.heap.size w wz)
    {X : List Value} (hX : X = hs.take k ++ [.slice A8 m c8] ++ hs.drop k) (hO : wz.ownsRow B 38 1 (.slice A10 n10 c10) n10 X) (hV : wz.ownsRow B8 41 3 (.slice A8 m c8) m (cellsV r)) (h1 : lo ≤ B) (h2 : lo ≤ B8) :
    Rs wz lo A10 n10 c10 (rows.take k ++ r :: rows.drop k) ∧ Fine A10 := by
  subst hX
  have hm := own_len hV
  have hl := hO.1
  have hh := hhs.ext hbz
  refine ⟨⟨_, (Row.of_own hO).base h1, ?_, ?_⟩, ?_⟩
  · have := ((hh.take k).append (Hs.one ⟨A8, c8, by rw [hm], by rw [hm]; exact (Vs.of_own hV).base h2⟩)).append (hh.drop k)
    simpa using this
  · have h3 := hh.1
    simp only [List.length_append, List.length_take, List.length_drop, List.length_cons, List.length_nil, Nat.mul_one] at hl ⊢
    omega
  · have : 0 < n10 := by
      simp only [List.length_append, List.length_take, List.length_drop, List.length_cons, List.length_nil, Nat.mul_one] at hl
      omega
    obtain ⟨g, rfl, _⟩ := own_some hO this
    exact .inr ⟨g, 0, rfl⟩
/-- what is read stays where a later block is set -/
theorem Rs.grownH {w w' : World} {g lo n c B : Nat} {A : Option Addr} {rows : List (List V)} (h : Rs w lo A n c rows) {w2 : World} (hw : Below w.heap.size w w2) (hg : w2.grownBy w' (some g)) (hB : w.heap.size ≤ g) : Rs w' lo A n c rows :=
  h.ext (hw.grown hg hw.size (fun b hb => by injection hb with hb; omega))

set_option maxRecDepth 1000000 in
set_option maxHeartbeats 8000000 in
theorem rput_ (S : Sch) (rows : List (List V)) (r : List V) (loC lo : Nat) (A : Option Addr) (n c : Nat) (A' : Option Addr) (n' c' : Nat) (lo' : Nat) (Ar : Option Addr) (m cr : Nat) (w : World)
    (hC : Cs w loC A n c S.cols) (hR : Rs w lo A' n' c' rows) (hF : Fine A') (hlo : lo ≤ w.heap.size) (hr : Vs w lo' Ar m cr r) (hs : Small r) (hOk : Ok S.cols S.key rows) (hn : S.cols.length ≤ 100) (hrows : rows.length ≤ 1000) (hm : m ≤ 100000) :
    Calls Try.prog 28 #[.agg (tabA S A n c A' n' c'), .slice Ar m cr] w (PutR S A n c (putL S.cols S.key rows r) lo w) := by
  obtain ⟨i0, hi, hz0, hz1, hz2⟩ := info_parts (P := Try.prog) (e := 41) (z := .agg #[.int .i64 0, .int .i64 0, .string ⟨#[]⟩]) (size := 3) (bytes := 32) (by kernel_rfl)
  obtain ⟨j0, hj, hy0, hy1, hy2⟩ := info_parts (P := Try.prog) (e := 38) (z := .slice none 0 0) (size := 1) (bytes := 24) (by kernel_rfl)
  have hRn := hR.len
  have hRN := Lib.hid hRn
  have hn' : n' ≤ 1000 := by omega
  have hCn := hC.2
  have hfits := fun w' (h : Below w.heap.size w w') => rfits_ S loC A n c r lo' Ar m cr w' (hC.ext h) (by omega) (hr.ext h) hm hs
  have hget := fun kv (hk : vchk kv = 0) w' (h : Below w.heap.size w w') => rget_ S rows kv lo A n c A' n' c' w' (hR.ext h) hOk hn hrows hk
  have hat := fun kv (hk : vchk kv = 0) w' (h : Below w.heap.size w w') => rat_ S rows kv lo A n c A' n' c' w' (hR.ext h) hOk hn hrows hk
  have Hfits := Lib.hid hfits
  have Hget := Lib.hid hget
  have Hat := Lib.hid hat
  have hkl := hOk.kl
  have Hkey := Lib.hid (fun h => key_chk (r := r) hkl h)
  have Hlen := Lib.hid (fun (h : fitsL S.cols r = 0) => fits_len h)
  have Hle := Lib.hid (fun kv => at_le S.key kv rows)
  have hputd : ∀ fv iv av kv, fitsL S.cols r = fv → keyOf S.key r = kv → isL S.key kv rows = iv → atL S.key kv rows = av → putL S.cols S.key rows r = if fv ≠ 0 then (fv, rows) else if iv = true then (7, rows) else if 200 ≤ rows.length then (4, rows) else (0, rows.take av ++ r :: rows.drop av) := by
    intro fv iv av kv h1 h2 h3 h4
    subst h1 h2 h3 h4
    rfl
  have Hput := Lib.hid hputd
  obtain ⟨p, hp⟩ : ∃ p, putL S.cols S.key rows r = p := ⟨_, rfl⟩
  obtain ⟨fv, hfv⟩ : ∃ fv, fitsL S.cols r = fv := ⟨_, rfl⟩
  rw [hp]
  have HP := Lib.hid hp
  have HFV := Lib.hid hfv
  rw [hfv] at Hfits
  clear hfits hget hat hputd hp hfv hRn hCn hOk
  obtain ⟨nm, cols, key, only⟩ := S
  simp only [tabA, schA] at hn hkl Hfits Hget Hat Hkey Hlen Hle Hput HP HFV ⊢
  go_enter Try.func28, Try.ntmps28
  go_upto_region 1 with fail
  obtain ⟨W, hW_, hbW, B1, B2⟩ : ∃ W_, W_ = ((w.alloc (.cells #[.string nm, .slice A n c, .int .i64 key, .bool only, .slice A' n' c'] 32)).alloc (.cells #[.string ⟨#[]⟩, .slice none 0 0, .int .i64 0, .bool false, .slice none 0 0] 32)) ∧ Below w.heap.size w W_ ∧ Blk W_ (w.heap.size) 32 #[.string nm, .slice A n c, .int .i64 key, .bool only, .slice A' n' c'] ∧ Blk W_ (w.heap.size + 1) 32 #[.string ⟨#[]⟩, .slice none 0 0, .int .i64 0, .bool false, .slice none 0 0] :=
    ⟨_, rfl, (((Below.refl _ _).alloc (Nat.le_refl _) _).alloc (by simp; try omega) _), ((blk_new_at w (w.heap.size) _ _ (by simp)).alloc _), (blk_new_at (w.alloc (.cells #[.string nm, .slice A n c, .int .i64 key, .bool only, .slice A' n' c'] 32)) (w.heap.size + 1) _ _ (by simp))⟩
  rw [← hW_]
  clear hW_
  have q1 := five B1 (Below.refl _ _)
  go_wp2_with fail
  clear q1
  refine (Hfits.out _ hbW).mono ?_
  rintro e w3 ⟨rfl, hb3⟩
  have hbx := Below.trans hbW (Below.mono hb3 hbW.size)
  have B1 := B1.ext hb3
  have B2 := B2.ext hb3
  by_cases hfit : fv = 0
  case neg =>
    have hne : (fv != 0) = true := by simpa using hfit
    have hpe : p = (fv, rows) := by
      have := Hput.out fv _ _ _ HFV.out rfl rfl rfl
      rw [if_pos hfit] at this
      rw [← HP.out, this]
    subst hpe
    clear hfit
    have f0 := B2.frozen 0
    have f1 := B2.frozen 1
    have f2 := B2.frozen 2
    have f3 := B2.frozen 3
    have f4 := B2.frozen 4
    have q := five B2 (Below.refl _ _)
    have q1 := five B1 (Below.refl _ _)
    go_wp2
    clear f0 f1 f2 f3 f4 q q1
    obtain ⟨wz, hwz, Bz, hlowz, hgrz⟩ := Blk.set5 B2 (.string nm) (.slice A n c) (.int .i64 key) (.bool only) (.slice A' n' c')
    rw [← hwz]
    clear hwz
    have q := five Bz (Below.refl _ _)
    exact bodyPost_ret (v := .tuple #[.agg #[.string nm, .slice A n c, .int .i64 key, .bool only, .slice A' n' c'], .int .i64 fv]) (by simp [results, Try.results28, go_sem, q]; try rfl) rfl
      ⟨_, _, _, rfl, hR.grownH (B := 0) hbx hgrz (by omega), hF, Below.trans hbx (hlowz _ (Nat.le_succ _))⟩
  subst hfit
  obtain ⟨kv, hkv, hke, hkc⟩ := Hkey.out HFV.out
  have hrl := Hlen.out HFV.out
  have hrm := hr.2
  have hkm : key < m := by omega
  have hkm2 : (key : Int) < (m : Int) := by omega
  obtain ⟨br, or_, rfl, _, _, _⟩ := hr.1.some_ (by omega)
  have HKV := Lib.hid hkv
  have hgt := Hget.out kv hkc
  have hatt := Hat.out kv hkc
  have hPd := Hput.out 0 _ _ kv HFV.out hke rfl rfl
  rw [HP.out, if_neg (by decide)] at hPd
  obtain ⟨iv, hiv⟩ : ∃ b, isL key kv rows = b := ⟨_, rfl⟩
  have hale := Hle.out kv
  obtain ⟨an, han⟩ : ∃ a, atL key kv rows = a := ⟨_, rfl⟩
  rw [hiv] at hgt hPd
  rw [han] at hatt hPd hale
  have HPd := Lib.hid hPd
  have Hgt := Lib.hid hgt
  have Hatt := Lib.hid hatt
  have han2 : an ≤ n' := by rw [← hRN.out]; exact hale
  clear hgt hatt hPd hkv hke hkc hiv han hrl hrm hale Hkey Hlen Hle Hput HP HFV Hget Hat Hfits
  go_wp2_with fail
  have D1 := fun w' (h : Below w3.heap.size w3.drew w') => five B1 (Below.trans (Below.refl _ _).drew h)
  have Dr := fun w' (h : Below w3.heap.size w3.drew w') => (hr.ext (Below.trans hbx (Below.mono (Below.trans (Below.refl _ w3).drew h) hbx.size))).at_ HKV.out
  refine wp_region_one [(0, true), (1, true), (2, true), (3, true), (4, true), (5, true), (6, true), (7, false), (8, true), (9, true), (10, true), (11, true), (12, true)] (by kernel_rfl) (by kernel_rfl) (by kernel_rfl) (by decide) ?_
  repeat ((with_reducible show wpPerm _ _ _ _ ((_, true) :: _) _ _); (first | (refine wpPerm_on (v := ?_) rfl rfl (wanted_free rfl) (fun w' hS => ?_) ?_; rotate_left; (focus (go_simp; (try with_reducible rfl); done)); try simp only [List.setIfInBounds_toArray, List.set_cons_zero, List.set_cons_succ]) | (refine wpPerm_on (v := ?_) rfl rfl (wanted_yes rfl rfl rfl) (fun w' hS => ?_) ?_; rotate_left; (focus (go_simp; (try with_reducible rfl); done)); try simp only [List.setIfInBounds_toArray, List.set_cons_zero, List.set_cons_succ]) | (refine wpPerm_off rfl rfl (wanted_no rfl rfl rfl) ?_; try simp only [List.setIfInBounds_toArray, List.set_cons_zero, List.set_cons_succ]) | (refine wpPerm_off rfl rfl (wanted_undef rfl rfl rfl) ?_; try simp only [List.setIfInBounds_toArray, List.set_cons_zero, List.set_cons_succ])))
  refine wpPerm_do rfl (wanted_free rfl) (fun K hK => ?_); go_simp
  refine (Hgt.out _ hbx.drew).mono ?_
  rintro e w5 ⟨Ag, mg, cg, rfl, _, hb5⟩
  refine hK.out _ _ hb5 ?_
  clear hK K
  repeat ((with_reducible show wpPerm _ _ _ _ ((_, true) :: _) _ _); (first | (refine wpPerm_on (v := ?_) rfl rfl (wanted_free rfl) (fun w' hS => ?_) ?_; rotate_left; (focus (go_simp; (try with_reducible rfl); done)); try simp only [List.setIfInBounds_toArray, List.set_cons_zero, List.set_cons_succ]) | (refine wpPerm_on (v := ?_) rfl rfl (wanted_yes rfl rfl rfl) (fun w' hS => ?_) ?_; rotate_left; (focus (go_simp; (try with_reducible rfl); done)); try simp only [List.setIfInBounds_toArray, List.set_cons_zero, List.set_cons_succ]) | (refine wpPerm_off rfl rfl (wanted_no rfl rfl rfl) ?_; try simp only [List.setIfInBounds_toArray, List.set_cons_zero, List.set_cons_succ]) | (refine wpPerm_off rfl rfl (wanted_undef rfl rfl rfl) ?_; try simp only [List.setIfInBounds_toArray, List.set_cons_zero, List.set_cons_succ])))
  refine wpPerm_done ?_
  clear D1 Dr
  have hb35 := Below.trans (Below.refl _ w3).drew hb5
  have hbx := Below.trans hbx (Below.mono hb35 hbx.size)
  have B1 := B1.ext hb35
  have B2 := B2.ext hb35
  clear hb35 hb5 hb3
  cases iv with
  | true =>
    have hpe : p = (7, rows) := by rw [HPd.out, if_pos rfl]
    subst hpe
    have f0 := B2.frozen 0
    have f1 := B2.frozen 1
    have f2 := B2.frozen 2
    have f3 := B2.frozen 3
    have f4 := B2.frozen 4
    have q := five B2 (Below.refl _ _)
    have q1 := five B1 (Below.refl _ _)
    go_wp2
    clear f0 f1 f2 f3 f4 q q1
    obtain ⟨wz, hwz, Bz, hlowz, hgrz⟩ := Blk.set5 B2 (.string nm) (.slice A n c) (.int .i64 key) (.bool only) (.slice A' n' c')
    rw [← hwz]
    clear hwz
    have q := five Bz (Below.refl _ _)
    exact bodyPost_ret (v := .tuple #[.agg #[.string nm, .slice A n c, .int .i64 key, .bool only, .slice A' n' c'], .int .i64 7]) (by simp [results, Try.results28, go_sem, q]; try rfl) rfl
      ⟨_, _, _, rfl, hR.grownH (B := 0) hbx hgrz (by omega), hF, Below.trans hbx (hlowz _ (Nat.le_succ _))⟩
  | false =>
    by_cases h200 : 200 ≤ n'
    case pos =>
      have hpe : p = (4, rows) := by rw [HPd.out, if_neg (by decide), if_pos (by rw [hRN.out]; exact h200)]
      subst hpe
      have hd : decide ((200 : Int) ≤ (n' : Int)) = true := by simp; omega
      have f0 := B2.frozen 0
      have f1 := B2.frozen 1
      have f2 := B2.frozen 2
      have f3 := B2.frozen 3
      have f4 := B2.frozen 4
      have q := five B2 (Below.refl _ _)
      have q1 := five B1 (Below.refl _ _)
      go_wp2
      clear f0 f1 f2 f3 f4 q q1
      obtain ⟨wz, hwz, Bz, hlowz, hgrz⟩ := Blk.set5 B2 (.string nm) (.slice A n c) (.int .i64 key) (.bool only) (.slice A' n' c')
      rw [← hwz]
      clear hwz
      have q := five Bz (Below.refl _ _)
      exact bodyPost_ret (v := .tuple #[.agg #[.string nm, .slice A n c, .int .i64 key, .bool only, .slice A' n' c'], .int .i64 4]) (by simp [results, Try.results28, go_sem, q]; try rfl) rfl
        ⟨_, _, _, rfl, hR.grownH (B := 0) hbx hgrz (by omega), hF, Below.trans hbx (hlowz _ (Nat.le_succ _))⟩
    have hpe : p = (0, rows.take an ++ r :: rows.drop an) := by rw [HPd.out, if_neg (by decide), if_neg (by rw [hRN.out]; exact h200)]
    subst hpe
    have hd : decide ((200 : Int) ≤ (n' : Int)) = false := by simp; omega
    have q1 := five B1 (Below.refl _ _)
    go_wp2_with fail
    clear q1
    have D1 := fun w' (h : Below w5.heap.size w5.drew w') => five B1 (Below.trans (Below.refl _ _).drew h)
    have Dr := fun w' (h : Below w5.heap.size w5.drew w') => (hr.ext (Below.trans hbx (Below.mono (Below.trans (Below.refl _ w5).drew h) hbx.size))).at_ HKV.out
    refine wp_region_one [(0, true), (1, true), (2, true), (3, true), (4, true), (5, true), (6, true), (7, false), (8, true)] (by kernel_rfl) (by kernel_rfl) (by kernel_rfl) (by decide) ?_
    repeat ((with_reducible show wpPerm _ _ _ _ ((_, true) :: _) _ _); (first | (refine wpPerm_on (v := ?_) rfl rfl (wanted_free rfl) (fun w' hS => ?_) ?_; rotate_left; (focus (go_simp; (try with_reducible rfl); done)); try simp only [List.setIfInBounds_toArray, List.set_cons_zero, List.set_cons_succ]) | (refine wpPerm_on (v := ?_) rfl rfl (wanted_yes rfl rfl rfl) (fun w' hS => ?_) ?_; rotate_left; (focus (go_simp; (try with_reducible rfl); done)); try simp only [List.setIfInBounds_toArray, List.set_cons_zero, List.set_cons_succ]) | (refine wpPerm_off rfl rfl (wanted_no rfl rfl rfl) ?_; try simp only [List.setIfInBounds_toArray, List.set_cons_zero, List.set_cons_succ]) | (refine wpPerm_off rfl rfl (wanted_undef rfl rfl rfl) ?_; try simp only [List.setIfInBounds_toArray, List.set_cons_zero, List.set_cons_succ])))
    refine wpPerm_do rfl (wanted_free rfl) (fun K hK => ?_); go_simp
    refine (Hatt.out _ hbx.drew).mono ?_
    rintro e w6 ⟨rfl, hb6⟩
    refine hK.out _ _ hb6 ?_
    clear hK K
    repeat ((with_reducible show wpPerm _ _ _ _ ((_, true) :: _) _ _); (first | (refine wpPerm_on (v := ?_) rfl rfl (wanted_free rfl) (fun w' hS => ?_) ?_; rotate_left; (focus (go_simp; (try with_reducible rfl); done)); try simp only [List.setIfInBounds_toArray, List.set_cons_zero, List.set_cons_succ]) | (refine wpPerm_on (v := ?_) rfl rfl (wanted_yes rfl rfl rfl) (fun w' hS => ?_) ?_; rotate_left; (focus (go_simp; (try with_reducible rfl); done)); try simp only [List.setIfInBounds_toArray, List.set_cons_zero, List.set_cons_succ]) | (refine wpPerm_off rfl rfl (wanted_no rfl rfl rfl) ?_; try simp only [List.setIfInBounds_toArray, List.set_cons_zero, List.set_cons_succ]) | (refine wpPerm_off rfl rfl (wanted_undef rfl rfl rfl) ?_; try simp only [List.setIfInBounds_toArray, List.set_cons_zero, List.set_cons_succ])))
    refine wpPerm_done ?_
    clear D1 Dr
    have hb56 := Below.trans (Below.refl _ w5).drew hb6
    have hbx := Below.trans hbx (Below.mono hb56 hbx.size)
    have B1 := B1.ext hb56
    have B2 := B2.ext hb56
    clear hb56 hb6 hd h200 HPd Hgt Hatt
    have hz6 := hbx.size
    have hW6 : w.heap.size + 1 + 1 ≤ w6.heap.size := by have := B2.lt; omega
    obtain ⟨hs, hrow, hhs, _⟩ := hR
    have hrow : Row w 0 A' n' c' hs := hrow.base (Nat.zero_le _)
    have Hrow := Lib.hid hrow
    have Hhl := Lib.hid (hhs.1.trans hRN.out)
    have Hone := Lib.hid hhs.one_
    have hnc := hrow.le_
    have hac : an ≤ c' := by omega
    clear hrow
    have hF' := hF
    rcases hF' with rfl | ⟨bA, oA, rfl⟩
    case inl =>
      have h0 : n' = 0 ∧ c' = 0 ∧ hs = [] := by
        rcases Hrow.out with h | ⟨_, h, _⟩ | ⟨_, _, h, _⟩
        · exact h.2
        · cases h
        · cases h
      have Hhs := Lib.hid h0.2.2
      obtain ⟨rfl, rfl, _⟩ := h0
      obtain rfl : an = 0 := by omega
      have q1 := fun o => five B1 ((Below.refl _ _).alloc (Nat.le_refl _) o)
      go_wp2_with (at_builtin; refine wpList_append_row rfl (.tmp 45) (.tmp 49) 30 rfl (w.heap.size + 1 + 1) 38 j0 _ 1 24 Try.underlying30 hj hy0 hy1 hy2 rfl (by decide) _ _ _ rfl (own_empty (w := w6) rfl hW6) _ _ _ _ (hs.take 0) rfl (show Row _ 0 none 0 0 (hs.take 0) by rw [Hhs.out]; exact Row.nil _ _) ?an1 ?an2 ?an3 ?an4 ?an5 ?_)
      case an1 => simp
      case an2 => exact fun u hu => Hone.out u (List.mem_of_mem_take hu)
      case an3 => unfold maxLen; omega
      case an4 => omega
      all_goals try (case an5 => first | omega | (simp; done) | (simp; omega))
      intro v7 w7 hown7 hgrow7
      clear q1
      have hbx7 := (hbx.alloc hbx.size (.cells #[] 38)).grown hgrow7 (by simp; omega) (fun b hb => by simp [Value.ownBlock] at hb; omega)
      have B1 := (B1.alloc (.cells #[] 38)).grown hgrow7 (by simp [Value.ownBlock]; omega)
      have B2 := (B2.alloc (.cells #[] 38)).grown hgrow7 (by simp [Value.ownBlock]; omega)
      have HO7 := Lib.hid hown7
      clear hown7 hgrow7 hbx
      have hbx := hbx7
      have hW7 := hbx7.size
      have hB2l := B2.lt
      go_wp2_with (at_builtin; refine wpList_append_row rfl (.tmp 52) (.tmp 53) 38 rfl w7.heap.size 41 i0 _ 3 32 Try.underlying38 hi hz0 hz1 hz2 rfl (by decide) _ _ _ rfl (own_empty (w := w7) rfl (Nat.le_refl _)) _ _ _ _ (cellsV r) rfl ((hr.1.ext hbx).ext ((Below.refl _ _).alloc (Nat.le_refl _) _)) ?bn1 ?bn2 ?bn3 ?bn4 ?bn5 ?_)
      case bn1 => rw [lenV, hr.2]
      case bn2 => exact oneV r
      case bn3 => unfold maxLen; omega
      case bn4 => omega
      all_goals try (case bn5 => first | omega | (simp; done) | (simp; omega))
      intro v8 w8 hown8 hgrow8
      obtain ⟨A8, c8, rfl⟩ := own_slice hown8
      try simp only [Nat.zero_add, List.nil_append] at hown8
      have h7a : Below w7.heap.size w7 (w7.alloc (.cells #[] 41)) := (Below.refl _ _).alloc (Nat.le_refl _) _
      have hbx8 := (hbx.alloc hbx.size (.cells #[] 41)).grown hgrow8 (by simp; omega) (fun b hb => by simp [Value.ownBlock] at hb; omega)
      have B1 := (B1.ext h7a).grown hgrow8 (by simp [Value.ownBlock]; omega)
      have B2 := (B2.ext h7a).grown hgrow8 (by simp [Value.ownBlock]; omega)
      have HO8 := Lib.hid ((own_ext HO7.out h7a).kept hgrow8 (by
        cases ho : v7.ownBlock with
        | none => exact .inl rfl
        | some b =>
          have := (HO7.out.lt b ho).2
          exact .inr (by simp [Value.ownBlock]; omega)))
      have hz8 : w7.heap.size + 1 ≤ w8.heap.size := by have := hgrow8.size; simpa using this
      clear hgrow8 HO7 hbx hbx7 h7a
      have hbx := hbx8
      go_wp2_with (at_builtin; refine wpList_append_own _ rfl (.tmp 51) (.tmp 55) 30 rfl (w.heap.size + 1 + 1) 38 j0 _ 1 24 Try.underlying30 hj hy0 hy1 hy2 rfl (by decide) _ _ _ rfl (HO8.out.alloc _) ⟨w8.heap.size, 0, none⟩ 1 1 [.slice A8 m c8] rfl rfl ?dn1 ?dn2 ?dn3 ?dn4 ?dn5 ?_)
      case dn1 => exact (Row.of_blk (Blk.new w8 _ _) (Nat.zero_le _) 1 1 (Nat.le_refl _)).src
      case dn2 => intro u hu; rw [List.mem_singleton] at hu; rw [hu]; rfl
      case dn3 => unfold maxLen; omega
      case dn4 => omega
      all_goals try (case dn5 => first | omega | (simp; done) | (simp; omega))
      intro v9 w9 hown9 hgrow9 _
      have h8a : Below w8.heap.size w8 (w8.alloc (.cells #[.slice A8 m c8] 38)) := (Below.refl _ _).alloc (Nat.le_refl _) _
      have hlt8 := HO8.out.lt
      have hbx9 := (hbx.alloc hbx.size (.cells #[.slice A8 m c8] 38)).grown hgrow9 (by simp; omega) (fun b hb => by have := (hlt8 b hb).1; omega)
      have B1 := (B1.ext h8a).grown hgrow9 (fun e => by have := (hlt8 _ e.symm).1; omega)
      have B2 := (B2.ext h8a).grown hgrow9 (fun e => by have := (hlt8 _ e.symm).1; omega)
      have hown8' := (own_ext hown8 h8a).kept hgrow9 (own_ne (own_ext hown8 h8a) (own_ext HO8.out h8a) (by decide))
      have HV9 := Lib.hid hown8'
      have HO9 := Lib.hid hown9
      have hz9 : w8.heap.size + 1 ≤ w9.heap.size := by have := hgrow9.size; simpa using this
      clear hown8 hown8' hown9 hgrow9 h8a hlt8 hbx hbx8 HO8
      have hbx := hbx9
      have q1 := five B1 (Below.refl _ _)
      go_wp2_with (at_builtin; refine wpList_append_row rfl (.tmp 57) (.tmp 61) 30 rfl (w.heap.size + 1 + 1) 38 j0 _ 1 24 Try.underlying30 hj hy0 hy1 hy2 rfl (by decide) _ _ _ rfl HO9.out _ _ _ _ (hs.drop 0) rfl (show Row _ 0 none 0 0 (hs.drop 0) by rw [Hhs.out]; exact Row.nil _ _) ?en1 ?en2 ?en3 ?en4 ?en5 ?_)
      case en1 => simp [Hhl.out]; try omega
      case en2 => exact fun u hu => Hone.out u (List.mem_of_mem_drop hu)
      case en3 => unfold maxLen; omega
      case en4 => omega
      all_goals try (case en5 => first | omega | (simp; done) | (simp; omega))
      intro v10 wa hown10 hgrow10
      obtain ⟨A10, c10, rfl⟩ := own_slice hown10
      have hlt9 := HO9.out.lt
      have hbxa := hbx.grown hgrow10 hbx.size (fun b hb => by have := (hlt9 b hb).1; omega)
      have B1 := B1.grown hgrow10 (fun e => by have := (hlt9 _ e.symm).1; omega)
      have B2 := B2.grown hgrow10 (fun e => by have := (hlt9 _ e.symm).1; omega)
      have HVa := Lib.hid (HV9.out.kept hgrow10 (own_ne HV9.out HO9.out (by decide)))
      have HOa := Lib.hid hown10
      clear q1 hown10 hgrow10 hlt9 HO9 HV9 hbx hbx9
      have hbx := hbxa
      have f4 := B1.frozen 4
      have q4 := B1.cell 4
      go_upto_region 13 with fail
      clear f4 q4
      obtain ⟨wb, hwb, B1', hlowb, hgrb⟩ := Blk.set1 (i := 4) B1 (.slice A10 1 c10)
      rw [← hwb]
      clear hwb
      have HOb := Lib.hid (HOa.out.kept hgrb (own_ne_blk HOa.out B1 (by decide)))
      have HVb := Lib.hid (HVa.out.kept hgrb (own_ne_blk HVa.out B1 (by decide)))
      have B2 := B2.grown hgrb (by simp)
      have B1 : Blk wb w.heap.size 32 #[.string nm, .slice A n c, .int .i64 key, .bool only, .slice A10 1 c10] := B1'
      have hbxb := Below.trans hbx (hlowb _ (Nat.le_refl _))
      clear HOa HVa hgrb hlowb B1' hbx hbxa
      have hbx := hbxb
      have f0 := B2.frozen 0
      have f1 := B2.frozen 1
      have f2 := B2.frozen 2
      have f3 := B2.frozen 3
      have f4 := B2.frozen 4
      have q := five B2 (Below.refl _ _)
      have q1 := five B1 (Below.refl _ _)
      go_wp2
      clear f0 f1 f2 f3 f4 q q1
      obtain ⟨wz, hwz, Bz, hlowz, hgrz⟩ := Blk.set5 B2 (.string nm) (.slice A n c) (.int .i64 key) (.bool only) (.slice A10 1 c10)
      rw [← hwz]
      clear hwz
      have q := five Bz (Below.refl _ _)
      exact bodyPost_ret (v := .tuple #[.agg #[.string nm, .slice A n c, .int .i64 key, .bool only, .slice A10 1 c10], .int .i64 0]) (by simp [results, Try.results28, go_sem, q]; try rfl) rfl
        ⟨_, _, _, rfl, (put_hold (k := 0) hhs (Below.trans hbx (hlowz _ (Nat.le_succ _))) (by simp [Hhs.out]) (HOb.out.kept hgrz (own_ne_blk HOb.out B2 (by decide))) (HVb.out.kept hgrz (own_ne_blk HVb.out B2 (by decide))) (by omega) (by omega)).1, (put_hold (k := 0) hhs (Below.trans hbx (hlowz _ (Nat.le_succ _))) (by simp [Hhs.out]) (HOb.out.kept hgrz (own_ne_blk HOb.out B2 (by decide))) (HVb.out.kept hgrz (own_ne_blk HVb.out B2 (by decide))) (by omega) (by omega)).2, Below.trans hbx (hlowz _ (Nat.le_succ _))⟩
    case inr =>
      by_cases hca : c' = an
      case pos =>
        obtain rfl : an = c' := hca.symm
        obtain rfl : n' = an := by omega
        have q1 := fun o => five B1 ((Below.refl _ _).alloc (Nat.le_refl _) o)
        go_wp2_with (at_builtin; refine wpList_append_row rfl (.tmp 45) (.tmp 49) 30 rfl (w.heap.size + 1 + 1) 38 j0 _ 1 24 Try.underlying30 hj hy0 hy1 hy2 rfl (by decide) _ _ _ rfl (own_empty (w := w6) rfl hW6) _ _ _ _ (hs.take n') rfl (((Hrow.out.ext hbx).ext ((Below.refl _ _).alloc (Nat.le_refl _) _)).take n' n' n' hac han2) ?af1 ?af2 ?af3 ?af4 ?af5 ?_)
        case af1 => simp [Hhl.out]; try omega
        case af2 => exact fun u hu => Hone.out u (List.mem_of_mem_take hu)
        case af3 => unfold maxLen; omega
        case af4 => omega
        all_goals try (case af5 => first | omega | (simp; done) | (simp; omega))
        intro v7 w7 hown7 hgrow7
        clear q1
        have hbx7 := (hbx.alloc hbx.size (.cells #[] 38)).grown hgrow7 (by simp; omega) (fun b hb => by simp [Value.ownBlock] at hb; omega)
        have B1 := (B1.alloc (.cells #[] 38)).grown hgrow7 (by simp [Value.ownBlock]; omega)
        have B2 := (B2.alloc (.cells #[] 38)).grown hgrow7 (by simp [Value.ownBlock]; omega)
        have HO7 := Lib.hid hown7
        clear hown7 hgrow7 hbx
        have hbx := hbx7
        have hW7 := hbx7.size
        have hB2l := B2.lt
        go_wp2_with (at_builtin; refine wpList_append_row rfl (.tmp 52) (.tmp 53) 38 rfl w7.heap.size 41 i0 _ 3 32 Try.underlying38 hi hz0 hz1 hz2 rfl (by decide) _ _ _ rfl (own_empty (w := w7) rfl (Nat.le_refl _)) _ _ _ _ (cellsV r) rfl ((hr.1.ext hbx).ext ((Below.refl _ _).alloc (Nat.le_refl _) _)) ?bf1 ?bf2 ?bf3 ?bf4 ?bf5 ?_)
        case bf1 => rw [lenV, hr.2]
        case bf2 => exact oneV r
        case bf3 => unfold maxLen; omega
        case bf4 => omega
        all_goals try (case bf5 => first | omega | (simp; done) | (simp; omega))
        intro v8 w8 hown8 hgrow8
        obtain ⟨A8, c8, rfl⟩ := own_slice hown8
        try simp only [Nat.zero_add, List.nil_append] at hown8
        have h7a : Below w7.heap.size w7 (w7.alloc (.cells #[] 41)) := (Below.refl _ _).alloc (Nat.le_refl _) _
        have hbx8 := (hbx.alloc hbx.size (.cells #[] 41)).grown hgrow8 (by simp; omega) (fun b hb => by simp [Value.ownBlock] at hb; omega)
        have B1 := (B1.ext h7a).grown hgrow8 (by simp [Value.ownBlock]; omega)
        have B2 := (B2.ext h7a).grown hgrow8 (by simp [Value.ownBlock]; omega)
        have HO8 := Lib.hid ((own_ext HO7.out h7a).kept hgrow8 (by
          cases ho : v7.ownBlock with
          | none => exact .inl rfl
          | some b =>
            have := (HO7.out.lt b ho).2
            exact .inr (by simp [Value.ownBlock]; omega)))
        have hz8 : w7.heap.size + 1 ≤ w8.heap.size := by have := hgrow8.size; simpa using this
        clear hgrow8 HO7 hbx hbx7 h7a
        have hbx := hbx8
        go_wp2_with (at_builtin; refine wpList_append_own _ rfl (.tmp 51) (.tmp 55) 30 rfl (w.heap.size + 1 + 1) 38 j0 _ 1 24 Try.underlying30 hj hy0 hy1 hy2 rfl (by decide) _ _ _ rfl (HO8.out.alloc _) ⟨w8.heap.size, 0, none⟩ 1 1 [.slice A8 m c8] rfl rfl ?df1 ?df2 ?df3 ?df4 ?df5 ?_)
        case df1 => exact (Row.of_blk (Blk.new w8 _ _) (Nat.zero_le _) 1 1 (Nat.le_refl _)).src
        case df2 => intro u hu; rw [List.mem_singleton] at hu; rw [hu]; rfl
        case df3 => unfold maxLen; omega
        case df4 => omega
        all_goals try (case df5 => first | omega | (simp; done) | (simp; omega))
        intro v9 w9 hown9 hgrow9 _
        have h8a : Below w8.heap.size w8 (w8.alloc (.cells #[.slice A8 m c8] 38)) := (Below.refl _ _).alloc (Nat.le_refl _) _
        have hlt8 := HO8.out.lt
        have hbx9 := (hbx.alloc hbx.size (.cells #[.slice A8 m c8] 38)).grown hgrow9 (by simp; omega) (fun b hb => by have := (hlt8 b hb).1; omega)
        have B1 := (B1.ext h8a).grown hgrow9 (fun e => by have := (hlt8 _ e.symm).1; omega)
        have B2 := (B2.ext h8a).grown hgrow9 (fun e => by have := (hlt8 _ e.symm).1; omega)
        have hown8' := (own_ext hown8 h8a).kept hgrow9 (own_ne (own_ext hown8 h8a) (own_ext HO8.out h8a) (by decide))
        have HV9 := Lib.hid hown8'
        have HO9 := Lib.hid hown9
        have hz9 : w8.heap.size + 1 ≤ w9.heap.size := by have := hgrow9.size; simpa using this
        clear hown8 hown8' hown9 hgrow9 h8a hlt8 hbx hbx8 HO8
        have hbx := hbx9
        have q1 := five B1 (Below.refl _ _)
        go_wp2_with (at_builtin; refine wpList_append_row rfl (.tmp 57) (.tmp 61) 30 rfl (w.heap.size + 1 + 1) 38 j0 _ 1 24 Try.underlying30 hj hy0 hy1 hy2 rfl (by decide) _ _ _ rfl HO9.out _ _ _ _ (hs.drop n') rfl (show Row _ 0 (some ⟨bA, oA, none⟩) 0 0 (hs.drop n') by rw [List.drop_eq_nil_of_le (by rw [Hhl.out]; omega)]; exact Row.empty _ _ _ _) ?ef1 ?ef2 ?ef3 ?ef4 ?ef5 ?_)
        case ef1 => simp [Hhl.out]; try omega
        case ef2 => exact fun u hu => Hone.out u (List.mem_of_mem_drop hu)
        case ef3 => unfold maxLen; omega
        case ef4 => omega
        all_goals try (case ef5 => first | omega | (simp; done) | (simp; omega))
        intro v10 wa hown10 hgrow10
        obtain ⟨A10, c10, rfl⟩ := own_slice hown10
        have hlt9 := HO9.out.lt
        have hbxa := hbx.grown hgrow10 hbx.size (fun b hb => by have := (hlt9 b hb).1; omega)
        have B1 := B1.grown hgrow10 (fun e => by have := (hlt9 _ e.symm).1; omega)
        have B2 := B2.grown hgrow10 (fun e => by have := (hlt9 _ e.symm).1; omega)
        have HVa := Lib.hid (HV9.out.kept hgrow10 (own_ne HV9.out HO9.out (by decide)))
        have HOa := Lib.hid hown10
        clear q1 hown10 hgrow10 hlt9 HO9 HV9 hbx hbx9
        have hbx := hbxa
        have f4 := B1.frozen 4
        have q4 := B1.cell 4
        go_upto_region 13 with fail
        clear f4 q4
        obtain ⟨wb, hwb, B1', hlowb, hgrb⟩ := Blk.set1 (i := 4) B1 (.slice A10 (n' + 1) c10)
        rw [← hwb]
        clear hwb
        have HOb := Lib.hid (HOa.out.kept hgrb (own_ne_blk HOa.out B1 (by decide)))
        have HVb := Lib.hid (HVa.out.kept hgrb (own_ne_blk HVa.out B1 (by decide)))
        have B2 := B2.grown hgrb (by simp)
        have B1 : Blk wb w.heap.size 32 #[.string nm, .slice A n c, .int .i64 key, .bool only, .slice A10 (n' + 1) c10] := B1'
        have hbxb := Below.trans hbx (hlowb _ (Nat.le_refl _))
        clear HOa HVa hgrb hlowb B1' hbx hbxa
        have hbx := hbxb
        have f0 := B2.frozen 0
        have f1 := B2.frozen 1
        have f2 := B2.frozen 2
        have f3 := B2.frozen 3
        have f4 := B2.frozen 4
        have q := five B2 (Below.refl _ _)
        have q1 := five B1 (Below.refl _ _)
        go_wp2
        clear f0 f1 f2 f3 f4 q q1
        obtain ⟨wz, hwz, Bz, hlowz, hgrz⟩ := Blk.set5 B2 (.string nm) (.slice A n c) (.int .i64 key) (.bool only) (.slice A10 (n' + 1) c10)
        rw [← hwz]
        clear hwz
        have q := five Bz (Below.refl _ _)
        exact bodyPost_ret (v := .tuple #[.agg #[.string nm, .slice A n c, .int .i64 key, .bool only, .slice A10 (n' + 1) c10], .int .i64 0]) (by simp [results, Try.results28, go_sem, q]; try rfl) rfl
          ⟨_, _, _, rfl, (put_hold (k := n') hhs (Below.trans hbx (hlowz _ (Nat.le_succ _))) (by simp) (HOb.out.kept hgrz (own_ne_blk HOb.out B2 (by decide))) (HVb.out.kept hgrz (own_ne_blk HVb.out B2 (by decide))) (by omega) (by omega)).1, (put_hold (k := n') hhs (Below.trans hbx (hlowz _ (Nat.le_succ _))) (by simp) (HOb.out.kept hgrz (own_ne_blk HOb.out B2 (by decide))) (HVb.out.kept hgrz (own_ne_blk HVb.out B2 (by decide))) (by omega) (by omega)).2, Below.trans hbx (hlowz _ (Nat.le_succ _))⟩
      case neg =>
        have q1 := fun o => five B1 ((Below.refl _ _).alloc (Nat.le_refl _) o)
        go_wp2_with (at_builtin; refine wpList_append_row rfl (.tmp 45) (.tmp 49) 30 rfl (w.heap.size + 1 + 1) 38 j0 _ 1 24 Try.underlying30 hj hy0 hy1 hy2 rfl (by decide) _ _ _ rfl (own_empty (w := w6) rfl hW6) _ _ _ _ (hs.take an) rfl (((Hrow.out.ext hbx).ext ((Below.refl _ _).alloc (Nat.le_refl _) _)).take an c' an hac han2) ?ar1 ?ar2 ?ar3 ?ar4 ?ar5 ?_)
        case ar1 => simp [Hhl.out]; try omega
        case ar2 => exact fun u hu => Hone.out u (List.mem_of_mem_take hu)
        case ar3 => unfold maxLen; omega
        case ar4 => omega
        all_goals try (case ar5 => first | omega | (simp; done) | (simp; omega))
        intro v7 w7 hown7 hgrow7
        clear q1
        have hbx7 := (hbx.alloc hbx.size (.cells #[] 38)).grown hgrow7 (by simp; omega) (fun b hb => by simp [Value.ownBlock] at hb; omega)
        have B1 := (B1.alloc (.cells #[] 38)).grown hgrow7 (by simp [Value.ownBlock]; omega)
        have B2 := (B2.alloc (.cells #[] 38)).grown hgrow7 (by simp [Value.ownBlock]; omega)
        have HO7 := Lib.hid hown7
        clear hown7 hgrow7 hbx
        have hbx := hbx7
        have hW7 := hbx7.size
        have hB2l := B2.lt
        go_wp2_with (at_builtin; refine wpList_append_row rfl (.tmp 52) (.tmp 53) 38 rfl w7.heap.size 41 i0 _ 3 32 Try.underlying38 hi hz0 hz1 hz2 rfl (by decide) _ _ _ rfl (own_empty (w := w7) rfl (Nat.le_refl _)) _ _ _ _ (cellsV r) rfl ((hr.1.ext hbx).ext ((Below.refl _ _).alloc (Nat.le_refl _) _)) ?br1 ?br2 ?br3 ?br4 ?br5 ?_)
        case br1 => rw [lenV, hr.2]
        case br2 => exact oneV r
        case br3 => unfold maxLen; omega
        case br4 => omega
        all_goals try (case br5 => first | omega | (simp; done) | (simp; omega))
        intro v8 w8 hown8 hgrow8
        obtain ⟨A8, c8, rfl⟩ := own_slice hown8
        try simp only [Nat.zero_add, List.nil_append] at hown8
        have h7a : Below w7.heap.size w7 (w7.alloc (.cells #[] 41)) := (Below.refl _ _).alloc (Nat.le_refl _) _
        have hbx8 := (hbx.alloc hbx.size (.cells #[] 41)).grown hgrow8 (by simp; omega) (fun b hb => by simp [Value.ownBlock] at hb; omega)
        have B1 := (B1.ext h7a).grown hgrow8 (by simp [Value.ownBlock]; omega)
        have B2 := (B2.ext h7a).grown hgrow8 (by simp [Value.ownBlock]; omega)
        have HO8 := Lib.hid ((own_ext HO7.out h7a).kept hgrow8 (by
          cases ho : v7.ownBlock with
          | none => exact .inl rfl
          | some b =>
            have := (HO7.out.lt b ho).2
            exact .inr (by simp [Value.ownBlock]; omega)))
        have hz8 : w7.heap.size + 1 ≤ w8.heap.size := by have := hgrow8.size; simpa using this
        clear hgrow8 HO7 hbx hbx7 h7a
        have hbx := hbx8
        go_wp2_with (at_builtin; refine wpList_append_own _ rfl (.tmp 51) (.tmp 55) 30 rfl (w.heap.size + 1 + 1) 38 j0 _ 1 24 Try.underlying30 hj hy0 hy1 hy2 rfl (by decide) _ _ _ rfl (HO8.out.alloc _) ⟨w8.heap.size, 0, none⟩ 1 1 [.slice A8 m c8] rfl rfl ?dr1 ?dr2 ?dr3 ?dr4 ?dr5 ?_)
        case dr1 => exact (Row.of_blk (Blk.new w8 _ _) (Nat.zero_le _) 1 1 (Nat.le_refl _)).src
        case dr2 => intro u hu; rw [List.mem_singleton] at hu; rw [hu]; rfl
        case dr3 => unfold maxLen; omega
        case dr4 => omega
        all_goals try (case dr5 => first | omega | (simp; done) | (simp; omega))
        intro v9 w9 hown9 hgrow9 _
        have h8a : Below w8.heap.size w8 (w8.alloc (.cells #[.slice A8 m c8] 38)) := (Below.refl _ _).alloc (Nat.le_refl _) _
        have hlt8 := HO8.out.lt
        have hbx9 := (hbx.alloc hbx.size (.cells #[.slice A8 m c8] 38)).grown hgrow9 (by simp; omega) (fun b hb => by have := (hlt8 b hb).1; omega)
        have B1 := (B1.ext h8a).grown hgrow9 (fun e => by have := (hlt8 _ e.symm).1; omega)
        have B2 := (B2.ext h8a).grown hgrow9 (fun e => by have := (hlt8 _ e.symm).1; omega)
        have hown8' := (own_ext hown8 h8a).kept hgrow9 (own_ne (own_ext hown8 h8a) (own_ext HO8.out h8a) (by decide))
        have HV9 := Lib.hid hown8'
        have HO9 := Lib.hid hown9
        have hz9 : w8.heap.size + 1 ≤ w9.heap.size := by have := hgrow9.size; simpa using this
        clear hown8 hown8' hown9 hgrow9 h8a hlt8 hbx hbx8 HO8
        have hbx := hbx9
        have q1 := five B1 (Below.refl _ _)
        go_wp2_with (at_builtin; refine wpList_append_row rfl (.tmp 57) (.tmp 61) 30 rfl (w.heap.size + 1 + 1) 38 j0 _ 1 24 Try.underlying30 hj hy0 hy1 hy2 rfl (by decide) _ _ _ rfl HO9.out _ _ _ _ (hs.drop an) rfl ((Hrow.out.ext hbx).drop (n' - an) (c' - an) an (by omega) (by omega)) ?er1 ?er2 ?er3 ?er4 ?er5 ?_)
        case er1 => simp [Hhl.out]; try omega
        case er2 => exact fun u hu => Hone.out u (List.mem_of_mem_drop hu)
        case er3 => unfold maxLen; omega
        case er4 => omega
        all_goals try (case er5 => first | omega | (simp; done) | (simp; omega))
        intro v10 wa hown10 hgrow10
        obtain ⟨A10, c10, rfl⟩ := own_slice hown10
        have hlt9 := HO9.out.lt
        have hbxa := hbx.grown hgrow10 hbx.size (fun b hb => by have := (hlt9 b hb).1; omega)
        have B1 := B1.grown hgrow10 (fun e => by have := (hlt9 _ e.symm).1; omega)
        have B2 := B2.grown hgrow10 (fun e => by have := (hlt9 _ e.symm).1; omega)
        have HVa := Lib.hid (HV9.out.kept hgrow10 (own_ne HV9.out HO9.out (by decide)))
        have HOa := Lib.hid hown10
        clear q1 hown10 hgrow10 hlt9 HO9 HV9 hbx hbx9
        have hbx := hbxa
        have f4 := B1.frozen 4
        have q4 := B1.cell 4
        go_upto_region 13 with fail
        clear f4 q4
        obtain ⟨wb, hwb, B1', hlowb, hgrb⟩ := Blk.set1 (i := 4) B1 (.slice A10 (an + 1 + (n' - an)) c10)
        rw [← hwb]
        clear hwb
        have HOb := Lib.hid (HOa.out.kept hgrb (own_ne_blk HOa.out B1 (by decide)))
        have HVb := Lib.hid (HVa.out.kept hgrb (own_ne_blk HVa.out B1 (by decide)))
        have B2 := B2.grown hgrb (by simp)
        have B1 : Blk wb w.heap.size 32 #[.string nm, .slice A n c, .int .i64 key, .bool only, .slice A10 (an + 1 + (n' - an)) c10] := B1'
        have hbxb := Below.trans hbx (hlowb _ (Nat.le_refl _))
        clear HOa HVa hgrb hlowb B1' hbx hbxa
        have hbx := hbxb
        have f0 := B2.frozen 0
        have f1 := B2.frozen 1
        have f2 := B2.frozen 2
        have f3 := B2.frozen 3
        have f4 := B2.frozen 4
        have q := five B2 (Below.refl _ _)
        have q1 := five B1 (Below.refl _ _)
        go_wp2
        clear f0 f1 f2 f3 f4 q q1
        obtain ⟨wz, hwz, Bz, hlowz, hgrz⟩ := Blk.set5 B2 (.string nm) (.slice A n c) (.int .i64 key) (.bool only) (.slice A10 (an + 1 + (n' - an)) c10)
        rw [← hwz]
        clear hwz
        have q := five Bz (Below.refl _ _)
        exact bodyPost_ret (v := .tuple #[.agg #[.string nm, .slice A n c, .int .i64 key, .bool only, .slice A10 (an + 1 + (n' - an)) c10], .int .i64 0]) (by simp [results, Try.results28, go_sem, q]; try rfl) rfl
          ⟨_, _, _, rfl, (put_hold (k := an) hhs (Below.trans hbx (hlowz _ (Nat.le_succ _))) (by simp) (HOb.out.kept hgrz (own_ne_blk HOb.out B2 (by decide))) (HVb.out.kept hgrz (own_ne_blk HVb.out B2 (by decide))) (by omega) (by omega)).1, (put_hold (k := an) hhs (Below.trans hbx (hlowz _ (Nat.le_succ _))) (by simp) (HOb.out.kept hgrz (own_ne_blk HOb.out B2 (by decide))) (HVb.out.kept hgrz (own_ne_blk HVb.out B2 (by decide))) (by omega) (by omega)).2, Below.trans hbx (hlowz _ (Nat.le_succ _))⟩
end Go.Proofs.Ytnlmbjmgmofeiaa.tb
