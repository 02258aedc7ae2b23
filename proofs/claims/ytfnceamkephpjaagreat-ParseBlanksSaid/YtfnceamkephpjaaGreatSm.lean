/- ref18's Same, of two statements that are the same. Printed by gensm.py. -/
import Derived.Test.YtfnceamkephpjaaGreatQ15
import Derived.Test.YtfnceamkephpjaaGreatDeepWalk
import Derived.Laws.StructEq
namespace Go.Proofs.YtfnceamkephpjaaGreat.pg
open Go.ChangeShapes Go.WideShapes Go.ChangeAt Go.RowKit Go.Proofs.YtfnceamkephpjaaGreat.lib Go.Proofs.YtfnceamkephpjaaGreat.lx
set_option linter.unusedVariables false

theorem stoodNd : Tryz.prog.stoodInHeld 45 = false := by kernel_rfl
theorem guardNd : Tryz.prog.eqGuardType Tryz.prog.depth 45 = false := by kernel_rfl
theorem stoodVl : Tryz.prog.stoodInHeld 43 = false := by kernel_rfl
theorem stoodCl : Tryz.prog.stoodInHeld 85 = false := by kernel_rfl
theorem guardCl : Tryz.prog.eqGuardType Tryz.prog.depth 85 = false := by kernel_rfl
set_option maxRecDepth 100000 in
theorem neqNd (a b c k n : Int) (s m : ByteArray) (w : World) : (Go.binOp .neq 45 (.agg #[.int .i64 a, .int .i64 b, .int .i64 c, .int .i64 k, .int .i64 n, .string s, .string m]) (.agg #[.int .i64 a, .int .i64 b, .int .i64 c, .int .i64 k, .int .i64 n, .string s, .string m])).run Tryz.prog w = .ok (.bool false) w := by
  have u0 := Tryz.underlying45
  have u4 := Tryz.underlying43
  have u1 := Tryz.underlying3
  have u2 := Tryz.underlying9
  have u3 := Tryz.underlying4
  have hp := stoodNd
  have hp2 := stoodVl
  rw [run_neq_struct, show (10000 : Nat) = 9998 + 1 + 1 from rfl, run_equalIn_agg _ _ _ _ _ (by simp [Program.fieldsOf, u0]) hp]
  simp [Program.fieldsOf, u0, u4, Op.eqFields, go_sem, u1, u2, hp2]
set_option maxRecDepth 100000 in
theorem neqCl (s : ByteArray) (k : Int) (b : Bool) (w : World) : (Go.binOp .neq 85 (.agg #[.string s, .int .i64 k, .bool b]) (.agg #[.string s, .int .i64 k, .bool b])).run Tryz.prog w = .ok (.bool false) w := by
  have u0 := Tryz.underlying85
  have u1 := Tryz.underlying3
  have u2 := Tryz.underlying9
  have u3 := Tryz.underlying4
  have hp := stoodCl
  rw [run_neq_struct, show (10000 : Nat) = 9999 + 1 from rfl, run_equalIn_agg _ _ _ _ _ (by simp [Program.fieldsOf, u0]) hp]
  simp [Program.fieldsOf, u0, Op.eqFields, go_sem, u1, u2, u3]
/-- a row's place, whatever it is -/
theorem row_at {w : World} {A : Option Addr} {n c k i : Nat} {α : Type} {enc : α → List Value} {l : List α} {x : α} (hk : ∀ x, (enc x).length = k) (hr : Row w 0 A n c (flatK enc l)) (hx : l[i]? = some x) (hn : i < n) :
    ∃ b off, A = some ⟨b, off, none⟩ ∧ b < w.heap.size ∧ ∀ (j : Nat) u, (enc x)[j]? = some u → ∀ w', Below w.heap.size w w' → w'.cell? ⟨b, off + i * k + j, none⟩ = some u := by
  obtain ⟨b, off, rfl, _, _, hlt⟩ := hr.some_ (by omega)
  refine ⟨b, off, rfl, hlt, fun j u hu w' hb => ?_⟩
  have := hr.at_ (flatK_at enc k hk l i x j u hx hu)
  rw [← Nat.add_assoc] at this
  exact (hb.cell (by simpa using hlt)).trans this
set_option maxRecDepth 1000000 in
set_option maxHeartbeats 4000000 in
theorem sameExpr_ (es : List Nd) (A A' : Option Addr) (n c c' : Nat) (w : World) (hl : es.length = n) (hn : n ≤ 9223372036854775807) (hr : Row w 0 A n c (flatK encNd es)) (hr' : Row w 0 A' n c' (flatK encNd es)) :
    Calls Tryz.prog 17 #[.slice A n c, .slice A' n c'] w fun e w' => e = .returned (.bool true) ∧ Below w.heap.size w w' := by
  have HL := Lib.hid hl
  have HR := Lib.hid hr
  have HR' := Lib.hid hr'
  clear hl hr hr'
  go_enter Tryz.func17, Tryz.ntmps17
  go_wp2_with fail
  go_loopw [5] (fun iv wr => ∃ i : Nat, iv = .int .i64 i ∧ i ≤ n ∧ Hid (Below w.heap.size w wr)) (fun iv _ => n - (intOf iv).toNat)
  case atStart => exact ⟨0, rfl, by omega, Lib.hid (Below.refl _ _)⟩
  case round =>
    obtain ⟨i, rfl, hin, HB⟩ := hrel
    rcases Nat.lt_or_ge i n with hlt | hge
    case inr =>
      have c1 : decide ((i : Int) < (n : Int)) = false := by simp; omega
      go_wp2
      go_ret
      exact ⟨rfl, HB.out⟩
    have c1 : decide ((i : Int) < (n : Int)) = true := by simp; omega
    have c2 : (i : Int) < (n : Int) := by omega
    obtain ⟨x, hx⟩ : ∃ x, es[i]? = some x := ⟨_, List.getElem?_eq_getElem (by have := HL.out; omega)⟩
    obtain ⟨b, off, rfl, hblt, hat⟩ := row_at kNd HR.out hx hlt
    obtain ⟨b', off', rfl, hblt', hat'⟩ := row_at kNd HR'.out hx hlt
    have HAT := Lib.hid hat
    have HAT' := Lib.hid hat'
    obtain ⟨nop, na, nb, nk, nn, ns, nm, hxe⟩ : ∃ nop na nb nk nn ns nm, encNd x = [.int .i64 nop, .int .i64 na, .int .i64 nb, .int .i64 nk, .int .i64 nn, .string ns, .string nm] := ⟨_, _, _, _, _, _, _, rfl⟩
    rw [hxe] at HAT HAT'
    have D := fun w' (h : Below wr.heap.size wr.drew w') => (show w'.cell? ⟨b, off + i * 7, none⟩ = some (.int .i64 nop) ∧ w'.cell? ⟨b, off + i * 7 + 1, none⟩ = some (.int .i64 na) ∧ w'.cell? ⟨b, off + i * 7 + 2, none⟩ = some (.int .i64 nb) ∧ w'.cell? ⟨b, off + i * 7 + 3, none⟩ = some (.int .i64 nk) ∧ w'.cell? ⟨b, off + i * 7 + 4, none⟩ = some (.int .i64 nn) ∧ w'.cell? ⟨b, off + i * 7 + 5, none⟩ = some (.string ns) ∧ w'.cell? ⟨b, off + i * 7 + 6, none⟩ = some (.string nm) from by
      have hB := Below.trans HB.out (Below.mono (Below.trans (Below.refl _ _).drew h) HB.out.size)
      exact ⟨HAT.out 0 _ rfl w' hB, HAT.out 1 _ rfl w' hB, HAT.out 2 _ rfl w' hB, HAT.out 3 _ rfl w' hB, HAT.out 4 _ rfl w' hB, HAT.out 5 _ rfl w' hB, HAT.out 6 _ rfl w' hB⟩)
    have D' := fun w' (h : Below wr.heap.size wr.drew w') => (show w'.cell? ⟨b', off' + i * 7, none⟩ = some (.int .i64 nop) ∧ w'.cell? ⟨b', off' + i * 7 + 1, none⟩ = some (.int .i64 na) ∧ w'.cell? ⟨b', off' + i * 7 + 2, none⟩ = some (.int .i64 nb) ∧ w'.cell? ⟨b', off' + i * 7 + 3, none⟩ = some (.int .i64 nk) ∧ w'.cell? ⟨b', off' + i * 7 + 4, none⟩ = some (.int .i64 nn) ∧ w'.cell? ⟨b', off' + i * 7 + 5, none⟩ = some (.string ns) ∧ w'.cell? ⟨b', off' + i * 7 + 6, none⟩ = some (.string nm) from by
      have hB := Below.trans HB.out (Below.mono (Below.trans (Below.refl _ _).drew h) HB.out.size)
      exact ⟨HAT'.out 0 _ rfl w' hB, HAT'.out 1 _ rfl w' hB, HAT'.out 2 _ rfl w' hB, HAT'.out 3 _ rfl w' hB, HAT'.out 4 _ rfl w' hB, HAT'.out 5 _ rfl w' hB, HAT'.out 6 _ rfl w' hB⟩)
    have hne := neqNd nop na nb nk nn ns nm
    have hmg := guardNd
    clear hat hat' hxe hx
    --ONE
    go_upto_region 6 with fail
    refine wp_region_one [(0, true), (1, true), (2, true), (3, true), (4, true), (5, true), (6, true), (7, true), (8, true)] (by kernel_rfl) (by kernel_rfl) (by kernel_rfl) (by decide) ?_
    repeat ((with_reducible show wpPerm _ _ _ _ ((_, true) :: _) _ _); (first | (refine wpPerm_on (v := ?_) rfl rfl (wanted_free rfl) (fun w' hS => ?_) ?_; rotate_left; (focus (go_simp; (try with_reducible rfl); done)); try simp only [List.setIfInBounds_toArray, List.set_cons_zero, List.set_cons_succ]) | (refine wpPerm_on (v := ?_) rfl rfl (wanted_yes rfl rfl rfl) (fun w' hS => ?_) ?_; rotate_left; (focus (go_simp; (try with_reducible rfl); done)); try simp only [List.setIfInBounds_toArray, List.set_cons_zero, List.set_cons_succ]) | (refine wpPerm_off rfl rfl (wanted_no rfl rfl rfl) ?_; try simp only [List.setIfInBounds_toArray, List.set_cons_zero, List.set_cons_succ]) | (refine wpPerm_off rfl rfl (wanted_undef rfl rfl rfl) ?_; try simp only [List.setIfInBounds_toArray, List.set_cons_zero, List.set_cons_succ])))
    --TWO
    refine wpPerm_done ?_
    clear D D' hne hmg
    have HB2 := Lib.hid (show Below w.heap.size w wr.drew from HB.out.drew)
    go_wp2
    go_roundw
    case rel => exact ⟨i + 1, by go_num, by omega, HB2⟩
    case measure => simp [intOf]; omega
set_option maxRecDepth 1000000 in
set_option maxHeartbeats 4000000 in
theorem sameSc_ (sn : ByteArray) (cols : List Cl) (key : Int) (only : Bool) (A A' : Option Addr) (n c c' : Nat) (w : World) (hl : cols.length = n) (hn : n ≤ 9223372036854775807) (hr : Row w 0 A n c (flatK encC cols)) (hr' : Row w 0 A' n c' (flatK encC cols)) :
    Calls Tryz.prog 16 #[.agg #[.string sn, .slice A n c, .int .i64 key, .bool only], .agg #[.string sn, .slice A' n c', .int .i64 key, .bool only]] w fun e w' => e = .returned (.bool true) ∧ Below w.heap.size w w' := by
  have HL := Lib.hid hl
  have HR := Lib.hid hr
  have HR' := Lib.hid hr'
  clear hl hr hr'
  go_enter Tryz.func16, Tryz.ntmps16
  go_upto_region 1 with fail
  obtain ⟨W1, hW_, hb1, B1, B2⟩ : ∃ W_, W_ = ((w.alloc (.cells #[.string sn, .slice A n c, .int .i64 key, .bool only] 28)).alloc (.cells #[.string sn, .slice A' n c', .int .i64 key, .bool only] 28)) ∧ Below w.heap.size w W_ ∧ Blk W_ (w.heap.size) 28 #[.string sn, .slice A n c, .int .i64 key, .bool only] ∧ Blk W_ (w.heap.size + 1) 28 #[.string sn, .slice A' n c', .int .i64 key, .bool only] :=
    ⟨_, rfl, (((Below.refl _ _).alloc (Nat.le_refl _) _).alloc (by simp; try omega) _), ((blk_new_at w (w.heap.size) _ _ (by simp)).alloc _), (blk_new_at (w.alloc (.cells #[.string sn, .slice A n c, .int .i64 key, .bool only] 28)) (w.heap.size + 1) _ _ (by simp))⟩
  rw [← hW_]
  clear hW_
  have HB1 := Lib.hid hb1
  have HX1 := Lib.hid B1
  have HX2 := Lib.hid B2
  have HR1 := Lib.hid (HR.out.ext hb1)
  have HR1' := Lib.hid (HR'.out.ext hb1)
  have l1 := B1.lt
  have l2 := B2.lt
  have q10 := B1.cell 0
  have q11 := B1.cell 1
  have q12 := B1.cell 2
  have q13 := B1.cell 3
  have q20 := B2.cell 0
  have q21 := B2.cell 1
  have q22 := B2.cell 2
  have q23 := B2.cell 3
  have ess : (sn.toList == sn.toList) = true := by simp
  clear hb1 B1 B2 HR HR'
  simp only [List.getElem?_toArray, List.getElem?_cons_zero, List.getElem?_cons_succ] at q10 q11 q12 q13 q20 q21 q22 q23
  --SC1
  go_wp2_with fail
  clear q10 q11 q12 q13 q20 q21 q22 q23 ess
  go_loopw [5] (fun iv wr => ∃ i : Nat, iv = .int .i64 i ∧ i ≤ n ∧ Hid (Below W1.heap.size W1 wr)) (fun iv _ => n - (intOf iv).toNat)
  case atStart => exact ⟨0, rfl, by omega, Lib.hid (Below.refl _ _)⟩
  case round =>
    obtain ⟨i, rfl, hin, HB⟩ := hrel
    have q11 : wr.cell? ⟨w.heap.size, 1, none⟩ = some (.slice A n c) := (HB.out.cell (by simpa using l1)).trans (HX1.out.cell 1)
    rcases Nat.lt_or_ge i n with hlt | hge
    case inr =>
      have c1 : decide ((i : Int) < (n : Int)) = false := by simp; omega
      have HBZ := Lib.hid (bch0 HB1.out HB.out)
      go_wp2
      go_ret
      exact ⟨rfl, HBZ.out⟩
    have c1 : decide ((i : Int) < (n : Int)) = true := by simp; omega
    have c2 : (i : Int) < (n : Int) := by omega
    obtain ⟨x, hx⟩ : ∃ x, cols[i]? = some x := ⟨_, List.getElem?_eq_getElem (by have := HL.out; omega)⟩
    obtain ⟨b, off, rfl, hblt, hat⟩ := row_at kC HR1.out hx hlt
    obtain ⟨b', off', rfl, hblt', hat'⟩ := row_at kC HR1'.out hx hlt
    have HAT := Lib.hid hat
    have HAT' := Lib.hid hat'
    obtain ⟨xs, xk, xn, hxe⟩ : ∃ xs xk xn, encC x = [.string xs, .int .i64 xk, .bool xn] := ⟨_, _, _, rfl⟩
    rw [hxe] at HAT HAT'
    have D := fun w' (h : Below wr.heap.size wr.drew w') => (show w'.cell? ⟨b, off + i * 3, none⟩ = some (.string xs) ∧ w'.cell? ⟨b, off + i * 3 + 1, none⟩ = some (.int .i64 xk) ∧ w'.cell? ⟨b, off + i * 3 + 2, none⟩ = some (.bool xn) ∧ w'.cell? ⟨b', off' + i * 3, none⟩ = some (.string xs) ∧ w'.cell? ⟨b', off' + i * 3 + 1, none⟩ = some (.int .i64 xk) ∧ w'.cell? ⟨b', off' + i * 3 + 2, none⟩ = some (.bool xn) ∧ w'.cell? ⟨w.heap.size, 1, none⟩ = some (.slice (some ⟨b, off, none⟩) n c) ∧ w'.cell? ⟨w.heap.size + 1, 1, none⟩ = some (.slice (some ⟨b', off', none⟩) n c') from by
      have hB := Below.trans HB.out (Below.mono (Below.trans (Below.refl _ _).drew h) HB.out.size)
      exact ⟨HAT.out 0 _ rfl w' hB, HAT.out 1 _ rfl w' hB, HAT.out 2 _ rfl w' hB, HAT'.out 0 _ rfl w' hB, HAT'.out 1 _ rfl w' hB, HAT'.out 2 _ rfl w' hB, (hB.cell (by simpa using l1)).trans (HX1.out.cell 1), (hB.cell (by simpa using l2)).trans (HX2.out.cell 1)⟩)
    have hne := neqCl xs xk xn
    have hmg := guardCl
    clear hat hat' hxe hx
    go_upto_region 6 with fail
    refine wp_region_one [(0, true), (1, true), (2, true), (3, true), (4, true), (5, true), (6, true), (7, true), (8, true), (9, true), (10, true)] (by kernel_rfl) (by kernel_rfl) (by kernel_rfl) (by decide) ?_
    repeat ((with_reducible show wpPerm _ _ _ _ ((_, true) :: _) _ _); (first | (refine wpPerm_on (v := ?_) rfl rfl (wanted_free rfl) (fun w' hS => ?_) ?_; rotate_left; (focus (go_simp; (try with_reducible rfl); done)); try simp only [List.setIfInBounds_toArray, List.set_cons_zero, List.set_cons_succ]) | (refine wpPerm_on (v := ?_) rfl rfl (wanted_yes rfl rfl rfl) (fun w' hS => ?_) ?_; rotate_left; (focus (go_simp; (try with_reducible rfl); done)); try simp only [List.setIfInBounds_toArray, List.set_cons_zero, List.set_cons_succ]) | (refine wpPerm_off rfl rfl (wanted_no rfl rfl rfl) ?_; try simp only [List.setIfInBounds_toArray, List.set_cons_zero, List.set_cons_succ]) | (refine wpPerm_off rfl rfl (wanted_undef rfl rfl rfl) ?_; try simp only [List.setIfInBounds_toArray, List.set_cons_zero, List.set_cons_succ])))
    refine wpPerm_done ?_
    clear D hne hmg q11
    have HB2 := Lib.hid (show Below W1.heap.size W1 wr.drew from HB.out.drew)
    go_wp2
    go_roundw
    case rel => exact ⟨i + 1, by go_num, by omega, HB2⟩
    case measure => simp [intOf]; omega
theorem cls_row {w : World} {A : Option Addr} {n c : Nat} {l : List Cl} (hl : l.length = n) (h : ClsO w (.slice A n c) l) : Row w 0 A n c (flatK encC l) := by
  unfold ClsO at h
  rw [hl] at h
  exact Row.of_own h
theorem ex_row {w : World} {A : Option Addr} {n c : Nat} {l : List Nd} (hl : l.length = n) (h : ExO w (.slice A n c) l) : Row w 0 A n c (flatK encNd l) := by
  unfold ExO at h
  rw [hl] at h
  exact Row.of_own h
theorem nms_row {w : World} {A : Option Addr} {n c : Nat} {l : List (List UInt8)} (hl : l.length = n) (h : NmsO w (.slice A n c) l) : Row w 0 A n c (flatK encS l) := by
  unfold NmsO at h
  rw [hl] at h
  exact Row.of_own h
theorem own_max {w : World} {base size m n c : Nat} {e : TypeId} {A : Option Addr} {xs : List Value} (h : w.ownsRow base e size (.slice A n c) m xs) : n ≤ 9223372036854775807 := by
  rcases h.2 with ⟨h1, _⟩ | ⟨g, cap, cur, h1, _, _, h2, h3, _⟩
  · injection h1 with _ h1 _
    omega
  · injection h1 with _ h1 _
    unfold maxLen at h3
    omega
theorem kS (x : List UInt8) : (encS x).length = 1 := rfl
theorem kI2 (x : Int × Value) : (encI x).length = 2 := rfl
theorem kV (x : Value) : ([x] : List Value).length = 1 := rfl
theorem flatV (l : List Value) : flatK (fun x => [x]) l = l := by
  induction l with
  | nil => rfl
  | cons a r ih => simp only [flatK] at ih ⊢; simp
set_option maxRecDepth 1000000 in
set_option maxHeartbeats 16000000 in
theorem same0_ (cols : List Cl) (on wh : List Nd) (nms : List (List UInt8)) (hs hs' : List Value) (ks ks' : List (Int × Value)) (Ac Ac' : Option Addr) (lc cc cc' : Nat) (Ao Ao' : Option Addr) (lo co co' : Nat) (An An' : Option Addr) (ln cn cn' : Nat) (Ae Ae' : Option Addr) (le ce ce' : Nat) (Ai Ai' : Option Addr) (li ci ci' : Nat) (Ah Ah' : Option Addr) (lh ch ch' : Nat) (xk xkey xlm : Int) (xonly xds : Bool) (xsn xtb xjn xgr xod xnm : ByteArray) (w : World)
    (hlc : cols.length = lc) (hlo : on.length = lo) (hlh : wh.length = lh) (hln : nms.length = ln) (hle : hs.length = le) (hle' : hs'.length = le) (hli : ks.length = li) (hli' : ks'.length = li)
    (mc : lc ≤ 9223372036854775807) (mo : lo ≤ 9223372036854775807) (mh : lh ≤ 9223372036854775807) (mn : ln ≤ 9223372036854775807) (me : le ≤ 9223372036854775807) (mi : li ≤ 9223372036854775807)
    (h1 : Row w 0 Ac lc cc (flatK encC cols)) (h1' : Row w 0 Ac' lc cc' (flatK encC cols)) (h2 : Row w 0 Ao lo co (flatK encNd on)) (h2' : Row w 0 Ao' lo co' (flatK encNd on)) (h3 : Row w 0 Ah lh ch (flatK encNd wh)) (h3' : Row w 0 Ah' lh ch' (flatK encNd wh))
    (h4 : Row w 0 An ln cn (flatK encS nms)) (h4' : Row w 0 An' ln cn' (flatK encS nms)) (h5 : Row w 0 Ae le ce (flatK (fun x => [x]) hs)) (h5' : Row w 0 Ae' le ce' (flatK (fun x => [x]) hs')) (h6 : Row w 0 Ai li ci (flatK encI ks)) (h6' : Row w 0 Ai' li ci' (flatK encI ks'))
    (k5 : ∀ (i : Nat) h h', hs[i]? = some h → hs'[i]? = some h' → ∃ e A n c A' c', h = .slice A n c ∧ h' = .slice A' n c' ∧ (e : List Nd).length = n ∧ n ≤ 9223372036854775807 ∧ Row w 0 A n c (flatK encNd e) ∧ Row w 0 A' n c' (flatK encNd e)) (k6 : ∀ (i : Nat) h h', ks[i]? = some h → ks'[i]? = some h' → h.1 = h'.1 ∧ ∃ e A n c A' c', h.2 = .slice A n c ∧ h'.2 = .slice A' n c' ∧ (e : List Nd).length = n ∧ n ≤ 9223372036854775807 ∧ Row w 0 A n c (flatK encNd e) ∧ Row w 0 A' n c' (flatK encNd e)) :
    Calls Tryz.prog 8 #[.agg #[.int .i64 xk, .string xsn, .slice Ac lc cc, .int .i64 xkey, .bool xonly, .string xtb, .string xjn, .slice Ao lo co, .slice An ln cn, .slice Ae le ce, .slice Ai li ci, .slice Ah lh ch, .string xgr, .string xod, .bool xds, .int .i64 xlm, .string xnm], .agg #[.int .i64 xk, .string xsn, .slice Ac' lc cc', .int .i64 xkey, .bool xonly, .string xtb, .string xjn, .slice Ao' lo co', .slice An' ln cn', .slice Ae' le ce', .slice Ai' li ci', .slice Ah' lh ch', .string xgr, .string xod, .bool xds, .int .i64 xlm, .string xnm]] w fun e w' => e = .returned (.bool true) ∧ Below w.heap.size w w' := by
  have es0 : (xtb.toList == xtb.toList) = true := by simp
  have es1 : (xjn.toList == xjn.toList) = true := by simp
  have es2 : (xgr.toList == xgr.toList) = true := by simp
  have es3 : (xod.toList == xod.toList) = true := by simp
  have es4 : (xnm.toList == xnm.toList) = true := by simp
  have HLC := Lib.hid (fun W (hb : Below w.heap.size w W) => sameSc_ xsn cols xkey xonly Ac Ac' lc cc cc' W hlc mc (h1.ext hb) (h1'.ext hb))
  have HLO := Lib.hid (fun W (hb : Below w.heap.size w W) => sameExpr_ on Ao Ao' lo co co' W hlo mo (h2.ext hb) (h2'.ext hb))
  have HLH := Lib.hid (fun W (hb : Below w.heap.size w W) => sameExpr_ wh Ah Ah' lh ch ch' W hlh mh (h3.ext hb) (h3'.ext hb))
  have LN := Lib.hid hln
  have LE := Lib.hid hle
  have LE' := Lib.hid hle'
  have LI := Lib.hid hli
  have LI' := Lib.hid hli'
  have RN := Lib.hid h4
  have RN' := Lib.hid h4'
  have RE := Lib.hid h5
  have RE' := Lib.hid h5'
  have RI := Lib.hid h6
  have RI' := Lib.hid h6'
  have K5 := Lib.hid k5
  have K6 := Lib.hid k6
  clear h1 h1' h2 h2' h3 h3' h4 h4' h5 h5' h6 h6' hlc hlo hlh hln hle hli hle' hli' k5 k6 mc mo mh
  go_enter Tryz.func8, Tryz.ntmps8
  --SA1
  go_wp2_with fail
  obtain ⟨W1, hW_, hb1, B1, B2⟩ : ∃ W_, W_ = ((w.alloc (.cells #[.int .i64 xk, .string xsn, .slice Ac lc cc, .int .i64 xkey, .bool xonly, .string xtb, .string xjn, .slice Ao lo co, .slice An ln cn, .slice Ae le ce, .slice Ai li ci, .slice Ah lh ch, .string xgr, .string xod, .bool xds, .int .i64 xlm, .string xnm] 34)).alloc (.cells #[.int .i64 xk, .string xsn, .slice Ac' lc cc', .int .i64 xkey, .bool xonly, .string xtb, .string xjn, .slice Ao' lo co', .slice An' ln cn', .slice Ae' le ce', .slice Ai' li ci', .slice Ah' lh ch', .string xgr, .string xod, .bool xds, .int .i64 xlm, .string xnm] 34)) ∧ Below w.heap.size w W_ ∧ Blk W_ (w.heap.size) 34 #[.int .i64 xk, .string xsn, .slice Ac lc cc, .int .i64 xkey, .bool xonly, .string xtb, .string xjn, .slice Ao lo co, .slice An ln cn, .slice Ae le ce, .slice Ai li ci, .slice Ah lh ch, .string xgr, .string xod, .bool xds, .int .i64 xlm, .string xnm] ∧ Blk W_ (w.heap.size + 1) 34 #[.int .i64 xk, .string xsn, .slice Ac' lc cc', .int .i64 xkey, .bool xonly, .string xtb, .string xjn, .slice Ao' lo co', .slice An' ln cn', .slice Ae' le ce', .slice Ai' li ci', .slice Ah' lh ch', .string xgr, .string xod, .bool xds, .int .i64 xlm, .string xnm] :=
    ⟨_, rfl, (((Below.refl _ _).alloc (Nat.le_refl _) _).alloc (by simp; try omega) _), ((blk_new_at w (w.heap.size) _ _ (by simp)).alloc _), (blk_new_at (w.alloc (.cells #[.int .i64 xk, .string xsn, .slice Ac lc cc, .int .i64 xkey, .bool xonly, .string xtb, .string xjn, .slice Ao lo co, .slice An ln cn, .slice Ae le ce, .slice Ai li ci, .slice Ah lh ch, .string xgr, .string xod, .bool xds, .int .i64 xlm, .string xnm] 34)) (w.heap.size + 1) _ _ (by simp))⟩
  rw [← hW_]
  clear hW_
  have HB1 := Lib.hid hb1
  have HX1 := Lib.hid B1
  have HX2 := Lib.hid B2
  have l1 := B1.lt
  have l2 := B2.lt
  clear hb1 B1 B2
  refine (HLC.out _ HB1.out).mono ?_
  rintro e w2 ⟨rfl, hb2⟩
  have HB2 := Lib.hid hb2
  clear hb2 HLC
  have q0 : w2.cell? ⟨w.heap.size, 0, none⟩ = _ := ((HB2.out).cell (by simpa using l1)).trans (HX1.out.cell 0)
  have r0 : w2.cell? ⟨w.heap.size + 1, 0, none⟩ = _ := ((HB2.out).cell (by simpa using l2)).trans (HX2.out.cell 0)
  have q1 : w2.cell? ⟨w.heap.size, 1, none⟩ = _ := ((HB2.out).cell (by simpa using l1)).trans (HX1.out.cell 1)
  have r1 : w2.cell? ⟨w.heap.size + 1, 1, none⟩ = _ := ((HB2.out).cell (by simpa using l2)).trans (HX2.out.cell 1)
  have q2 : w2.cell? ⟨w.heap.size, 2, none⟩ = _ := ((HB2.out).cell (by simpa using l1)).trans (HX1.out.cell 2)
  have r2 : w2.cell? ⟨w.heap.size + 1, 2, none⟩ = _ := ((HB2.out).cell (by simpa using l2)).trans (HX2.out.cell 2)
  have q3 : w2.cell? ⟨w.heap.size, 3, none⟩ = _ := ((HB2.out).cell (by simpa using l1)).trans (HX1.out.cell 3)
  have r3 : w2.cell? ⟨w.heap.size + 1, 3, none⟩ = _ := ((HB2.out).cell (by simpa using l2)).trans (HX2.out.cell 3)
  have q4 : w2.cell? ⟨w.heap.size, 4, none⟩ = _ := ((HB2.out).cell (by simpa using l1)).trans (HX1.out.cell 4)
  have r4 : w2.cell? ⟨w.heap.size + 1, 4, none⟩ = _ := ((HB2.out).cell (by simpa using l2)).trans (HX2.out.cell 4)
  have q5 : w2.cell? ⟨w.heap.size, 5, none⟩ = _ := ((HB2.out).cell (by simpa using l1)).trans (HX1.out.cell 5)
  have r5 : w2.cell? ⟨w.heap.size + 1, 5, none⟩ = _ := ((HB2.out).cell (by simpa using l2)).trans (HX2.out.cell 5)
  have q6 : w2.cell? ⟨w.heap.size, 6, none⟩ = _ := ((HB2.out).cell (by simpa using l1)).trans (HX1.out.cell 6)
  have r6 : w2.cell? ⟨w.heap.size + 1, 6, none⟩ = _ := ((HB2.out).cell (by simpa using l2)).trans (HX2.out.cell 6)
  have q7 : w2.cell? ⟨w.heap.size, 7, none⟩ = _ := ((HB2.out).cell (by simpa using l1)).trans (HX1.out.cell 7)
  have r7 : w2.cell? ⟨w.heap.size + 1, 7, none⟩ = _ := ((HB2.out).cell (by simpa using l2)).trans (HX2.out.cell 7)
  have q8 : w2.cell? ⟨w.heap.size, 8, none⟩ = _ := ((HB2.out).cell (by simpa using l1)).trans (HX1.out.cell 8)
  have r8 : w2.cell? ⟨w.heap.size + 1, 8, none⟩ = _ := ((HB2.out).cell (by simpa using l2)).trans (HX2.out.cell 8)
  have q9 : w2.cell? ⟨w.heap.size, 9, none⟩ = _ := ((HB2.out).cell (by simpa using l1)).trans (HX1.out.cell 9)
  have r9 : w2.cell? ⟨w.heap.size + 1, 9, none⟩ = _ := ((HB2.out).cell (by simpa using l2)).trans (HX2.out.cell 9)
  have q10 : w2.cell? ⟨w.heap.size, 10, none⟩ = _ := ((HB2.out).cell (by simpa using l1)).trans (HX1.out.cell 10)
  have r10 : w2.cell? ⟨w.heap.size + 1, 10, none⟩ = _ := ((HB2.out).cell (by simpa using l2)).trans (HX2.out.cell 10)
  have q11 : w2.cell? ⟨w.heap.size, 11, none⟩ = _ := ((HB2.out).cell (by simpa using l1)).trans (HX1.out.cell 11)
  have r11 : w2.cell? ⟨w.heap.size + 1, 11, none⟩ = _ := ((HB2.out).cell (by simpa using l2)).trans (HX2.out.cell 11)
  have q12 : w2.cell? ⟨w.heap.size, 12, none⟩ = _ := ((HB2.out).cell (by simpa using l1)).trans (HX1.out.cell 12)
  have r12 : w2.cell? ⟨w.heap.size + 1, 12, none⟩ = _ := ((HB2.out).cell (by simpa using l2)).trans (HX2.out.cell 12)
  have q13 : w2.cell? ⟨w.heap.size, 13, none⟩ = _ := ((HB2.out).cell (by simpa using l1)).trans (HX1.out.cell 13)
  have r13 : w2.cell? ⟨w.heap.size + 1, 13, none⟩ = _ := ((HB2.out).cell (by simpa using l2)).trans (HX2.out.cell 13)
  have q14 : w2.cell? ⟨w.heap.size, 14, none⟩ = _ := ((HB2.out).cell (by simpa using l1)).trans (HX1.out.cell 14)
  have r14 : w2.cell? ⟨w.heap.size + 1, 14, none⟩ = _ := ((HB2.out).cell (by simpa using l2)).trans (HX2.out.cell 14)
  have q15 : w2.cell? ⟨w.heap.size, 15, none⟩ = _ := ((HB2.out).cell (by simpa using l1)).trans (HX1.out.cell 15)
  have r15 : w2.cell? ⟨w.heap.size + 1, 15, none⟩ = _ := ((HB2.out).cell (by simpa using l2)).trans (HX2.out.cell 15)
  have q16 : w2.cell? ⟨w.heap.size, 16, none⟩ = _ := ((HB2.out).cell (by simpa using l1)).trans (HX1.out.cell 16)
  have r16 : w2.cell? ⟨w.heap.size + 1, 16, none⟩ = _ := ((HB2.out).cell (by simpa using l2)).trans (HX2.out.cell 16)
  simp only [List.getElem?_toArray, List.getElem?_cons_zero, List.getElem?_cons_succ] at q0 r0 q1 r1 q2 r2 q3 r3 q4 r4 q5 r5 q6 r6 q7 r7 q8 r8 q9 r9 q10 r10 q11 r11 q12 r12 q13 r13 q14 r14 q15 r15 q16 r16
  --SA2
  go_wp2_with fail
  clear q0 r0 q1 r1 q2 r2 q3 r3 q4 r4 q5 r5 q6 r6 q7 r7 q8 r8 q9 r9 q10 r10 q11 r11 q12 r12 q13 r13 q14 r14 q15 r15 q16 r16
  refine (HLO.out _ (bch0 HB1.out HB2.out)).mono ?_
  rintro e w3 ⟨rfl, hb3⟩
  have HB3 := Lib.hid (bch0 HB2.out hb3)
  clear hb3 HLO HB2
  have q0 : w3.cell? ⟨w.heap.size, 0, none⟩ = _ := ((HB3.out).cell (by simpa using l1)).trans (HX1.out.cell 0)
  have r0 : w3.cell? ⟨w.heap.size + 1, 0, none⟩ = _ := ((HB3.out).cell (by simpa using l2)).trans (HX2.out.cell 0)
  have q1 : w3.cell? ⟨w.heap.size, 1, none⟩ = _ := ((HB3.out).cell (by simpa using l1)).trans (HX1.out.cell 1)
  have r1 : w3.cell? ⟨w.heap.size + 1, 1, none⟩ = _ := ((HB3.out).cell (by simpa using l2)).trans (HX2.out.cell 1)
  have q2 : w3.cell? ⟨w.heap.size, 2, none⟩ = _ := ((HB3.out).cell (by simpa using l1)).trans (HX1.out.cell 2)
  have r2 : w3.cell? ⟨w.heap.size + 1, 2, none⟩ = _ := ((HB3.out).cell (by simpa using l2)).trans (HX2.out.cell 2)
  have q3 : w3.cell? ⟨w.heap.size, 3, none⟩ = _ := ((HB3.out).cell (by simpa using l1)).trans (HX1.out.cell 3)
  have r3 : w3.cell? ⟨w.heap.size + 1, 3, none⟩ = _ := ((HB3.out).cell (by simpa using l2)).trans (HX2.out.cell 3)
  have q4 : w3.cell? ⟨w.heap.size, 4, none⟩ = _ := ((HB3.out).cell (by simpa using l1)).trans (HX1.out.cell 4)
  have r4 : w3.cell? ⟨w.heap.size + 1, 4, none⟩ = _ := ((HB3.out).cell (by simpa using l2)).trans (HX2.out.cell 4)
  have q5 : w3.cell? ⟨w.heap.size, 5, none⟩ = _ := ((HB3.out).cell (by simpa using l1)).trans (HX1.out.cell 5)
  have r5 : w3.cell? ⟨w.heap.size + 1, 5, none⟩ = _ := ((HB3.out).cell (by simpa using l2)).trans (HX2.out.cell 5)
  have q6 : w3.cell? ⟨w.heap.size, 6, none⟩ = _ := ((HB3.out).cell (by simpa using l1)).trans (HX1.out.cell 6)
  have r6 : w3.cell? ⟨w.heap.size + 1, 6, none⟩ = _ := ((HB3.out).cell (by simpa using l2)).trans (HX2.out.cell 6)
  have q7 : w3.cell? ⟨w.heap.size, 7, none⟩ = _ := ((HB3.out).cell (by simpa using l1)).trans (HX1.out.cell 7)
  have r7 : w3.cell? ⟨w.heap.size + 1, 7, none⟩ = _ := ((HB3.out).cell (by simpa using l2)).trans (HX2.out.cell 7)
  have q8 : w3.cell? ⟨w.heap.size, 8, none⟩ = _ := ((HB3.out).cell (by simpa using l1)).trans (HX1.out.cell 8)
  have r8 : w3.cell? ⟨w.heap.size + 1, 8, none⟩ = _ := ((HB3.out).cell (by simpa using l2)).trans (HX2.out.cell 8)
  have q9 : w3.cell? ⟨w.heap.size, 9, none⟩ = _ := ((HB3.out).cell (by simpa using l1)).trans (HX1.out.cell 9)
  have r9 : w3.cell? ⟨w.heap.size + 1, 9, none⟩ = _ := ((HB3.out).cell (by simpa using l2)).trans (HX2.out.cell 9)
  have q10 : w3.cell? ⟨w.heap.size, 10, none⟩ = _ := ((HB3.out).cell (by simpa using l1)).trans (HX1.out.cell 10)
  have r10 : w3.cell? ⟨w.heap.size + 1, 10, none⟩ = _ := ((HB3.out).cell (by simpa using l2)).trans (HX2.out.cell 10)
  have q11 : w3.cell? ⟨w.heap.size, 11, none⟩ = _ := ((HB3.out).cell (by simpa using l1)).trans (HX1.out.cell 11)
  have r11 : w3.cell? ⟨w.heap.size + 1, 11, none⟩ = _ := ((HB3.out).cell (by simpa using l2)).trans (HX2.out.cell 11)
  have q12 : w3.cell? ⟨w.heap.size, 12, none⟩ = _ := ((HB3.out).cell (by simpa using l1)).trans (HX1.out.cell 12)
  have r12 : w3.cell? ⟨w.heap.size + 1, 12, none⟩ = _ := ((HB3.out).cell (by simpa using l2)).trans (HX2.out.cell 12)
  have q13 : w3.cell? ⟨w.heap.size, 13, none⟩ = _ := ((HB3.out).cell (by simpa using l1)).trans (HX1.out.cell 13)
  have r13 : w3.cell? ⟨w.heap.size + 1, 13, none⟩ = _ := ((HB3.out).cell (by simpa using l2)).trans (HX2.out.cell 13)
  have q14 : w3.cell? ⟨w.heap.size, 14, none⟩ = _ := ((HB3.out).cell (by simpa using l1)).trans (HX1.out.cell 14)
  have r14 : w3.cell? ⟨w.heap.size + 1, 14, none⟩ = _ := ((HB3.out).cell (by simpa using l2)).trans (HX2.out.cell 14)
  have q15 : w3.cell? ⟨w.heap.size, 15, none⟩ = _ := ((HB3.out).cell (by simpa using l1)).trans (HX1.out.cell 15)
  have r15 : w3.cell? ⟨w.heap.size + 1, 15, none⟩ = _ := ((HB3.out).cell (by simpa using l2)).trans (HX2.out.cell 15)
  have q16 : w3.cell? ⟨w.heap.size, 16, none⟩ = _ := ((HB3.out).cell (by simpa using l1)).trans (HX1.out.cell 16)
  have r16 : w3.cell? ⟨w.heap.size + 1, 16, none⟩ = _ := ((HB3.out).cell (by simpa using l2)).trans (HX2.out.cell 16)
  simp only [List.getElem?_toArray, List.getElem?_cons_zero, List.getElem?_cons_succ] at q0 r0 q1 r1 q2 r2 q3 r3 q4 r4 q5 r5 q6 r6 q7 r7 q8 r8 q9 r9 q10 r10 q11 r11 q12 r12 q13 r13 q14 r14 q15 r15 q16 r16
  go_wp2_with fail
  clear q0 r0 q1 r1 q2 r2 q3 r3 q4 r4 q5 r5 q6 r6 q7 r7 q8 r8 q9 r9 q10 r10 q11 r11 q12 r12 q13 r13 q14 r14 q15 r15 q16 r16
  refine (HLH.out _ (bch0 HB1.out HB3.out)).mono ?_
  rintro e w4 ⟨rfl, hb4⟩
  have HB4 := Lib.hid (bch0 HB3.out hb4)
  clear hb4 HLH HB3
  have q0 : w4.cell? ⟨w.heap.size, 0, none⟩ = _ := ((HB4.out).cell (by simpa using l1)).trans (HX1.out.cell 0)
  have r0 : w4.cell? ⟨w.heap.size + 1, 0, none⟩ = _ := ((HB4.out).cell (by simpa using l2)).trans (HX2.out.cell 0)
  have q1 : w4.cell? ⟨w.heap.size, 1, none⟩ = _ := ((HB4.out).cell (by simpa using l1)).trans (HX1.out.cell 1)
  have r1 : w4.cell? ⟨w.heap.size + 1, 1, none⟩ = _ := ((HB4.out).cell (by simpa using l2)).trans (HX2.out.cell 1)
  have q2 : w4.cell? ⟨w.heap.size, 2, none⟩ = _ := ((HB4.out).cell (by simpa using l1)).trans (HX1.out.cell 2)
  have r2 : w4.cell? ⟨w.heap.size + 1, 2, none⟩ = _ := ((HB4.out).cell (by simpa using l2)).trans (HX2.out.cell 2)
  have q3 : w4.cell? ⟨w.heap.size, 3, none⟩ = _ := ((HB4.out).cell (by simpa using l1)).trans (HX1.out.cell 3)
  have r3 : w4.cell? ⟨w.heap.size + 1, 3, none⟩ = _ := ((HB4.out).cell (by simpa using l2)).trans (HX2.out.cell 3)
  have q4 : w4.cell? ⟨w.heap.size, 4, none⟩ = _ := ((HB4.out).cell (by simpa using l1)).trans (HX1.out.cell 4)
  have r4 : w4.cell? ⟨w.heap.size + 1, 4, none⟩ = _ := ((HB4.out).cell (by simpa using l2)).trans (HX2.out.cell 4)
  have q5 : w4.cell? ⟨w.heap.size, 5, none⟩ = _ := ((HB4.out).cell (by simpa using l1)).trans (HX1.out.cell 5)
  have r5 : w4.cell? ⟨w.heap.size + 1, 5, none⟩ = _ := ((HB4.out).cell (by simpa using l2)).trans (HX2.out.cell 5)
  have q6 : w4.cell? ⟨w.heap.size, 6, none⟩ = _ := ((HB4.out).cell (by simpa using l1)).trans (HX1.out.cell 6)
  have r6 : w4.cell? ⟨w.heap.size + 1, 6, none⟩ = _ := ((HB4.out).cell (by simpa using l2)).trans (HX2.out.cell 6)
  have q7 : w4.cell? ⟨w.heap.size, 7, none⟩ = _ := ((HB4.out).cell (by simpa using l1)).trans (HX1.out.cell 7)
  have r7 : w4.cell? ⟨w.heap.size + 1, 7, none⟩ = _ := ((HB4.out).cell (by simpa using l2)).trans (HX2.out.cell 7)
  have q8 : w4.cell? ⟨w.heap.size, 8, none⟩ = _ := ((HB4.out).cell (by simpa using l1)).trans (HX1.out.cell 8)
  have r8 : w4.cell? ⟨w.heap.size + 1, 8, none⟩ = _ := ((HB4.out).cell (by simpa using l2)).trans (HX2.out.cell 8)
  have q9 : w4.cell? ⟨w.heap.size, 9, none⟩ = _ := ((HB4.out).cell (by simpa using l1)).trans (HX1.out.cell 9)
  have r9 : w4.cell? ⟨w.heap.size + 1, 9, none⟩ = _ := ((HB4.out).cell (by simpa using l2)).trans (HX2.out.cell 9)
  have q10 : w4.cell? ⟨w.heap.size, 10, none⟩ = _ := ((HB4.out).cell (by simpa using l1)).trans (HX1.out.cell 10)
  have r10 : w4.cell? ⟨w.heap.size + 1, 10, none⟩ = _ := ((HB4.out).cell (by simpa using l2)).trans (HX2.out.cell 10)
  have q11 : w4.cell? ⟨w.heap.size, 11, none⟩ = _ := ((HB4.out).cell (by simpa using l1)).trans (HX1.out.cell 11)
  have r11 : w4.cell? ⟨w.heap.size + 1, 11, none⟩ = _ := ((HB4.out).cell (by simpa using l2)).trans (HX2.out.cell 11)
  have q12 : w4.cell? ⟨w.heap.size, 12, none⟩ = _ := ((HB4.out).cell (by simpa using l1)).trans (HX1.out.cell 12)
  have r12 : w4.cell? ⟨w.heap.size + 1, 12, none⟩ = _ := ((HB4.out).cell (by simpa using l2)).trans (HX2.out.cell 12)
  have q13 : w4.cell? ⟨w.heap.size, 13, none⟩ = _ := ((HB4.out).cell (by simpa using l1)).trans (HX1.out.cell 13)
  have r13 : w4.cell? ⟨w.heap.size + 1, 13, none⟩ = _ := ((HB4.out).cell (by simpa using l2)).trans (HX2.out.cell 13)
  have q14 : w4.cell? ⟨w.heap.size, 14, none⟩ = _ := ((HB4.out).cell (by simpa using l1)).trans (HX1.out.cell 14)
  have r14 : w4.cell? ⟨w.heap.size + 1, 14, none⟩ = _ := ((HB4.out).cell (by simpa using l2)).trans (HX2.out.cell 14)
  have q15 : w4.cell? ⟨w.heap.size, 15, none⟩ = _ := ((HB4.out).cell (by simpa using l1)).trans (HX1.out.cell 15)
  have r15 : w4.cell? ⟨w.heap.size + 1, 15, none⟩ = _ := ((HB4.out).cell (by simpa using l2)).trans (HX2.out.cell 15)
  have q16 : w4.cell? ⟨w.heap.size, 16, none⟩ = _ := ((HB4.out).cell (by simpa using l1)).trans (HX1.out.cell 16)
  have r16 : w4.cell? ⟨w.heap.size + 1, 16, none⟩ = _ := ((HB4.out).cell (by simpa using l2)).trans (HX2.out.cell 16)
  simp only [List.getElem?_toArray, List.getElem?_cons_zero, List.getElem?_cons_succ] at q0 r0 q1 r1 q2 r2 q3 r3 q4 r4 q5 r5 q6 r6 q7 r7 q8 r8 q9 r9 q10 r10 q11 r11 q12 r12 q13 r13 q14 r14 q15 r15 q16 r16
  --SA3
  go_wp2_with fail
  clear q0 r0 q1 r1 q2 r2 q3 r3 q4 r4 q5 r5 q6 r6 q7 r7 q8 r8 q9 r9 q10 r10 q11 r11 q12 r12 q13 r13 q14 r14 q15 r15 q16 r16 es0 es1 es2 es3 es4
  generalize w4 = V at *
  --LOOP1
  go_loopw [4, 5] (fun rv iv wr => ∃ i : Nat, iv = .int .i64 i ∧ i ≤ ln ∧ Hid (Below W1.heap.size W1 wr) ∧ rv = .bool false) (fun _ iv _ => ln - (intOf iv).toNat)
  case atStart => exact ⟨0, rfl, by omega, HB4, rfl⟩
  case round =>
    clear HB4
    obtain ⟨i, rfl, hin, HB, rfl⟩ := hrel
    have q8 : wr.cell? ⟨w.heap.size, 8, none⟩ = some (.slice An ln cn) := (HB.out.cell (by simpa using l1)).trans (HX1.out.cell 8)
    rcases Nat.lt_or_ge i ln with hlt | hge
    case inl =>
      have c1 : decide ((i : Int) < (ln : Int)) = true := by simp; omega
      have c2 : (i : Int) < (ln : Int) := by omega
      obtain ⟨x, hx⟩ : ∃ x, nms[i]? = some x := ⟨_, List.getElem?_eq_getElem (by have := LN.out; omega)⟩
      obtain ⟨b, off, rfl, hblt, hat⟩ := row_at kS (RN.out.ext HB1.out) hx hlt
      obtain ⟨b', off', rfl, hblt', hat'⟩ := row_at kS (RN'.out.ext HB1.out) hx hlt
      have HAT := Lib.hid hat
      have HAT' := Lib.hid hat'
      obtain ⟨xs, hxe⟩ : ∃ xs, encS x = [.string xs] := ⟨_, rfl⟩
      rw [hxe] at HAT HAT'
      have ess : (xs.toList == xs.toList) = true := by simp
      have D := fun w' (h : Below wr.heap.size wr.drew w') => (show w'.cell? ⟨b, off + i, none⟩ = some (.string xs) ∧ w'.cell? ⟨b', off' + i, none⟩ = some (.string xs) ∧ w'.cell? ⟨w.heap.size, 8, none⟩ = some (.slice (some ⟨b, off, none⟩) ln cn) ∧ w'.cell? ⟨w.heap.size + 1, 8, none⟩ = some (.slice (some ⟨b', off', none⟩) ln cn') from by
        have hB := Below.trans HB.out (Below.mono (Below.trans (Below.refl _ _).drew h) HB.out.size)
        have e1 := HAT.out 0 _ rfl w' hB
        have e2 := HAT'.out 0 _ rfl w' hB
        rw [Nat.mul_one] at e1 e2
        exact ⟨e1, e2, (hB.cell (by simpa using l1)).trans (HX1.out.cell 8), (hB.cell (by simpa using l2)).trans (HX2.out.cell 8)⟩)
      clear hat hat' hxe hx
      go_upto_region 6 with fail
      refine wp_region_one [(0, true), (1, true), (2, true), (3, true), (4, true), (5, true), (6, true), (7, true), (8, true), (9, true), (10, true)] (by kernel_rfl) (by kernel_rfl) (by kernel_rfl) (by decide) ?_
      repeat ((with_reducible show wpPerm _ _ _ _ ((_, true) :: _) _ _); (first | (refine wpPerm_on (v := ?_) rfl rfl (wanted_free rfl) (fun w' hS => ?_) ?_; rotate_left; (focus (go_simp; (try with_reducible rfl); done)); try simp only [List.setIfInBounds_toArray, List.set_cons_zero, List.set_cons_succ]) | (refine wpPerm_on (v := ?_) rfl rfl (wanted_yes rfl rfl rfl) (fun w' hS => ?_) ?_; rotate_left; (focus (go_simp; (try with_reducible rfl); done)); try simp only [List.setIfInBounds_toArray, List.set_cons_zero, List.set_cons_succ]) | (refine wpPerm_off rfl rfl (wanted_no rfl rfl rfl) ?_; try simp only [List.setIfInBounds_toArray, List.set_cons_zero, List.set_cons_succ]) | (refine wpPerm_off rfl rfl (wanted_undef rfl rfl rfl) ?_; try simp only [List.setIfInBounds_toArray, List.set_cons_zero, List.set_cons_succ])))
      refine wpPerm_done ?_
      clear D ess q8
      have HB2 := Lib.hid (show Below W1.heap.size W1 wr.drew from HB.out.drew)
      go_wp2
      go_roundw
      case rel => exact ⟨i + 1, by go_num, by omega, HB2, by first | rfl | trivial⟩
      case measure => simp [intOf]; omega
    have c1 : decide ((i : Int) < (ln : Int)) = false := by simp; omega
    --SA4
    go_wp2_with fail
    rw [show decide (i < ln) = false by simp; omega]
    clear q8 c1
    generalize wr = V2 at *
    go_loopw [4, 6] (fun rv iv wr => ∃ i : Nat, iv = .int .i64 i ∧ i ≤ le ∧ Hid (Below W1.heap.size W1 wr) ∧ rv = .bool false) (fun _ iv _ => le - (intOf iv).toNat)
    case atStart => exact ⟨0, rfl, by omega, HB, rfl⟩
    case round =>
      clear HB
      obtain ⟨j, rfl, hjn, HB, rfl⟩ := hrel
      have q9 : wr.cell? ⟨w.heap.size, 9, none⟩ = some (.slice Ae le ce) := (HB.out.cell (by simpa using l1)).trans (HX1.out.cell 9)
      rcases Nat.lt_or_ge j le with hlt | hge
      case inl =>
        have c1 : decide ((j : Int) < (le : Int)) = true := by simp; omega
        have c2 : (j : Int) < (le : Int) := by omega
        obtain ⟨x, hx⟩ : ∃ x, hs[j]? = some x := ⟨_, List.getElem?_eq_getElem (by have := LE.out; omega)⟩
        obtain ⟨y, hy⟩ : ∃ y, hs'[j]? = some y := ⟨_, List.getElem?_eq_getElem (by have := LE'.out; omega)⟩
        obtain ⟨e, A, n, c, A', c', rfl, rfl, he, hem, hr, hr'⟩ := K5.out j x y hx hy
        obtain ⟨b, off, rfl, hblt, hat⟩ := row_at kV (RE.out.ext HB1.out) hx hlt
        obtain ⟨b', off', rfl, hblt', hat'⟩ := row_at kV (RE'.out.ext HB1.out) hy hlt
        have HE := Lib.hid (fun W (hb : Below w.heap.size w W) => sameExpr_ e A A' n c c' W he hem (hr.ext hb) (hr'.ext hb))
        have HAT := Lib.hid hat
        have HAT' := Lib.hid hat'
        have D := fun w' (h : Below wr.heap.size wr.drew w') => (show w'.cell? ⟨b, off + j, none⟩ = some (.slice A n c) ∧ w'.cell? ⟨b', off' + j, none⟩ = some (.slice A' n c') ∧ w'.cell? ⟨w.heap.size, 9, none⟩ = some (.slice (some ⟨b, off, none⟩) le ce) ∧ w'.cell? ⟨w.heap.size + 1, 9, none⟩ = some (.slice (some ⟨b', off', none⟩) le ce') from by
          have hB := Below.trans HB.out (Below.mono (Below.trans (Below.refl _ _).drew h) HB.out.size)
          have e1 := HAT.out 0 _ rfl w' hB
          have e2 := HAT'.out 0 _ rfl w' hB
          rw [Nat.mul_one] at e1 e2
          exact ⟨e1, e2, (hB.cell (by simpa using l1)).trans (HX1.out.cell 9), (hB.cell (by simpa using l2)).trans (HX2.out.cell 9)⟩)
        clear hat hat' hx hy hr hr'
        go_upto_region 11 with fail
        refine wp_region_one [(0, true), (1, true), (2, true), (3, true), (4, true), (5, true), (6, true), (7, true), (8, true), (9, true), (10, false), (11, true)] (by kernel_rfl) (by kernel_rfl) (by kernel_rfl) (by decide) ?_
        repeat ((with_reducible show wpPerm _ _ _ _ ((_, true) :: _) _ _); (first | (refine wpPerm_on (v := ?_) rfl rfl (wanted_free rfl) (fun w' hS => ?_) ?_; rotate_left; (focus (go_simp; (try with_reducible rfl); done)); try simp only [List.setIfInBounds_toArray, List.set_cons_zero, List.set_cons_succ]) | (refine wpPerm_on (v := ?_) rfl rfl (wanted_yes rfl rfl rfl) (fun w' hS => ?_) ?_; rotate_left; (focus (go_simp; (try with_reducible rfl); done)); try simp only [List.setIfInBounds_toArray, List.set_cons_zero, List.set_cons_succ]) | (refine wpPerm_off rfl rfl (wanted_no rfl rfl rfl) ?_; try simp only [List.setIfInBounds_toArray, List.set_cons_zero, List.set_cons_succ]) | (refine wpPerm_off rfl rfl (wanted_undef rfl rfl rfl) ?_; try simp only [List.setIfInBounds_toArray, List.set_cons_zero, List.set_cons_succ])))
        have hbd : Below W1.heap.size W1 wr.drew := HB.out.drew
        refine wpPerm_do rfl (wanted_free rfl) (fun K hK => ?_); go_simp
        refine (HE.out _ (bch0 HB1.out hbd)).mono ?_
        rintro e_ wa ⟨rfl, hba⟩
        have HB2 := Lib.hid (bch0 hbd hba)
        refine hK.out _ _ hba ?_
        clear hK K hba
        repeat ((with_reducible show wpPerm _ _ _ _ ((_, true) :: _) _ _); (first | (refine wpPerm_on (v := ?_) rfl rfl (wanted_free rfl) (fun w' hS => ?_) ?_; rotate_left; (focus (go_simp; (try with_reducible rfl); done)); try simp only [List.setIfInBounds_toArray, List.set_cons_zero, List.set_cons_succ]) | (refine wpPerm_on (v := ?_) rfl rfl (wanted_yes rfl rfl rfl) (fun w' hS => ?_) ?_; rotate_left; (focus (go_simp; (try with_reducible rfl); done)); try simp only [List.setIfInBounds_toArray, List.set_cons_zero, List.set_cons_succ]) | (refine wpPerm_off rfl rfl (wanted_no rfl rfl rfl) ?_; try simp only [List.setIfInBounds_toArray, List.set_cons_zero, List.set_cons_succ]) | (refine wpPerm_off rfl rfl (wanted_undef rfl rfl rfl) ?_; try simp only [List.setIfInBounds_toArray, List.set_cons_zero, List.set_cons_succ])))
        refine wpPerm_done ?_
        clear D q9 HE
        go_wp2
        go_roundw
        case rel => exact ⟨j + 1, by go_num, by omega, HB2, by first | rfl | trivial⟩
        case measure => simp [intOf]; omega
      have c1 : decide ((j : Int) < (le : Int)) = false := by simp; omega
      --SA5
      go_wp2_with fail
      rw [show decide (j < le) = false by simp; omega]
      clear q9 c1
      generalize wr = V3 at *
      go_loopw [4, 7] (fun rv iv wr => ∃ i : Nat, iv = .int .i64 i ∧ i ≤ li ∧ Hid (Below W1.heap.size W1 wr) ∧ rv = .bool false) (fun _ iv _ => li - (intOf iv).toNat)
      case atStart => exact ⟨0, rfl, by omega, HB, rfl⟩
      case round =>
        clear HB
        obtain ⟨k, rfl, hkn, HB, rfl⟩ := hrel
        have q10 : wr.cell? ⟨w.heap.size, 10, none⟩ = some (.slice Ai li ci) := (HB.out.cell (by simpa using l1)).trans (HX1.out.cell 10)
        rcases Nat.lt_or_ge k li with hlt | hge
        case inl =>
          have c1 : decide ((k : Int) < (li : Int)) = true := by simp; omega
          have c2 : (k : Int) < (li : Int) := by omega
          obtain ⟨x, hx⟩ : ∃ x, ks[k]? = some x := ⟨_, List.getElem?_eq_getElem (by have := LI.out; omega)⟩
          obtain ⟨y, hy⟩ : ∃ y, ks'[k]? = some y := ⟨_, List.getElem?_eq_getElem (by have := LI'.out; omega)⟩
          obtain ⟨e1, e, A, n, c, A', c', e2, e3, he, hem, hr, hr'⟩ := K6.out k x y hx hy
          obtain ⟨x1, x2⟩ := x
          obtain ⟨y1, y2⟩ := y
          simp only at e1 e2 e3
          subst e1 e2 e3
          obtain ⟨b, off, rfl, hblt, hat⟩ := row_at kI2 (RI.out.ext HB1.out) hx hlt
          obtain ⟨b', off', rfl, hblt', hat'⟩ := row_at kI2 (RI'.out.ext HB1.out) hy hlt
          have HE := Lib.hid (fun W (hb : Below w.heap.size w W) => sameExpr_ e A A' n c c' W he hem (hr.ext hb) (hr'.ext hb))
          have HAT := Lib.hid hat
          have HAT' := Lib.hid hat'
          have D := fun w' (h : Below wr.heap.size wr.drew w') => (show w'.cell? ⟨b, off + k * 2, none⟩ = some (.int .i64 x1) ∧ w'.cell? ⟨b', off' + k * 2, none⟩ = some (.int .i64 x1) ∧ w'.cell? ⟨b, off + k * 2 + 1, none⟩ = some (.slice A n c) ∧ w'.cell? ⟨b', off' + k * 2 + 1, none⟩ = some (.slice A' n c') ∧ w'.cell? ⟨w.heap.size, 10, none⟩ = some (.slice (some ⟨b, off, none⟩) li ci) ∧ w'.cell? ⟨w.heap.size + 1, 10, none⟩ = some (.slice (some ⟨b', off', none⟩) li ci') from by
            have hB := Below.trans HB.out (Below.mono (Below.trans (Below.refl _ _).drew h) HB.out.size)
            exact ⟨HAT.out 0 _ rfl w' hB, HAT'.out 0 _ rfl w' hB, HAT.out 1 _ rfl w' hB, HAT'.out 1 _ rfl w' hB, (hB.cell (by simpa using l1)).trans (HX1.out.cell 10), (hB.cell (by simpa using l2)).trans (HX2.out.cell 10)⟩)
          clear hat hat' hx hy hr hr'
          go_upto_region 16 with fail
          refine wp_region_one [(0, true), (1, true), (2, true), (3, true), (4, true), (5, true), (6, true), (7, true), (8, true), (9, true), (10, true), (11, true), (12, true), (13, true), (14, true), (15, true), (16, true), (17, true), (18, true), (19, true), (20, true), (21, true), (22, true), (23, true), (24, true), (25, true), (26, false), (27, true), (28, true)] (by kernel_rfl) (by kernel_rfl) (by kernel_rfl) (by decide) ?_
          repeat ((with_reducible show wpPerm _ _ _ _ ((_, true) :: _) _ _); (first | (refine wpPerm_on (v := ?_) rfl rfl (wanted_free rfl) (fun w' hS => ?_) ?_; rotate_left; (focus (go_simp; (try with_reducible rfl); done)); try simp only [List.setIfInBounds_toArray, List.set_cons_zero, List.set_cons_succ]) | (refine wpPerm_on (v := ?_) rfl rfl (wanted_yes rfl rfl rfl) (fun w' hS => ?_) ?_; rotate_left; (focus (go_simp; (try with_reducible rfl); done)); try simp only [List.setIfInBounds_toArray, List.set_cons_zero, List.set_cons_succ]) | (refine wpPerm_off rfl rfl (wanted_no rfl rfl rfl) ?_; try simp only [List.setIfInBounds_toArray, List.set_cons_zero, List.set_cons_succ]) | (refine wpPerm_off rfl rfl (wanted_undef rfl rfl rfl) ?_; try simp only [List.setIfInBounds_toArray, List.set_cons_zero, List.set_cons_succ])))
          have hbd : Below W1.heap.size W1 wr.drew := HB.out.drew
          refine wpPerm_do rfl (wanted_yes rfl rfl rfl) (fun K hK => ?_); go_simp
          refine (HE.out _ (bch0 HB1.out hbd)).mono ?_
          rintro e_ wa ⟨rfl, hba⟩
          have HB2 := Lib.hid (bch0 hbd hba)
          refine hK.out _ _ hba ?_
          clear hK K hba
          repeat ((with_reducible show wpPerm _ _ _ _ ((_, true) :: _) _ _); (first | (refine wpPerm_on (v := ?_) rfl rfl (wanted_free rfl) (fun w' hS => ?_) ?_; rotate_left; (focus (go_simp; (try with_reducible rfl); done)); try simp only [List.setIfInBounds_toArray, List.set_cons_zero, List.set_cons_succ]) | (refine wpPerm_on (v := ?_) rfl rfl (wanted_yes rfl rfl rfl) (fun w' hS => ?_) ?_; rotate_left; (focus (go_simp; (try with_reducible rfl); done)); try simp only [List.setIfInBounds_toArray, List.set_cons_zero, List.set_cons_succ]) | (refine wpPerm_off rfl rfl (wanted_no rfl rfl rfl) ?_; try simp only [List.setIfInBounds_toArray, List.set_cons_zero, List.set_cons_succ]) | (refine wpPerm_off rfl rfl (wanted_undef rfl rfl rfl) ?_; try simp only [List.setIfInBounds_toArray, List.set_cons_zero, List.set_cons_succ])))
          refine wpPerm_done ?_
          clear D q10 HE
          go_wp2
          go_roundw
          case rel => exact ⟨k + 1, by go_num, by omega, HB2, by first | rfl | trivial⟩
          case measure => simp [intOf]; omega
        have c1 : decide ((k : Int) < (li : Int)) = false := by simp; omega
        have HBZ := Lib.hid (bch0 HB1.out HB.out)
        go_wp2
        go_ret
        exact ⟨rfl, HBZ.out⟩
theorem own_at {w : World} {es : List Nd} {v v' : Value} (h : ExO w v es) (h' : ExO w v' es) : ∃ e A n c A' c', v = .slice A n c ∧ v' = .slice A' n c' ∧ (e : List Nd).length = n ∧ n ≤ 9223372036854775807 ∧ Row w 0 A n c (flatK encNd e) ∧ Row w 0 A' n c' (flatK encNd e) := by
  obtain ⟨A, c, rfl⟩ := own_sl h
  obtain ⟨A', c', rfl⟩ := own_sl h'
  exact ⟨es, A, es.length, c, A', c', rfl, rfl, rfl, own_max h, ex_row rfl h, ex_row rfl h'⟩
set_option maxRecDepth 100000 in
/-- two statements that are the same -/
theorem same_ (st : St) (v v' : Vs) (w : World) (h : StO w st v) (h' : StO w st v') :
    Calls Tryz.prog 8 #[.agg (cellsSt st v), .agg (cellsSt st v')] w fun e w' => e = .returned (.bool true) ∧ Below w.heap.size w w' := by
  obtain ⟨vc, vo, vn, ve, vi, vh⟩ := v
  obtain ⟨vc', vo', vn', ve', vi', vh'⟩ := v'
  obtain ⟨h1, h2, h3, ⟨hs, h4, h4l, h4x⟩, ⟨ks, h5, h5l, h5x⟩, h6⟩ := h
  obtain ⟨h1', h2', h3', ⟨hs', h4', h4l', h4x'⟩, ⟨ks', h5', h5l', h5x'⟩, h6'⟩ := h'
  simp only at h1 h2 h3 h4 h5 h6 h1' h2' h3' h4' h5' h6'
  obtain ⟨Ac, cc, rfl⟩ := own_sl h1
  obtain ⟨Ac', cc', rfl⟩ := own_sl h1'
  obtain ⟨Ao, co, rfl⟩ := own_sl h2
  obtain ⟨Ao', co', rfl⟩ := own_sl h2'
  obtain ⟨An, cn, rfl⟩ := own_sl h3
  obtain ⟨An', cn', rfl⟩ := own_sl h3'
  obtain ⟨Ae, ce, rfl⟩ := own_sl h4
  obtain ⟨Ae', ce', rfl⟩ := own_sl h4'
  obtain ⟨Ai, ci, rfl⟩ := own_sl h5
  obtain ⟨Ai', ci', rfl⟩ := own_sl h5'
  obtain ⟨Ah, ch, rfl⟩ := own_sl h6
  obtain ⟨Ah', ch', rfl⟩ := own_sl h6'
  refine same0_ st.cols st.on st.wh st.names hs hs' ks ks' Ac Ac' _ cc cc' Ao Ao' _ co co' An An' _ cn cn' Ae Ae' _ ce ce' Ai Ai' _ ci ci' Ah Ah' _ ch ch' st.kind st.key st.limit st.only st.desc _ _ _ _ _ _ w rfl rfl rfl rfl h4l h4l' h5l h5l' (own_max h1) (own_max h2) (own_max h6) (own_max h3) (own_max h4) (own_max h5)
    (cls_row rfl h1) (cls_row rfl h1') (ex_row rfl h2) (ex_row rfl h2') (ex_row rfl h6) (ex_row rfl h6') (nms_row rfl h3) (nms_row rfl h3')
    (by rw [flatV]; exact Row.of_own h4) (by rw [flatV]; exact Row.of_own h4') (Row.of_own h5) (Row.of_own h5') (fun i x y hx hy => ?_) (fun i x y hx hy => ?_)
  · obtain ⟨e, he⟩ : ∃ e, st.exprs[i]? = some e := ⟨_, List.getElem?_eq_getElem (by have := (List.getElem?_eq_some_iff.1 hx).1; omega)⟩
    exact own_at (h4x i x e hx he) (h4x' i y e hy he)
  · obtain ⟨e, he⟩ : ∃ e, st.items[i]? = some e := ⟨_, List.getElem?_eq_getElem (by have := (List.getElem?_eq_some_iff.1 hx).1; omega)⟩
    obtain ⟨a1, a2⟩ := h5x i x e hx he
    obtain ⟨b1, b2⟩ := h5x' i y e hy he
    exact ⟨a1.trans b1.symm, own_at a2 b2⟩
end Go.Proofs.YtfnceamkephpjaaGreat.pg
