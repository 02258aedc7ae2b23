/- Typed rows, each one's own; the document's Put over them. Printed by gen22.py. -/
import Derived.Test.YtnlmbjmgmofeiaaMF
import Derived.Test.YtnlmbjmgmofeiaaW1
namespace Go.Proofs.Ytnlmbjmgmofeiaa.ix
open Go.ChangeShapes Go.WideShapes Go.ChangeAt Go.RowKit Go.Proofs.Ytnlmbjmgmofeiaa.lib Go.Proofs.Ytnlmbjmgmofeiaa.val Go.Proofs.Ytnlmbjmgmofeiaa.tb
set_option linter.unusedVariables false

/-- rows that lie in rows of their own, of their own kinds -/
def RsO (w : World) (A : Option Addr) (n c : Nat) (rows : List (List V)) : Prop := ∃ hs, w.ownsRow 0 38 1 (.slice A n c) n hs ∧ Es w hs rows ∧ rows.length = n
theorem Es.hs {w : World} {hs : List Value} {L : List (List V)} (h : Es w hs L) : Hs w 0 hs L := ⟨h.1, fun i v r h1 h2 => by
  obtain ⟨A, c, e, ho⟩ := h.2 i v r h1 h2
  exact ⟨A, c, e, (Vs.of_own (by rw [← e]; exact ho)).base (Nat.zero_le _)⟩⟩
theorem RsO.rs {w : World} {A : Option Addr} {n c : Nat} {rows : List (List V)} (h : RsO w A n c rows) : Rs w 0 A n c rows := by
  obtain ⟨hs, ho, he, hn⟩ := h
  exact ⟨hs, Row.of_own ho, Es.hs he, hn⟩
theorem RsO.fine {w : World} {A : Option Addr} {n c : Nat} {rows : List (List V)} (h : RsO w A n c rows) : Fine A := by
  obtain ⟨hs, ho, he, hn⟩ := h
  rcases ho.2 with ⟨h, _⟩ | ⟨g, cap, cur, h, _⟩
  · injection h with h; exact .inl h
  · injection h with h; exact .inr ⟨g, 0, h⟩
theorem RsO.len {w : World} {A : Option Addr} {n c : Nat} {rows : List (List V)} (h : RsO w A n c rows) : rows.length = n := by obtain ⟨_, _, _, h⟩ := h; exact h
theorem RsO.ext {w w' : World} {A : Option Addr} {n c : Nat} {rows : List (List V)} (h : RsO w A n c rows) (hb : Below w.heap.size w w') : RsO w' A n c rows := by
  obtain ⟨hs, ho, he, hn⟩ := h
  exact ⟨hs, own_ext ho hb, he.ext hb, hn⟩
theorem RsO.blk {w w' : World} {g : Nat} {t : TypeId} {cs : Array Value} {A : Option Addr} {n c : Nat} {rows : List (List V)} (h : RsO w A n c rows) (hB : Blk w g t cs) (hg : w.grownBy w' (some g)) (h1 : 41 ≠ t) (h2 : 38 ≠ t) : RsO w' A n c rows := by
  obtain ⟨hs, ho, he, hn⟩ := h
  exact ⟨hs, ho.kept hg (own_ne_blk ho hB h2), he.blk hB hg h1, hn⟩
theorem RsO.keptX {w w' : World} {g B col key c n' c' : Nat} {ws : List Ew} {A A' : Option Addr} {rows : List (List V)} (h : RsO w A' n' c' rows) (hx : IxA w g B col key ws A c) (hk : Kept w w' g (Value.slice A ws.length c).ownBlock) : RsO w' A' n' c' rows := by
  obtain ⟨hs, ho, he, hn⟩ := h
  refine ⟨hs, hx.keeps hk ho (by decide) (by decide), ⟨he.1, fun i v r h1 h2 => ?_⟩, hn⟩
  obtain ⟨A, c, e, ho⟩ := he.2 i v r h1 h2
  exact ⟨A, c, e, hx.keeps hk ho (by decide) (by decide)⟩
theorem RsO.nil (w : World) : RsO w none 0 0 [] := ⟨[], World.ownsRow_nil _ _ _ _, Es.nil _, rfl⟩
theorem RsO.later {w w2 w' : World} {g n c : Nat} {A : Option Addr} {rows : List (List V)} (h : RsO w A n c rows) (hw : Below w.heap.size w w2) (hg : w2.grownBy w' (some g)) (hB : w.heap.size ≤ g) : RsO w' A n c rows :=
  h.ext (hw.grown hg hw.size (fun b hb => by injection hb with hb; omega))
theorem Es.take {w : World} {hs : List Value} {L : List (List V)} (h : Es w hs L) (k : Nat) : Es w (hs.take k) (L.take k) := ⟨by simp [h.1], fun i v r h1 h2 => by
  rw [List.getElem?_take] at h1 h2
  split at h1
  · next hi => rw [if_pos hi] at h2; exact h.2 i v r h1 h2
  · cases h1⟩
theorem Es.drop {w : World} {hs : List Value} {L : List (List V)} (h : Es w hs L) (k : Nat) : Es w (hs.drop k) (L.drop k) := ⟨by simp [h.1], fun i v r h1 h2 => by
  rw [List.getElem?_drop] at h1 h2
  exact h.2 _ v r h1 h2⟩
theorem Es.append {w : World} {hs hs' : List Value} {L L' : List (List V)} (h : Es w hs L) (h' : Es w hs' L') : Es w (hs ++ hs') (L ++ L') := ⟨by simp [h.1, h'.1], fun i v r h1 h2 => by
  rcases Nat.lt_or_ge i hs.length with hi | hi
  · rw [List.getElem?_append_left hi] at h1
    rw [List.getElem?_append_left (by rw [← h.1]; exact hi)] at h2
    exact h.2 i v r h1 h2
  · rw [List.getElem?_append_right hi] at h1
    rw [List.getElem?_append_right (by rw [← h.1]; exact hi), ← h.1] at h2
    exact h'.2 _ v r h1 h2⟩
theorem put_holdO {w wz : World} {hs : List Value} {rows : List (List V)} {r : List V} {k m n10 c8 c10 B B8 : Nat} {A8 A10 : Option Addr} (hes : Es w hs rows) (hbz : Below w.heap.size w wz)
    {X : List Value} (hX : X = hs.take k ++ [.slice A8 m c8] ++ hs.drop k) (hO : wz.ownsRow B 38 1 (.slice A10 n10 c10) n10 X) (hV : wz.ownsRow B8 41 3 (.slice A8 m c8) m (cellsV r)) :
    RsO wz A10 n10 c10 (rows.take k ++ r :: rows.drop k) := by
  subst hX
  have hl := hO.1
  have hh := hes.ext hbz
  have h3 := hh.1
  refine ⟨_, own_lo hO, ?_, ?_⟩
  · have := Es.append (Es.snoc (Es.take hh k) hV) (Es.drop hh k)
    simpa using this
  · simp only [List.length_append, List.length_take, List.length_drop, List.length_cons, List.length_nil, Nat.mul_one] at hl ⊢
    omega
theorem take_holdO {w wz : World} {hs : List Value} {rows : List (List V)} {k n10 c10 B : Nat} {A10 : Option Addr} (hes : Es w hs rows) (hbz : Below w.heap.size w wz)
    (hO : wz.ownsRow B 38 1 (.slice A10 n10 c10) n10 (hs.take k ++ hs.drop (k + 1))) :
    RsO wz A10 n10 c10 (rows.take k ++ rows.drop (k + 1)) := by
  have hl := hO.1
  have hh := hes.ext hbz
  have h3 := hh.1
  refine ⟨_, own_lo hO, Es.append (Es.take hh k) (Es.drop hh (k + 1)), ?_⟩
  simp only [List.length_append, List.length_take, List.length_drop, Nat.mul_one] at hl ⊢
  omega
def PutO (S : Sch) (A : Option Addr) (n c : Nat) (p : Int × List (List V)) (w : World) (e : Ending) (w' : World) : Prop := ∃ A' n' c', e = .returned (.tuple #[.agg (tabA S A n c A' n' c'), .int .i64 p.1]) ∧ RsO w' A' n' c' p.2 ∧ Below w.heap.size w w'
set_option maxRecDepth 1000000 in
set_option maxHeartbeats 8000000 in
theorem rputO_ (S : Sch) (rows : List (List V)) (r : List V) (loC : Nat) (A : Option Addr) (n c : Nat) (A' : Option Addr) (n' c' : Nat) (lo' : Nat) (Ar : Option Addr) (m cr : Nat) (w : World)
    (hC : Cs w loC A n c S.cols) (hRO : RsO w A' n' c' rows) (hr : Vs w lo' Ar m cr r) (hs : Small r) (hOk : Ok S.cols S.key rows) (hn : S.cols.length ≤ 100) (hrows : rows.length ≤ 1000) (hm : m ≤ 100000) :
    Calls Try.prog 28 #[.agg (tabA S A n c A' n' c'), .slice Ar m cr] w (PutO S A n c (putL S.cols S.key rows r) w) := by
  have hR := hRO.rs
  have hF := hRO.fine
  obtain ⟨i0, hi, hz0, hz1, hz2⟩ := info_parts (P := Try.prog) (e := 41) (z := .agg #[.int .i64 0, .int .i64 0, .string ⟨#[]⟩]) (size := 3) (bytes := 32) (by kernel_rfl)
  obtain ⟨j0, hj, hy0, hy1, hy2⟩ := info_parts (P := Try.prog) (e := 38) (z := .slice none 0 0) (size := 1) (bytes := 24) (by kernel_rfl)
  have hRn := hR.len
  have hRN := Lib.hid hRn
  have hn' : n' ≤ 1000 := by omega
  have hCn := hC.2
  have hfits := fun w' (h : Below w.heap.size w w') => rfits_ S loC A n c r lo' Ar m cr w' (hC.ext h) (by omega) (hr.ext h) hm hs
  have hget := fun kv (hk : vchk kv = 0) w' (h : Below w.heap.size w w') => rget_ S rows kv 0 A n c A' n' c' w' (hR.ext h) hOk hn hrows hk
  have hat := fun kv (hk : vchk kv = 0) w' (h : Below w.heap.size w w') => rat_ S rows kv 0 A n c A' n' c' w' (hR.ext h) hOk hn hrows hk
  have Hfits := Lib.hid hfits
  have Hget := Lib.hid hget
  have Hat := Lib.hid hat
  have hkl := hOk.kl
  have Hkey := Lib.hid (fun h => key_chk (r := r) hkl h)
  have Hlen := Lib.hid (fun (h : fitsL S.cols r = 0) => fits_len h)
  have Hle := Lib.hid (fun kv => at_le S.key kv rows)
  have hputd : ∀ fv iv av kv, fitsL S.cols r = fv → tb.keyOf S.key r = kv → isL S.key kv rows = iv → atL S.key kv rows = av → putL S.cols S.key rows r = if fv ≠ 0 then (fv, rows) else if iv = true then (7, rows) else if 200 ≤ rows.length then (4, rows) else (0, rows.take av ++ r :: rows.drop av) := by
    intro fv iv av kv h1 h2 h3 h4
    subst h1 h2 h3 h4
    rfl
  have Hput := Lib.hid hputd
  obtain ⟨p, hp⟩ : ∃ p, putL S.cols S.key rows r = p := ⟨_, rfl⟩
  obtain ⟨fv, hfv⟩ : ∃ fv, fitsL S.cols r = fv := ⟨_, rfl⟩
  rw [hp]
  have HP := Lib.hid hp
  have HFV := Lib.hid hfv
  rw [hfv] at Hfits
  clear hfits hget hat hputd hp hfv hRn hCn hOk
  obtain ⟨nm, cols, key, only⟩ := S
  simp only [tabA, schA] at hn hkl Hfits Hget Hat Hkey Hlen Hle Hput HP HFV ⊢
  go_enter Try.func28, Try.ntmps28
  go_upto_region 1 with fail
  obtain ⟨W, hW_, hbW, B1, B2⟩ : ∃ W_, W_ = ((w.alloc (.cells #[.string nm, .slice A n c, .int .i64 key, .bool only, .slice A' n' c'] 32)).alloc (.cells #[.string ⟨#[]⟩, .slice none 0 0, .int .i64 0, .bool false, .slice none 0 0] 32)) ∧ Below w.heap.size w W_ ∧ Blk W_ (w.heap.size) 32 #[.string nm, .slice A n c, .int .i64 key, .bool only, .slice A' n' c'] ∧ Blk W_ (w.heap.size + 1) 32 #[.string ⟨#[]⟩, .slice none 0 0, .int .i64 0, .bool false, .slice none 0 0] :=
    ⟨_, rfl, (((Below.refl _ _).alloc (Nat.le_refl _) _).alloc (by simp; try omega) _), ((blk_new_at w (w.heap.size) _ _ (by simp)).alloc _), (blk_new_at (w.alloc (.cells #[.string nm, .slice A n c, .int .i64 key, .bool only, .slice A' n' c'] 32)) (w.heap.size + 1) _ _ (by simp))⟩
  rw [← hW_]
  clear hW_
  have q1 := five B1 (Below.refl _ _)
  go_wp2_with fail
  clear q1
  refine (Hfits.out _ hbW).mono ?_
  rintro e w3 ⟨rfl, hb3⟩
  have hbx := Below.trans hbW (Below.mono hb3 hbW.size)
  have B1 := B1.ext hb3
  have B2 := B2.ext hb3
  by_cases hfit : fv = 0
  case neg =>
    have hne : (fv != 0) = true := by simpa using hfit
    have hpe : p = (fv, rows) := by
      have := Hput.out fv _ _ _ HFV.out rfl rfl rfl
      rw [if_pos hfit] at this
      rw [← HP.out, this]
    subst hpe
    clear hfit
    have f0 := B2.frozen 0
    have f1 := B2.frozen 1
    have f2 := B2.frozen 2
    have f3 := B2.frozen 3
    have f4 := B2.frozen 4
    have q := five B2 (Below.refl _ _)
    have q1 := five B1 (Below.refl _ _)
    go_wp2
    clear f0 f1 f2 f3 f4 q q1
    obtain ⟨wz, hwz, Bz, hlowz, hgrz⟩ := Blk.set5 B2 (.string nm) (.slice A n c) (.int .i64 key) (.bool only) (.slice A' n' c')
    rw [← hwz]
    clear hwz
    have q := five Bz (Below.refl _ _)
    exact bodyPost_ret (v := .tuple #[.agg #[.string nm, .slice A n c, .int .i64 key, .bool only, .slice A' n' c'], .int .i64 fv]) (by simp [results, Try.results28, go_sem, q]; try rfl) rfl
      ⟨_, _, _, rfl, hRO.later hbx hgrz (by omega), Below.trans hbx (hlowz _ (Nat.le_succ _))⟩
  subst hfit
  obtain ⟨kv, hkv, hke, hkc⟩ := Hkey.out HFV.out
  have hrl := Hlen.out HFV.out
  have hrm := hr.2
  have hkm : key < m := by omega
  have hkm2 : (key : Int) < (m : Int) := by omega
  obtain ⟨br, or_, rfl, _, _, _⟩ := hr.1.some_ (by omega)
  have HKV := Lib.hid hkv
  have hgt := Hget.out kv hkc
  have hatt := Hat.out kv hkc
  have hPd := Hput.out 0 _ _ kv HFV.out hke rfl rfl
  rw [HP.out, if_neg (by decide)] at hPd
  obtain ⟨iv, hiv⟩ : ∃ b, isL key kv rows = b := ⟨_, rfl⟩
  have hale := Hle.out kv
  obtain ⟨an, han⟩ : ∃ a, atL key kv rows = a := ⟨_, rfl⟩
  rw [hiv] at hgt hPd
  rw [han] at hatt hPd hale
  have HPd := Lib.hid hPd
  have Hgt := Lib.hid hgt
  have Hatt := Lib.hid hatt
  have han2 : an ≤ n' := by rw [← hRN.out]; exact hale
  clear hgt hatt hPd hkv hke hkc hiv han hrl hrm hale Hkey Hlen Hle Hput HP HFV Hget Hat Hfits
  go_wp2_with fail
  have D1 := fun w' (h : Below w3.heap.size w3.drew w') => five B1 (Below.trans (Below.refl _ _).drew h)
  have Dr := fun w' (h : Below w3.heap.size w3.drew w') => (hr.ext (Below.trans hbx (Below.mono (Below.trans (Below.refl _ w3).drew h) hbx.size))).at_ HKV.out
  refine wp_region_one [(0, true), (1, true), (2, true), (3, true), (4, true), (5, true), (6, true), (7, false), (8, true), (9, true), (10, true), (11, true), (12, true)] (by kernel_rfl) (by kernel_rfl) (by kernel_rfl) (by decide) ?_
  repeat ((with_reducible show wpPerm _ _ _ _ ((_, true) :: _) _ _); (first | (refine wpPerm_on (v := ?_) rfl rfl (wanted_free rfl) (fun w' hS => ?_) ?_; rotate_left; (focus (go_simp; (try with_reducible rfl); done)); try simp only [List.setIfInBounds_toArray, List.set_cons_zero, List.set_cons_succ]) | (refine wpPerm_on (v := ?_) rfl rfl (wanted_yes rfl rfl rfl) (fun w' hS => ?_) ?_; rotate_left; (focus (go_simp; (try with_reducible rfl); done)); try simp only [List.setIfInBounds_toArray, List.set_cons_zero, List.set_cons_succ]) | (refine wpPerm_off rfl rfl (wanted_no rfl rfl rfl) ?_; try simp only [List.setIfInBounds_toArray, List.set_cons_zero, List.set_cons_succ]) | (refine wpPerm_off rfl rfl (wanted_undef rfl rfl rfl) ?_; try simp only [List.setIfInBounds_toArray, List.set_cons_zero, List.set_cons_succ])))
  refine wpPerm_do rfl (wanted_free rfl) (fun K hK => ?_); go_simp
  refine (Hgt.out _ hbx.drew).mono ?_
  rintro e w5 ⟨Ag, mg, cg, rfl, _, hb5⟩
  refine hK.out _ _ hb5 ?_
  clear hK K
  repeat ((with_reducible show wpPerm _ _ _ _ ((_, true) :: _) _ _); (first | (refine wpPerm_on (v := ?_) rfl rfl (wanted_free rfl) (fun w' hS => ?_) ?_; rotate_left; (focus (go_simp; (try with_reducible rfl); done)); try simp only [List.setIfInBounds_toArray, List.set_cons_zero, List.set_cons_succ]) | (refine wpPerm_on (v := ?_) rfl rfl (wanted_yes rfl rfl rfl) (fun w' hS => ?_) ?_; rotate_left; (focus (go_simp; (try with_reducible rfl); done)); try simp only [List.setIfInBounds_toArray, List.set_cons_zero, List.set_cons_succ]) | (refine wpPerm_off rfl rfl (wanted_no rfl rfl rfl) ?_; try simp only [List.setIfInBounds_toArray, List.set_cons_zero, List.set_cons_succ]) | (refine wpPerm_off rfl rfl (wanted_undef rfl rfl rfl) ?_; try simp only [List.setIfInBounds_toArray, List.set_cons_zero, List.set_cons_succ])))
  refine wpPerm_done ?_
  clear D1 Dr
  have hb35 := Below.trans (Below.refl _ w3).drew hb5
  have hbx := Below.trans hbx (Below.mono hb35 hbx.size)
  have B1 := B1.ext hb35
  have B2 := B2.ext hb35
  clear hb35 hb5 hb3
  cases iv with
  | true =>
    have hpe : p = (7, rows) := by rw [HPd.out, if_pos rfl]
    subst hpe
    have f0 := B2.frozen 0
    have f1 := B2.frozen 1
    have f2 := B2.frozen 2
    have f3 := B2.frozen 3
    have f4 := B2.frozen 4
    have q := five B2 (Below.refl _ _)
    have q1 := five B1 (Below.refl _ _)
    go_wp2
    clear f0 f1 f2 f3 f4 q q1
    obtain ⟨wz, hwz, Bz, hlowz, hgrz⟩ := Blk.set5 B2 (.string nm) (.slice A n c) (.int .i64 key) (.bool only) (.slice A' n' c')
    rw [← hwz]
    clear hwz
    have q := five Bz (Below.refl _ _)
    exact bodyPost_ret (v := .tuple #[.agg #[.string nm, .slice A n c, .int .i64 key, .bool only, .slice A' n' c'], .int .i64 7]) (by simp [results, Try.results28, go_sem, q]; try rfl) rfl
      ⟨_, _, _, rfl, hRO.later hbx hgrz (by omega), Below.trans hbx (hlowz _ (Nat.le_succ _))⟩
  | false =>
    by_cases h200 : 200 ≤ n'
    case pos =>
      have hpe : p = (4, rows) := by rw [HPd.out, if_neg (by decide), if_pos (by rw [hRN.out]; exact h200)]
      subst hpe
      have hd : decide ((200 : Int) ≤ (n' : Int)) = true := by simp; omega
      have f0 := B2.frozen 0
      have f1 := B2.frozen 1
      have f2 := B2.frozen 2
      have f3 := B2.frozen 3
      have f4 := B2.frozen 4
      have q := five B2 (Below.refl _ _)
      have q1 := five B1 (Below.refl _ _)
      go_wp2
      clear f0 f1 f2 f3 f4 q q1
      obtain ⟨wz, hwz, Bz, hlowz, hgrz⟩ := Blk.set5 B2 (.string nm) (.slice A n c) (.int .i64 key) (.bool only) (.slice A' n' c')
      rw [← hwz]
      clear hwz
      have q := five Bz (Below.refl _ _)
      exact bodyPost_ret (v := .tuple #[.agg #[.string nm, .slice A n c, .int .i64 key, .bool only, .slice A' n' c'], .int .i64 4]) (by simp [results, Try.results28, go_sem, q]; try rfl) rfl
        ⟨_, _, _, rfl, hRO.later hbx hgrz (by omega), Below.trans hbx (hlowz _ (Nat.le_succ _))⟩
    have hpe : p = (0, rows.take an ++ r :: rows.drop an) := by rw [HPd.out, if_neg (by decide), if_neg (by rw [hRN.out]; exact h200)]
    subst hpe
    have hd : decide ((200 : Int) ≤ (n' : Int)) = false := by simp; omega
    have q1 := five B1 (Below.refl _ _)
    go_wp2_with fail
    clear q1
    have D1 := fun w' (h : Below w5.heap.size w5.drew w') => five B1 (Below.trans (Below.refl _ _).drew h)
    have Dr := fun w' (h : Below w5.heap.size w5.drew w') => (hr.ext (Below.trans hbx (Below.mono (Below.trans (Below.refl _ w5).drew h) hbx.size))).at_ HKV.out
    refine wp_region_one [(0, true), (1, true), (2, true), (3, true), (4, true), (5, true), (6, true), (7, false), (8, true)] (by kernel_rfl) (by kernel_rfl) (by kernel_rfl) (by decide) ?_
    repeat ((with_reducible show wpPerm _ _ _ _ ((_, true) :: _) _ _); (first | (refine wpPerm_on (v := ?_) rfl rfl (wanted_free rfl) (fun w' hS => ?_) ?_; rotate_left; (focus (go_simp; (try with_reducible rfl); done)); try simp only [List.setIfInBounds_toArray, List.set_cons_zero, List.set_cons_succ]) | (refine wpPerm_on (v := ?_) rfl rfl (wanted_yes rfl rfl rfl) (fun w' hS => ?_) ?_; rotate_left; (focus (go_simp; (try with_reducible rfl); done)); try simp only [List.setIfInBounds_toArray, List.set_cons_zero, List.set_cons_succ]) | (refine wpPerm_off rfl rfl (wanted_no rfl rfl rfl) ?_; try simp only [List.setIfInBounds_toArray, List.set_cons_zero, List.set_cons_succ]) | (refine wpPerm_off rfl rfl (wanted_undef rfl rfl rfl) ?_; try simp only [List.setIfInBounds_toArray, List.set_cons_zero, List.set_cons_succ])))
    refine wpPerm_do rfl (wanted_free rfl) (fun K hK => ?_); go_simp
    refine (Hatt.out _ hbx.drew).mono ?_
    rintro e w6 ⟨rfl, hb6⟩
    refine hK.out _ _ hb6 ?_
    clear hK K
    repeat ((with_reducible show wpPerm _ _ _ _ ((_, true) :: _) _ _); (first | (refine wpPerm_on (v := ?_) rfl rfl (wanted_free rfl) (fun w' hS => ?_) ?_; rotate_left; (focus (go_simp; (try with_reducible rfl); done)); try simp only [List.setIfInBounds_toArray, List.set_cons_zero, List.set_cons_succ]) | (refine wpPerm_on (v := ?_) rfl rfl (wanted_yes rfl rfl rfl) (fun w' hS => ?_) ?_; rotate_left; (focus (go_simp; (try with_reducible rfl); done)); try simp only [List.setIfInBounds_toArray, List.set_cons_zero, List.set_cons_succ]) | (refine wpPerm_off rfl rfl (wanted_no rfl rfl rfl) ?_; try simp only [List.setIfInBounds_toArray, List.set_cons_zero, List.set_cons_succ]) | (refine wpPerm_off rfl rfl (wanted_undef rfl rfl rfl) ?_; try simp only [List.setIfInBounds_toArray, List.set_cons_zero, List.set_cons_succ])))
    refine wpPerm_done ?_
    clear D1 Dr
    have hb56 := Below.trans (Below.refl _ w5).drew hb6
    have hbx := Below.trans hbx (Below.mono hb56 hbx.size)
    have B1 := B1.ext hb56
    have B2 := B2.ext hb56
    clear hb56 hb6 hd h200 HPd Hgt Hatt
    have hz6 := hbx.size
    have hW6 : w.heap.size + 1 + 1 ≤ w6.heap.size := by have := B2.lt; omega
    obtain ⟨hs, howns, hes, _⟩ := hRO
    have hhs := Es.hs hes
    have hrow := Row.of_own howns
    have hrow : Row w 0 A' n' c' hs := hrow.base (Nat.zero_le _)
    have Hrow := Lib.hid hrow
    have Hhl := Lib.hid (hhs.1.trans hRN.out)
    have Hone := Lib.hid hhs.one_
    have hnc := hrow.le_
    have hac : an ≤ c' := by omega
    clear hrow
    have hF' := hF
    rcases hF' with rfl | ⟨bA, oA, rfl⟩
    case inl =>
      have h0 : n' = 0 ∧ c' = 0 ∧ hs = [] := by
        rcases Hrow.out with h | ⟨_, h, _⟩ | ⟨_, _, h, _⟩
        · exact h.2
        · cases h
        · cases h
      have Hhs := Lib.hid h0.2.2
      obtain ⟨rfl, rfl, _⟩ := h0
      obtain rfl : an = 0 := by omega
      have q1 := fun o => five B1 ((Below.refl _ _).alloc (Nat.le_refl _) o)
      go_wp2_with (at_builtin; refine wpList_append_row rfl (.tmp 45) (.tmp 49) 30 rfl (w.heap.size + 1 + 1) 38 j0 _ 1 24 Try.underlying30 hj hy0 hy1 hy2 rfl (by decide) _ _ _ rfl (own_empty (w := w6) rfl hW6) _ _ _ _ (hs.take 0) rfl (show Row _ 0 none 0 0 (hs.take 0) by rw [Hhs.out]; exact Row.nil _ _) ?an1 ?an2 ?an3 ?an4 ?an5 ?_)
      case an1 => simp
      case an2 => exact fun u hu => Hone.out u (List.mem_of_mem_take hu)
      case an3 => unfold maxLen; omega
      case an4 => omega
      all_goals try (case an5 => first | omega | (simp; done) | (simp; omega))
      intro v7 w7 hown7 hgrow7
      clear q1
      have hbx7 := (hbx.alloc hbx.size (.cells #[] 38)).grown hgrow7 (by simp; omega) (fun b hb => by simp [Value.ownBlock] at hb; omega)
      have B1 := (B1.alloc (.cells #[] 38)).grown hgrow7 (by simp [Value.ownBlock]; omega)
      have B2 := (B2.alloc (.cells #[] 38)).grown hgrow7 (by simp [Value.ownBlock]; omega)
      have HO7 := Lib.hid hown7
      clear hown7 hgrow7 hbx
      have hbx := hbx7
      have hW7 := hbx7.size
      have hB2l := B2.lt
      go_wp2_with (at_builtin; refine wpList_append_row rfl (.tmp 52) (.tmp 53) 38 rfl w7.heap.size 41 i0 _ 3 32 Try.underlying38 hi hz0 hz1 hz2 rfl (by decide) _ _ _ rfl (own_empty (w := w7) rfl (Nat.le_refl _)) _ _ _ _ (cellsV r) rfl ((hr.1.ext hbx).ext ((Below.refl _ _).alloc (Nat.le_refl _) _)) ?bn1 ?bn2 ?bn3 ?bn4 ?bn5 ?_)
      case bn1 => rw [lenV, hr.2]
      case bn2 => exact oneV r
      case bn3 => unfold maxLen; omega
      case bn4 => omega
      all_goals try (case bn5 => first | omega | (simp; done) | (simp; omega))
      intro v8 w8 hown8 hgrow8
      obtain ⟨A8, c8, rfl⟩ := own_slice hown8
      try simp only [Nat.zero_add, List.nil_append] at hown8
      have h7a : Below w7.heap.size w7 (w7.alloc (.cells #[] 41)) := (Below.refl _ _).alloc (Nat.le_refl _) _
      have hbx8 := (hbx.alloc hbx.size (.cells #[] 41)).grown hgrow8 (by simp; omega) (fun b hb => by simp [Value.ownBlock] at hb; omega)
      have B1 := (B1.ext h7a).grown hgrow8 (by simp [Value.ownBlock]; omega)
      have B2 := (B2.ext h7a).grown hgrow8 (by simp [Value.ownBlock]; omega)
      have HO8 := Lib.hid ((own_ext HO7.out h7a).kept hgrow8 (by
        cases ho : v7.ownBlock with
        | none => exact .inl rfl
        | some b =>
          have := (HO7.out.lt b ho).2
          exact .inr (by simp [Value.ownBlock]; omega)))
      have hz8 : w7.heap.size + 1 ≤ w8.heap.size := by have := hgrow8.size; simpa using this
      clear hgrow8 HO7 hbx hbx7 h7a
      have hbx := hbx8
      go_wp2_with (at_builtin; refine wpList_append_own _ rfl (.tmp 51) (.tmp 55) 30 rfl (w.heap.size + 1 + 1) 38 j0 _ 1 24 Try.underlying30 hj hy0 hy1 hy2 rfl (by decide) _ _ _ rfl (HO8.out.alloc _) ⟨w8.heap.size, 0, none⟩ 1 1 [.slice A8 m c8] rfl rfl ?dn1 ?dn2 ?dn3 ?dn4 ?dn5 ?_)
      case dn1 => exact (Row.of_blk (Blk.new w8 _ _) (Nat.zero_le _) 1 1 (Nat.le_refl _)).src
      case dn2 => intro u hu; rw [List.mem_singleton] at hu; rw [hu]; rfl
      case dn3 => unfold maxLen; omega
      case dn4 => omega
      all_goals try (case dn5 => first | omega | (simp; done) | (simp; omega))
      intro v9 w9 hown9 hgrow9 _
      have h8a : Below w8.heap.size w8 (w8.alloc (.cells #[.slice A8 m c8] 38)) := (Below.refl _ _).alloc (Nat.le_refl _) _
      have hlt8 := HO8.out.lt
      have hbx9 := (hbx.alloc hbx.size (.cells #[.slice A8 m c8] 38)).grown hgrow9 (by simp; omega) (fun b hb => by have := (hlt8 b hb).1; omega)
      have B1 := (B1.ext h8a).grown hgrow9 (fun e => by have := (hlt8 _ e.symm).1; omega)
      have B2 := (B2.ext h8a).grown hgrow9 (fun e => by have := (hlt8 _ e.symm).1; omega)
      have hown8' := (own_ext hown8 h8a).kept hgrow9 (own_ne (own_ext hown8 h8a) (own_ext HO8.out h8a) (by decide))
      have HV9 := Lib.hid hown8'
      have HO9 := Lib.hid hown9
      have hz9 : w8.heap.size + 1 ≤ w9.heap.size := by have := hgrow9.size; simpa using this
      clear hown8 hown8' hown9 hgrow9 h8a hlt8 hbx hbx8 HO8
      have hbx := hbx9
      have q1 := five B1 (Below.refl _ _)
      go_wp2_with (at_builtin; refine wpList_append_row rfl (.tmp 57) (.tmp 61) 30 rfl (w.heap.size + 1 + 1) 38 j0 _ 1 24 Try.underlying30 hj hy0 hy1 hy2 rfl (by decide) _ _ _ rfl HO9.out _ _ _ _ (hs.drop 0) rfl (show Row _ 0 none 0 0 (hs.drop 0) by rw [Hhs.out]; exact Row.nil _ _) ?en1 ?en2 ?en3 ?en4 ?en5 ?_)
      case en1 => simp [Hhl.out]; try omega
      case en2 => exact fun u hu => Hone.out u (List.mem_of_mem_drop hu)
      case en3 => unfold maxLen; omega
      case en4 => omega
      all_goals try (case en5 => first | omega | (simp; done) | (simp; omega))
      intro v10 wa hown10 hgrow10
      obtain ⟨A10, c10, rfl⟩ := own_slice hown10
      have hlt9 := HO9.out.lt
      have hbxa := hbx.grown hgrow10 hbx.size (fun b hb => by have := (hlt9 b hb).1; omega)
      have B1 := B1.grown hgrow10 (fun e => by have := (hlt9 _ e.symm).1; omega)
      have B2 := B2.grown hgrow10 (fun e => by have := (hlt9 _ e.symm).1; omega)
      have HVa := Lib.hid (HV9.out.kept hgrow10 (own_ne HV9.out HO9.out (by decide)))
      have HOa := Lib.hid hown10
      clear q1 hown10 hgrow10 hlt9 HO9 HV9 hbx hbx9
      have hbx := hbxa
      have f4 := B1.frozen 4
      have q4 := B1.cell 4
      go_upto_region 13 with fail
      clear f4 q4
      obtain ⟨wb, hwb, B1', hlowb, hgrb⟩ := Blk.set1 (i := 4) B1 (.slice A10 1 c10)
      rw [← hwb]
      clear hwb
      have HOb := Lib.hid (HOa.out.kept hgrb (own_ne_blk HOa.out B1 (by decide)))
      have HVb := Lib.hid (HVa.out.kept hgrb (own_ne_blk HVa.out B1 (by decide)))
      have B2 := B2.grown hgrb (by simp)
      have B1 : Blk wb w.heap.size 32 #[.string nm, .slice A n c, .int .i64 key, .bool only, .slice A10 1 c10] := B1'
      have hbxb := Below.trans hbx (hlowb _ (Nat.le_refl _))
      clear HOa HVa hgrb hlowb B1' hbx hbxa
      have hbx := hbxb
      have f0 := B2.frozen 0
      have f1 := B2.frozen 1
      have f2 := B2.frozen 2
      have f3 := B2.frozen 3
      have f4 := B2.frozen 4
      have q := five B2 (Below.refl _ _)
      have q1 := five B1 (Below.refl _ _)
      go_wp2
      clear f0 f1 f2 f3 f4 q q1
      obtain ⟨wz, hwz, Bz, hlowz, hgrz⟩ := Blk.set5 B2 (.string nm) (.slice A n c) (.int .i64 key) (.bool only) (.slice A10 1 c10)
      rw [← hwz]
      clear hwz
      have q := five Bz (Below.refl _ _)
      exact bodyPost_ret (v := .tuple #[.agg #[.string nm, .slice A n c, .int .i64 key, .bool only, .slice A10 1 c10], .int .i64 0]) (by simp [results, Try.results28, go_sem, q]; try rfl) rfl
        ⟨_, _, _, rfl, (put_holdO (k := 0) hes (Below.trans hbx (hlowz _ (Nat.le_succ _))) (by simp [Hhs.out]) (HOb.out.kept hgrz (own_ne_blk HOb.out B2 (by decide))) (HVb.out.kept hgrz (own_ne_blk HVb.out B2 (by decide)))), Below.trans hbx (hlowz _ (Nat.le_succ _))⟩
    case inr =>
      by_cases hca : c' = an
      case pos =>
        obtain rfl : an = c' := hca.symm
        obtain rfl : n' = an := by omega
        have q1 := fun o => five B1 ((Below.refl _ _).alloc (Nat.le_refl _) o)
        go_wp2_with (at_builtin; refine wpList_append_row rfl (.tmp 45) (.tmp 49) 30 rfl (w.heap.size + 1 + 1) 38 j0 _ 1 24 Try.underlying30 hj hy0 hy1 hy2 rfl (by decide) _ _ _ rfl (own_empty (w := w6) rfl hW6) _ _ _ _ (hs.take n') rfl (((Hrow.out.ext hbx).ext ((Below.refl _ _).alloc (Nat.le_refl _) _)).take n' n' n' hac han2) ?af1 ?af2 ?af3 ?af4 ?af5 ?_)
        case af1 => simp [Hhl.out]; try omega
        case af2 => exact fun u hu => Hone.out u (List.mem_of_mem_take hu)
        case af3 => unfold maxLen; omega
        case af4 => omega
        all_goals try (case af5 => first | omega | (simp; done) | (simp; omega))
        intro v7 w7 hown7 hgrow7
        clear q1
        have hbx7 := (hbx.alloc hbx.size (.cells #[] 38)).grown hgrow7 (by simp; omega) (fun b hb => by simp [Value.ownBlock] at hb; omega)
        have B1 := (B1.alloc (.cells #[] 38)).grown hgrow7 (by simp [Value.ownBlock]; omega)
        have B2 := (B2.alloc (.cells #[] 38)).grown hgrow7 (by simp [Value.ownBlock]; omega)
        have HO7 := Lib.hid hown7
        clear hown7 hgrow7 hbx
        have hbx := hbx7
        have hW7 := hbx7.size
        have hB2l := B2.lt
        go_wp2_with (at_builtin; refine wpList_append_row rfl (.tmp 52) (.tmp 53) 38 rfl w7.heap.size 41 i0 _ 3 32 Try.underlying38 hi hz0 hz1 hz2 rfl (by decide) _ _ _ rfl (own_empty (w := w7) rfl (Nat.le_refl _)) _ _ _ _ (cellsV r) rfl ((hr.1.ext hbx).ext ((Below.refl _ _).alloc (Nat.le_refl _) _)) ?bf1 ?bf2 ?bf3 ?bf4 ?bf5 ?_)
        case bf1 => rw [lenV, hr.2]
        case bf2 => exact oneV r
        case bf3 => unfold maxLen; omega
        case bf4 => omega
        all_goals try (case bf5 => first | omega | (simp; done) | (simp; omega))
        intro v8 w8 hown8 hgrow8
        obtain ⟨A8, c8, rfl⟩ := own_slice hown8
        try simp only [Nat.zero_add, List.nil_append] at hown8
        have h7a : Below w7.heap.size w7 (w7.alloc (.cells #[] 41)) := (Below.refl _ _).alloc (Nat.le_refl _) _
        have hbx8 := (hbx.alloc hbx.size (.cells #[] 41)).grown hgrow8 (by simp; omega) (fun b hb => by simp [Value.ownBlock] at hb; omega)
        have B1 := (B1.ext h7a).grown hgrow8 (by simp [Value.ownBlock]; omega)
        have B2 := (B2.ext h7a).grown hgrow8 (by simp [Value.ownBlock]; omega)
        have HO8 := Lib.hid ((own_ext HO7.out h7a).kept hgrow8 (by
          cases ho : v7.ownBlock with
          | none => exact .inl rfl
          | some b =>
            have := (HO7.out.lt b ho).2
            exact .inr (by simp [Value.ownBlock]; omega)))
        have hz8 : w7.heap.size + 1 ≤ w8.heap.size := by have := hgrow8.size; simpa using this
        clear hgrow8 HO7 hbx hbx7 h7a
        have hbx := hbx8
        go_wp2_with (at_builtin; refine wpList_append_own _ rfl (.tmp 51) (.tmp 55) 30 rfl (w.heap.size + 1 + 1) 38 j0 _ 1 24 Try.underlying30 hj hy0 hy1 hy2 rfl (by decide) _ _ _ rfl (HO8.out.alloc _) ⟨w8.heap.size, 0, none⟩ 1 1 [.slice A8 m c8] rfl rfl ?df1 ?df2 ?df3 ?df4 ?df5 ?_)
        case df1 => exact (Row.of_blk (Blk.new w8 _ _) (Nat.zero_le _) 1 1 (Nat.le_refl _)).src
        case df2 => intro u hu; rw [List.mem_singleton] at hu; rw [hu]; rfl
        case df3 => unfold maxLen; omega
        case df4 => omega
        all_goals try (case df5 => first | omega | (simp; done) | (simp; omega))
        intro v9 w9 hown9 hgrow9 _
        have h8a : Below w8.heap.size w8 (w8.alloc (.cells #[.slice A8 m c8] 38)) := (Below.refl _ _).alloc (Nat.le_refl _) _
        have hlt8 := HO8.out.lt
        have hbx9 := (hbx.alloc hbx.size (.cells #[.slice A8 m c8] 38)).grown hgrow9 (by simp; omega) (fun b hb => by have := (hlt8 b hb).1; omega)
        have B1 := (B1.ext h8a).grown hgrow9 (fun e => by have := (hlt8 _ e.symm).1; omega)
        have B2 := (B2.ext h8a).grown hgrow9 (fun e => by have := (hlt8 _ e.symm).1; omega)
        have hown8' := (own_ext hown8 h8a).kept hgrow9 (own_ne (own_ext hown8 h8a) (own_ext HO8.out h8a) (by decide))
        have HV9 := Lib.hid hown8'
        have HO9 := Lib.hid hown9
        have hz9 : w8.heap.size + 1 ≤ w9.heap.size := by have := hgrow9.size; simpa using this
        clear hown8 hown8' hown9 hgrow9 h8a hlt8 hbx hbx8 HO8
        have hbx := hbx9
        have q1 := five B1 (Below.refl _ _)
        go_wp2_with (at_builtin; refine wpList_append_row rfl (.tmp 57) (.tmp 61) 30 rfl (w.heap.size + 1 + 1) 38 j0 _ 1 24 Try.underlying30 hj hy0 hy1 hy2 rfl (by decide) _ _ _ rfl HO9.out _ _ _ _ (hs.drop n') rfl (show Row _ 0 (some ⟨bA, oA, none⟩) 0 0 (hs.drop n') by rw [List.drop_eq_nil_of_le (by rw [Hhl.out]; omega)]; exact Row.empty _ _ _ _) ?ef1 ?ef2 ?ef3 ?ef4 ?ef5 ?_)
        case ef1 => simp [Hhl.out]; try omega
        case ef2 => exact fun u hu => Hone.out u (List.mem_of_mem_drop hu)
        case ef3 => unfold maxLen; omega
        case ef4 => omega
        all_goals try (case ef5 => first | omega | (simp; done) | (simp; omega))
        intro v10 wa hown10 hgrow10
        obtain ⟨A10, c10, rfl⟩ := own_slice hown10
        have hlt9 := HO9.out.lt
        have hbxa := hbx.grown hgrow10 hbx.size (fun b hb => by have := (hlt9 b hb).1; omega)
        have B1 := B1.grown hgrow10 (fun e => by have := (hlt9 _ e.symm).1; omega)
        have B2 := B2.grown hgrow10 (fun e => by have := (hlt9 _ e.symm).1; omega)
        have HVa := Lib.hid (HV9.out.kept hgrow10 (own_ne HV9.out HO9.out (by decide)))
        have HOa := Lib.hid hown10
        clear q1 hown10 hgrow10 hlt9 HO9 HV9 hbx hbx9
        have hbx := hbxa
        have f4 := B1.frozen 4
        have q4 := B1.cell 4
        go_upto_region 13 with fail
        clear f4 q4
        obtain ⟨wb, hwb, B1', hlowb, hgrb⟩ := Blk.set1 (i := 4) B1 (.slice A10 (n' + 1) c10)
        rw [← hwb]
        clear hwb
        have HOb := Lib.hid (HOa.out.kept hgrb (own_ne_blk HOa.out B1 (by decide)))
        have HVb := Lib.hid (HVa.out.kept hgrb (own_ne_blk HVa.out B1 (by decide)))
        have B2 := B2.grown hgrb (by simp)
        have B1 : Blk wb w.heap.size 32 #[.string nm, .slice A n c, .int .i64 key, .bool only, .slice A10 (n' + 1) c10] := B1'
        have hbxb := Below.trans hbx (hlowb _ (Nat.le_refl _))
        clear HOa HVa hgrb hlowb B1' hbx hbxa
        have hbx := hbxb
        have f0 := B2.frozen 0
        have f1 := B2.frozen 1
        have f2 := B2.frozen 2
        have f3 := B2.frozen 3
        have f4 := B2.frozen 4
        have q := five B2 (Below.refl _ _)
        have q1 := five B1 (Below.refl _ _)
        go_wp2
        clear f0 f1 f2 f3 f4 q q1
        obtain ⟨wz, hwz, Bz, hlowz, hgrz⟩ := Blk.set5 B2 (.string nm) (.slice A n c) (.int .i64 key) (.bool only) (.slice A10 (n' + 1) c10)
        rw [← hwz]
        clear hwz
        have q := five Bz (Below.refl _ _)
        exact bodyPost_ret (v := .tuple #[.agg #[.string nm, .slice A n c, .int .i64 key, .bool only, .slice A10 (n' + 1) c10], .int .i64 0]) (by simp [results, Try.results28, go_sem, q]; try rfl) rfl
          ⟨_, _, _, rfl, (put_holdO (k := n') hes (Below.trans hbx (hlowz _ (Nat.le_succ _))) (by simp) (HOb.out.kept hgrz (own_ne_blk HOb.out B2 (by decide))) (HVb.out.kept hgrz (own_ne_blk HVb.out B2 (by decide)))), Below.trans hbx (hlowz _ (Nat.le_succ _))⟩
      case neg =>
        have q1 := fun o => five B1 ((Below.refl _ _).alloc (Nat.le_refl _) o)
        go_wp2_with (at_builtin; refine wpList_append_row rfl (.tmp 45) (.tmp 49) 30 rfl (w.heap.size + 1 + 1) 38 j0 _ 1 24 Try.underlying30 hj hy0 hy1 hy2 rfl (by decide) _ _ _ rfl (own_empty (w := w6) rfl hW6) _ _ _ _ (hs.take an) rfl (((Hrow.out.ext hbx).ext ((Below.refl _ _).alloc (Nat.le_refl _) _)).take an c' an hac han2) ?ar1 ?ar2 ?ar3 ?ar4 ?ar5 ?_)
        case ar1 => simp [Hhl.out]; try omega
        case ar2 => exact fun u hu => Hone.out u (List.mem_of_mem_take hu)
        case ar3 => unfold maxLen; omega
        case ar4 => omega
        all_goals try (case ar5 => first | omega | (simp; done) | (simp; omega))
        intro v7 w7 hown7 hgrow7
        clear q1
        have hbx7 := (hbx.alloc hbx.size (.cells #[] 38)).grown hgrow7 (by simp; omega) (fun b hb => by simp [Value.ownBlock] at hb; omega)
        have B1 := (B1.alloc (.cells #[] 38)).grown hgrow7 (by simp [Value.ownBlock]; omega)
        have B2 := (B2.alloc (.cells #[] 38)).grown hgrow7 (by simp [Value.ownBlock]; omega)
        have HO7 := Lib.hid hown7
        clear hown7 hgrow7 hbx
        have hbx := hbx7
        have hW7 := hbx7.size
        have hB2l := B2.lt
        go_wp2_with (at_builtin; refine wpList_append_row rfl (.tmp 52) (.tmp 53) 38 rfl w7.heap.size 41 i0 _ 3 32 Try.underlying38 hi hz0 hz1 hz2 rfl (by decide) _ _ _ rfl (own_empty (w := w7) rfl (Nat.le_refl _)) _ _ _ _ (cellsV r) rfl ((hr.1.ext hbx).ext ((Below.refl _ _).alloc (Nat.le_refl _) _)) ?br1 ?br2 ?br3 ?br4 ?br5 ?_)
        case br1 => rw [lenV, hr.2]
        case br2 => exact oneV r
        case br3 => unfold maxLen; omega
        case br4 => omega
        all_goals try (case br5 => first | omega | (simp; done) | (simp; omega))
        intro v8 w8 hown8 hgrow8
        obtain ⟨A8, c8, rfl⟩ := own_slice hown8
        try simp only [Nat.zero_add, List.nil_append] at hown8
        have h7a : Below w7.heap.size w7 (w7.alloc (.cells #[] 41)) := (Below.refl _ _).alloc (Nat.le_refl _) _
        have hbx8 := (hbx.alloc hbx.size (.cells #[] 41)).grown hgrow8 (by simp; omega) (fun b hb => by simp [Value.ownBlock] at hb; omega)
        have B1 := (B1.ext h7a).grown hgrow8 (by simp [Value.ownBlock]; omega)
        have B2 := (B2.ext h7a).grown hgrow8 (by simp [Value.ownBlock]; omega)
        have HO8 := Lib.hid ((own_ext HO7.out h7a).kept hgrow8 (by
          cases ho : v7.ownBlock with
          | none => exact .inl rfl
          | some b =>
            have := (HO7.out.lt b ho).2
            exact .inr (by simp [Value.ownBlock]; omega)))
        have hz8 : w7.heap.size + 1 ≤ w8.heap.size := by have := hgrow8.size; simpa using this
        clear hgrow8 HO7 hbx hbx7 h7a
        have hbx := hbx8
        go_wp2_with (at_builtin; refine wpList_append_own _ rfl (.tmp 51) (.tmp 55) 30 rfl (w.heap.size + 1 + 1) 38 j0 _ 1 24 Try.underlying30 hj hy0 hy1 hy2 rfl (by decide) _ _ _ rfl (HO8.out.alloc _) ⟨w8.heap.size, 0, none⟩ 1 1 [.slice A8 m c8] rfl rfl ?dr1 ?dr2 ?dr3 ?dr4 ?dr5 ?_)
        case dr1 => exact (Row.of_blk (Blk.new w8 _ _) (Nat.zero_le _) 1 1 (Nat.le_refl _)).src
        case dr2 => intro u hu; rw [List.mem_singleton] at hu; rw [hu]; rfl
        case dr3 => unfold maxLen; omega
        case dr4 => omega
        all_goals try (case dr5 => first | omega | (simp; done) | (simp; omega))
        intro v9 w9 hown9 hgrow9 _
        have h8a : Below w8.heap.size w8 (w8.alloc (.cells #[.slice A8 m c8] 38)) := (Below.refl _ _).alloc (Nat.le_refl _) _
        have hlt8 := HO8.out.lt
        have hbx9 := (hbx.alloc hbx.size (.cells #[.slice A8 m c8] 38)).grown hgrow9 (by simp; omega) (fun b hb => by have := (hlt8 b hb).1; omega)
        have B1 := (B1.ext h8a).grown hgrow9 (fun e => by have := (hlt8 _ e.symm).1; omega)
        have B2 := (B2.ext h8a).grown hgrow9 (fun e => by have := (hlt8 _ e.symm).1; omega)
        have hown8' := (own_ext hown8 h8a).kept hgrow9 (own_ne (own_ext hown8 h8a) (own_ext HO8.out h8a) (by decide))
        have HV9 := Lib.hid hown8'
        have HO9 := Lib.hid hown9
        have hz9 : w8.heap.size + 1 ≤ w9.heap.size := by have := hgrow9.size; simpa using this
        clear hown8 hown8' hown9 hgrow9 h8a hlt8 hbx hbx8 HO8
        have hbx := hbx9
        have q1 := five B1 (Below.refl _ _)
        go_wp2_with (at_builtin; refine wpList_append_row rfl (.tmp 57) (.tmp 61) 30 rfl (w.heap.size + 1 + 1) 38 j0 _ 1 24 Try.underlying30 hj hy0 hy1 hy2 rfl (by decide) _ _ _ rfl HO9.out _ _ _ _ (hs.drop an) rfl ((Hrow.out.ext hbx).drop (n' - an) (c' - an) an (by omega) (by omega)) ?er1 ?er2 ?er3 ?er4 ?er5 ?_)
        case er1 => simp [Hhl.out]; try omega
        case er2 => exact fun u hu => Hone.out u (List.mem_of_mem_drop hu)
        case er3 => unfold maxLen; omega
        case er4 => omega
        all_goals try (case er5 => first | omega | (simp; done) | (simp; omega))
        intro v10 wa hown10 hgrow10
        obtain ⟨A10, c10, rfl⟩ := own_slice hown10
        have hlt9 := HO9.out.lt
        have hbxa := hbx.grown hgrow10 hbx.size (fun b hb => by have := (hlt9 b hb).1; omega)
        have B1 := B1.grown hgrow10 (fun e => by have := (hlt9 _ e.symm).1; omega)
        have B2 := B2.grown hgrow10 (fun e => by have := (hlt9 _ e.symm).1; omega)
        have HVa := Lib.hid (HV9.out.kept hgrow10 (own_ne HV9.out HO9.out (by decide)))
        have HOa := Lib.hid hown10
        clear q1 hown10 hgrow10 hlt9 HO9 HV9 hbx hbx9
        have hbx := hbxa
        have f4 := B1.frozen 4
        have q4 := B1.cell 4
        go_upto_region 13 with fail
        clear f4 q4
        obtain ⟨wb, hwb, B1', hlowb, hgrb⟩ := Blk.set1 (i := 4) B1 (.slice A10 (an + 1 + (n' - an)) c10)
        rw [← hwb]
        clear hwb
        have HOb := Lib.hid (HOa.out.kept hgrb (own_ne_blk HOa.out B1 (by decide)))
        have HVb := Lib.hid (HVa.out.kept hgrb (own_ne_blk HVa.out B1 (by decide)))
        have B2 := B2.grown hgrb (by simp)
        have B1 : Blk wb w.heap.size 32 #[.string nm, .slice A n c, .int .i64 key, .bool only, .slice A10 (an + 1 + (n' - an)) c10] := B1'
        have hbxb := Below.trans hbx (hlowb _ (Nat.le_refl _))
        clear HOa HVa hgrb hlowb B1' hbx hbxa
        have hbx := hbxb
        have f0 := B2.frozen 0
        have f1 := B2.frozen 1
        have f2 := B2.frozen 2
        have f3 := B2.frozen 3
        have f4 := B2.frozen 4
        have q := five B2 (Below.refl _ _)
        have q1 := five B1 (Below.refl _ _)
        go_wp2
        clear f0 f1 f2 f3 f4 q q1
        obtain ⟨wz, hwz, Bz, hlowz, hgrz⟩ := Blk.set5 B2 (.string nm) (.slice A n c) (.int .i64 key) (.bool only) (.slice A10 (an + 1 + (n' - an)) c10)
        rw [← hwz]
        clear hwz
        have q := five Bz (Below.refl _ _)
        exact bodyPost_ret (v := .tuple #[.agg #[.string nm, .slice A n c, .int .i64 key, .bool only, .slice A10 (an + 1 + (n' - an)) c10], .int .i64 0]) (by simp [results, Try.results28, go_sem, q]; try rfl) rfl
          ⟨_, _, _, rfl, (put_holdO (k := an) hes (Below.trans hbx (hlowz _ (Nat.le_succ _))) (by simp) (HOb.out.kept hgrz (own_ne_blk HOb.out B2 (by decide))) (HVb.out.kept hgrz (own_ne_blk HVb.out B2 (by decide)))), Below.trans hbx (hlowz _ (Nat.le_succ _))⟩
end Go.Proofs.Ytnlmbjmgmofeiaa.ix

/- The document's Take over typed rows. Printed by gen22.py. -/
namespace Go.Proofs.Ytnlmbjmgmofeiaa.ix
open Go.ChangeShapes Go.WideShapes Go.ChangeAt Go.RowKit Go.Proofs.Ytnlmbjmgmofeiaa.lib Go.Proofs.Ytnlmbjmgmofeiaa.val Go.Proofs.Ytnlmbjmgmofeiaa.tb
set_option linter.unusedVariables false

def RTakeO (S : Sch) (A : Option Addr) (n c : Nat) (p : Int × List (List V)) (r : List V) (w : World) (e : Ending) (w' : World) : Prop := ∃ A' n' c' Ar m cr, e = .returned (.tuple #[.agg (tabA S A n c A' n' c'), .slice Ar m cr, .int .i64 p.1]) ∧ RsO w' A' n' c' p.2 ∧ Vs w' w.heap.size Ar m cr r ∧ Below w.heap.size w w'
set_option maxRecDepth 1000000 in
set_option maxHeartbeats 8000000 in
theorem rtakeO_ (S : Sch) (rows : List (List V)) (kv : V) (A : Option Addr) (n c : Nat) (A' : Option Addr) (n' c' : Nat) (w : World)
    (hRO : RsO w A' n' c' rows) (hOk : Ok S.cols S.key rows) (hn : S.cols.length ≤ 100) (hrows : rows.length ≤ 1000) (hkv : vchk kv = 0) :
    Calls Try.prog 25 #[.agg (tabA S A n c A' n' c'), .agg #[.int .i64 kv.k, .int .i64 kv.n, .string kv.s]] w (RTakeO S A n c (takeL S.key rows kv) (rowL S.key rows kv) w) := by
  have hR := hRO.rs
  have hF := hRO.fine
  obtain ⟨j0, hj, hy0, hy1, hy2⟩ := info_parts (P := Try.prog) (e := 38) (z := .slice none 0 0) (size := 1) (bytes := 24) (by kernel_rfl)
  have hRn := hR.len
  have HRN := Lib.hid hRn
  have hn' : n' ≤ 1000 := by omega
  have hget := fun w' (h : Below w.heap.size w w') => rget_ S rows kv 0 A n c A' n' c' w' (hR.ext h) hOk hn hrows hkv
  have hat := fun w' (h : Below w.heap.size w w') => rat_ S rows kv 0 A n c A' n' c' w' (hR.ext h) hOk hn hrows hkv
  obtain ⟨p, hp⟩ : ∃ p, takeL S.key rows kv = p := ⟨_, rfl⟩
  obtain ⟨rr, hrr⟩ : ∃ r, rowL S.key rows kv = r := ⟨_, rfl⟩
  have hIs := fun (h : isL S.key kv rows = true) => rowL_at h
  have hrn : isL S.key kv rows = false → rr = [] := by
    intro h
    rw [← hrr]; unfold rowL; rw [h]; rfl
  obtain ⟨iv, hiv⟩ : ∃ b, isL S.key kv rows = b := ⟨_, rfl⟩
  obtain ⟨an, han⟩ : ∃ a, atL S.key kv rows = a := ⟨_, rfl⟩
  rw [hp, hrr]
  rw [hrr, hiv] at hget
  rw [hrr, hiv, han] at hIs
  rw [hiv] at hrn
  rw [han] at hat
  unfold takeL at hp
  rw [hiv, han] at hp
  have HIs := Lib.hid hIs
  have Hrn := Lib.hid hrn
  have Hget := Lib.hid hget
  have Hat := Lib.hid hat
  have HP := Lib.hid hp
  clear hget hat hp hrr hIs hrn hiv han hRn hOk hkv
  obtain ⟨nm, cols, key, only⟩ := S
  obtain ⟨k0, k1, k2⟩ := kv
  simp only [tabA] at hn Hget Hat HIs HP ⊢
  go_enter Try.func25, Try.ntmps25
  go_upto_region 1 with fail
  obtain ⟨W, hW_, hbW, B1, BV, B2⟩ : ∃ W_, W_ = (((w.alloc (.cells #[.string nm, .slice A n c, .int .i64 key, .bool only, .slice A' n' c'] 32)).alloc (.cells #[.int .i64 k0, .int .i64 k1, .string k2] 41)).alloc (.cells #[.string ⟨#[]⟩, .slice none 0 0, .int .i64 0, .bool false, .slice none 0 0] 32)) ∧ Below w.heap.size w W_ ∧ Blk W_ (w.heap.size) 32 #[.string nm, .slice A n c, .int .i64 key, .bool only, .slice A' n' c'] ∧ Blk W_ (w.heap.size + 1) 41 #[.int .i64 k0, .int .i64 k1, .string k2] ∧ Blk W_ (w.heap.size + 1 + 1) 32 #[.string ⟨#[]⟩, .slice none 0 0, .int .i64 0, .bool false, .slice none 0 0] :=
    ⟨_, rfl, ((((Below.refl _ _).alloc (Nat.le_refl _) _).alloc (by simp; try omega) _).alloc (by simp; try omega) _), (((blk_new_at w (w.heap.size) _ _ (by simp)).alloc _).alloc _), ((blk_new_at (w.alloc (.cells #[.string nm, .slice A n c, .int .i64 key, .bool only, .slice A' n' c'] 32)) (w.heap.size + 1) _ _ (by simp)).alloc _), (blk_new_at ((w.alloc (.cells #[.string nm, .slice A n c, .int .i64 key, .bool only, .slice A' n' c'] 32)).alloc (.cells #[.int .i64 k0, .int .i64 k1, .string k2] 41)) (w.heap.size + 1 + 1) _ _ (by simp))⟩
  rw [← hW_]
  clear hW_
  have q1 := five B1 (Below.refl _ _)
  have qv := BV.three (Below.refl _ _)
  have hBg := B2.lt
  go_wp2_with fail
  clear q1 qv
  refine (Hget.out _ hbW).mono ?_
  rintro e w3 ⟨Ag, mg, cg, rfl, hVg, hb3⟩
  have hbx := Below.trans hbW (Below.mono hb3 hbW.size)
  have hVg : Vs w3 (w.heap.size + 1 + 1 + 1) Ag mg cg rr := hVg.base (by omega)
  have B1 := B1.ext hb3
  have BV := BV.ext hb3
  have B2 := B2.ext hb3
  have hz3 := hb3.size
  clear hb3
  cases iv with
  | false =>
    have hpe : p = (2, rows) := by rw [← HP.out, if_neg (by simp)]
    have hre : rr = [] := Hrn.out rfl
    subst hpe hre
    have f0 := B2.frozen 0
    have f1 := B2.frozen 1
    have f2 := B2.frozen 2
    have f3 := B2.frozen 3
    have f4 := B2.frozen 4
    have q := five B2 (Below.refl _ _)
    have q1 := five B1 (Below.refl _ _)
    go_wp2
    clear f0 f1 f2 f3 f4 q q1
    obtain ⟨wz, hwz, Bz, hlowz, hgrz⟩ := Blk.set5 B2 (.string nm) (.slice A n c) (.int .i64 key) (.bool only) (.slice A' n' c')
    rw [← hwz]
    clear hwz
    have q := five Bz (Below.refl _ _)
    exact bodyPost_ret (v := .tuple #[.agg #[.string nm, .slice A n c, .int .i64 key, .bool only, .slice A' n' c'], .slice none 0 0, .int .i64 2]) (by simp [results, Try.results25, go_sem, q]; try rfl) rfl
      ⟨_, _, _, _, _, _, rfl, hRO.later hbx hgrz (by omega), Vs.nil _ _, Below.trans hbx (hlowz _ (by omega))⟩
  | true =>
    rw [if_pos rfl] at HP
    obtain ⟨r, hr, hrr, _⟩ := HIs.out rfl
    have hrr := hrr.symm
    subst hrr
    have han2 : an < n' := by rw [← HRN.out]; exact (List.getElem?_eq_some_iff.1 hr).1
    clear hr
    have hpe := HP.out.symm
    subst hpe
    have q1 := five B1 (Below.refl _ _)
    have qv := BV.three (Below.refl _ _)
    go_wp2_with fail
    clear q1 qv
    refine (Hat.out _ hbx).mono ?_
    rintro e w6 ⟨rfl, hb6⟩
    have hbx := Below.trans hbx (Below.mono hb6 hbx.size)
    have B1 := B1.ext hb6
    have B2 := B2.ext hb6
    have hVg := hVg.ext hb6
    have hz6 := hb6.size
    clear hb6 BV Hget Hat HP HIs Hrn
    have hW6 : w.heap.size + 1 + 1 + 1 ≤ w6.heap.size := by omega
    have hRR := hRO
    obtain ⟨hs, howns, hes, _⟩ := hRR
    have hhs := Es.hs hes
    have hrow := Row.of_own howns
    have hrow : Row w 0 A' n' c' hs := hrow.base (Nat.zero_le _)
    have Hrow := Lib.hid hrow
    have Hhl := Lib.hid (hhs.1.trans HRN.out)
    have Hone := Lib.hid hhs.one_
    have hnc := hrow.le_
    clear hrow
    obtain ⟨bA, oA, rfl, _, _, _⟩ := hR.some_ (by omega)
    have ha1 : (0 : Int) ≤ (an : Int) := by omega
    by_cases hca : c' = an + 1
    case pos =>
      subst hca
      obtain rfl : n' = an + 1 := by omega
      have q1 := fun o => five B1 ((Below.refl _ _).alloc (Nat.le_refl _) o)
      go_wp2_with (at_builtin; refine wpList_append_row rfl (.tmp 23) (.tmp 27) 30 rfl w6.heap.size 38 j0 _ 1 24 Try.underlying30 hj hy0 hy1 hy2 rfl (by decide) _ _ _ rfl (own_empty (w := w6) rfl (Nat.le_refl _)) _ _ _ _ (hs.take an) rfl (((Hrow.out.ext hbx).ext ((Below.refl _ _).alloc (Nat.le_refl _) _)).take an (an + 1) an (by omega) (by omega)) ?a1 ?a2 ?a3 ?a4 ?a5 ?_)
      case a1 => simp [Hhl.out]; try omega
      case a2 => exact fun u hu => Hone.out u (List.mem_of_mem_take hu)
      case a3 => unfold maxLen; omega
      case a4 => omega
      all_goals try (case a5 => first | omega | (simp; done) | (simp; omega))
      intro v7 w7 hown7 hgrow7
      clear q1
      have hbx7 := (hbx.alloc hbx.size (.cells #[] 38)).grown hgrow7 (by simp; omega) (fun b hb => by simp [Value.ownBlock] at hb; omega)
      have B1 := (B1.alloc (.cells #[] 38)).grown hgrow7 (by simp [Value.ownBlock]; omega)
      have B2 := (B2.alloc (.cells #[] 38)).grown hgrow7 (by simp [Value.ownBlock]; omega)
      have hy7 := ((Below.refl w6.heap.size w6).alloc (Nat.le_refl _) (.cells #[] 38)).grown hgrow7 (by simp) (fun b hb => by simp [Value.ownBlock] at hb; omega)
      have hz7 := hy7.size
      have HO7 := Lib.hid hown7
      clear hown7 hgrow7 hbx
      have hbx := hbx7
      have hW7 := hbx7.size
      have q1 := five B1 (Below.refl _ _)
      go_wp2_with (at_builtin; refine wpList_append_row rfl (.tmp 29) (.tmp 34) 30 rfl w6.heap.size 38 j0 _ 1 24 Try.underlying30 hj hy0 hy1 hy2 rfl (by decide) _ _ _ rfl HO7.out _ _ _ _ (hs.drop (an + 1)) rfl (show Row _ 0 (some ⟨bA, oA, none⟩) 0 0 (hs.drop (an + 1)) by rw [List.drop_eq_nil_of_le (by rw [Hhl.out]; omega)]; exact Row.empty _ _ _ _) ?e1 ?e2 ?e3 ?e4 ?e5 ?_)
      case e1 => simp [Hhl.out]; try omega
      case e2 => exact fun u hu => Hone.out u (List.mem_of_mem_drop hu)
      case e3 => unfold maxLen; omega
      case e4 => omega
      all_goals try (case e5 => first | omega | (simp; done) | (simp; omega))
      intro v10 wa hown10 hgrow10
      obtain ⟨A10, c10, rfl⟩ := own_slice hown10
      have hlt9 := HO7.out.lt
      have hbxa := hbx.grown hgrow10 hbx.size (fun b hb => by have := (hlt9 b hb).1; omega)
      have B1 := B1.grown hgrow10 (fun e => by have := (hlt9 _ e.symm).1; omega)
      have B2 := B2.grown hgrow10 (fun e => by have := (hlt9 _ e.symm).1; omega)
      have hVg := hVg.ext (hy7.grown hgrow10 hy7.size (fun b hb => (hlt9 b hb).1))
      have HOa := Lib.hid hown10
      clear q1 hown10 hgrow10 hlt9 HO7 hbx
      have hbx := hbxa
      have f4 := B1.frozen 4
      have q4 := B1.cell 4
      go_upto_region 7 with fail
      clear f4 q4
      obtain ⟨wb, hwb, B1', hlowb, hgrb⟩ := Blk.set1 (i := 4) B1 (.slice A10 an c10)
      rw [← hwb]
      clear hwb
      have HOb := Lib.hid (HOa.out.kept hgrb (own_ne_blk HOa.out B1 (by decide)))
      have hVg := hVg.grownL hgrb (by omega)
      have B2 := B2.grown hgrb (by simp; try omega)
      have B1 : Blk wb w.heap.size 32 #[.string nm, .slice A n c, .int .i64 key, .bool only, .slice A10 an c10] := B1'
      have hbxb := Below.trans hbx (hlowb _ (Nat.le_refl _))
      clear HOa hgrb hlowb B1' hbx hbxa
      have hbx := hbxb
      have f0 := B2.frozen 0
      have f1 := B2.frozen 1
      have f2 := B2.frozen 2
      have f3 := B2.frozen 3
      have f4 := B2.frozen 4
      have q := five B2 (Below.refl _ _)
      have q1 := five B1 (Below.refl _ _)
      go_wp2
      clear f0 f1 f2 f3 f4 q q1
      obtain ⟨wz, hwz, Bz, hlowz, hgrz⟩ := Blk.set5 B2 (.string nm) (.slice A n c) (.int .i64 key) (.bool only) (.slice A10 an c10)
      rw [← hwz]
      clear hwz
      have q := five Bz (Below.refl _ _)
      exact bodyPost_ret (v := .tuple #[.agg #[.string nm, .slice A n c, .int .i64 key, .bool only, .slice A10 an c10], .slice Ag mg cg, .int .i64 0]) (by simp [results, Try.results25, go_sem, q]; try rfl) rfl
        ⟨_, _, _, _, _, _, rfl, (take_holdO (k := an) hes (Below.trans hbx (hlowz _ (by omega))) (HOb.out.kept hgrz (own_ne_blk HOb.out B2 (by decide)))), (hVg.grownL hgrz (by omega)).base (by omega), Below.trans hbx (hlowz _ (by omega))⟩
    case neg =>
      have q1 := fun o => five B1 ((Below.refl _ _).alloc (Nat.le_refl _) o)
      go_wp2_with (at_builtin; refine wpList_append_row rfl (.tmp 23) (.tmp 27) 30 rfl w6.heap.size 38 j0 _ 1 24 Try.underlying30 hj hy0 hy1 hy2 rfl (by decide) _ _ _ rfl (own_empty (w := w6) rfl (Nat.le_refl _)) _ _ _ _ (hs.take an) rfl (((Hrow.out.ext hbx).ext ((Below.refl _ _).alloc (Nat.le_refl _) _)).take an c' an (by omega) (by omega)) ?a1 ?a2 ?a3 ?a4 ?a5 ?_)
      case a1 => simp [Hhl.out]; try omega
      case a2 => exact fun u hu => Hone.out u (List.mem_of_mem_take hu)
      case a3 => unfold maxLen; omega
      case a4 => omega
      all_goals try (case a5 => first | omega | (simp; done) | (simp; omega))
      intro v7 w7 hown7 hgrow7
      clear q1
      have hbx7 := (hbx.alloc hbx.size (.cells #[] 38)).grown hgrow7 (by simp; omega) (fun b hb => by simp [Value.ownBlock] at hb; omega)
      have B1 := (B1.alloc (.cells #[] 38)).grown hgrow7 (by simp [Value.ownBlock]; omega)
      have B2 := (B2.alloc (.cells #[] 38)).grown hgrow7 (by simp [Value.ownBlock]; omega)
      have hy7 := ((Below.refl w6.heap.size w6).alloc (Nat.le_refl _) (.cells #[] 38)).grown hgrow7 (by simp) (fun b hb => by simp [Value.ownBlock] at hb; omega)
      have hz7 := hy7.size
      have HO7 := Lib.hid hown7
      clear hown7 hgrow7 hbx
      have hbx := hbx7
      have hW7 := hbx7.size
      have q1 := five B1 (Below.refl _ _)
      go_wp2_with (at_builtin; refine wpList_append_row rfl (.tmp 29) (.tmp 34) 30 rfl w6.heap.size 38 j0 _ 1 24 Try.underlying30 hj hy0 hy1 hy2 rfl (by decide) _ _ _ rfl HO7.out _ _ _ _ (hs.drop (an + 1)) rfl ((Hrow.out.ext hbx).drop (n' - (an + 1)) (c' - (an + 1)) (an + 1) (by omega) (by omega)) ?e1 ?e2 ?e3 ?e4 ?e5 ?_)
      case e1 => simp [Hhl.out]; try omega
      case e2 => exact fun u hu => Hone.out u (List.mem_of_mem_drop hu)
      case e3 => unfold maxLen; omega
      case e4 => omega
      all_goals try (case e5 => first | omega | (simp; done) | (simp; omega))
      intro v10 wa hown10 hgrow10
      obtain ⟨A10, c10, rfl⟩ := own_slice hown10
      have hlt9 := HO7.out.lt
      have hbxa := hbx.grown hgrow10 hbx.size (fun b hb => by have := (hlt9 b hb).1; omega)
      have B1 := B1.grown hgrow10 (fun e => by have := (hlt9 _ e.symm).1; omega)
      have B2 := B2.grown hgrow10 (fun e => by have := (hlt9 _ e.symm).1; omega)
      have hVg := hVg.ext (hy7.grown hgrow10 hy7.size (fun b hb => (hlt9 b hb).1))
      have HOa := Lib.hid hown10
      clear q1 hown10 hgrow10 hlt9 HO7 hbx
      have hbx := hbxa
      have f4 := B1.frozen 4
      have q4 := B1.cell 4
      go_upto_region 7 with fail
      clear f4 q4
      obtain ⟨wb, hwb, B1', hlowb, hgrb⟩ := Blk.set1 (i := 4) B1 (.slice A10 (an + (n' - (an + 1))) c10)
      rw [← hwb]
      clear hwb
      have HOb := Lib.hid (HOa.out.kept hgrb (own_ne_blk HOa.out B1 (by decide)))
      have hVg := hVg.grownL hgrb (by omega)
      have B2 := B2.grown hgrb (by simp; try omega)
      have B1 : Blk wb w.heap.size 32 #[.string nm, .slice A n c, .int .i64 key, .bool only, .slice A10 (an + (n' - (an + 1))) c10] := B1'
      have hbxb := Below.trans hbx (hlowb _ (Nat.le_refl _))
      clear HOa hgrb hlowb B1' hbx hbxa
      have hbx := hbxb
      have f0 := B2.frozen 0
      have f1 := B2.frozen 1
      have f2 := B2.frozen 2
      have f3 := B2.frozen 3
      have f4 := B2.frozen 4
      have q := five B2 (Below.refl _ _)
      have q1 := five B1 (Below.refl _ _)
      go_wp2
      clear f0 f1 f2 f3 f4 q q1
      obtain ⟨wz, hwz, Bz, hlowz, hgrz⟩ := Blk.set5 B2 (.string nm) (.slice A n c) (.int .i64 key) (.bool only) (.slice A10 (an + (n' - (an + 1))) c10)
      rw [← hwz]
      clear hwz
      have q := five Bz (Below.refl _ _)
      exact bodyPost_ret (v := .tuple #[.agg #[.string nm, .slice A n c, .int .i64 key, .bool only, .slice A10 (an + (n' - (an + 1))) c10], .slice Ag mg cg, .int .i64 0]) (by simp [results, Try.results25, go_sem, q]; try rfl) rfl
        ⟨_, _, _, _, _, _, rfl, (take_holdO (k := an) hes (Below.trans hbx (hlowz _ (by omega))) (HOb.out.kept hgrz (own_ne_blk HOb.out B2 (by decide)))), (hVg.grownL hgrz (by omega)).base (by omega), Below.trans hbx (hlowz _ (by omega))⟩
end Go.Proofs.Ytnlmbjmgmofeiaa.ix

/- law11's Fill: typed rows. Printed by gen22.py. -/
namespace Go.Proofs.Ytnlmbjmgmofeiaa.ix
open Go.ChangeShapes Go.WideShapes Go.ChangeAt Go.RowKit Go.Proofs.Ytnlmbjmgmofeiaa.lib Go.Proofs.Ytnlmbjmgmofeiaa.val Go.Proofs.Ytnlmbjmgmofeiaa.tb
set_option linter.unusedVariables false

def FillO (S : Sch) (A7 : Option Addr) (c7 : Nat) (w : World) (e : Ending) (w' : World) : Prop := ∃ rows A n c, e = .returned (.agg (tabA S A7 S.cols.length c7 A n c)) ∧ RsO w' A n c rows ∧ Ok S.cols S.key rows ∧ rows.length ≤ 50 ∧ (∀ r ∈ rows, Fitd S.cols r) ∧ Below w.heap.size w w'
set_option maxRecDepth 1000000 in
set_option maxHeartbeats 8000000 in
theorem fillO_ (S : Sch) (A7 : Option Addr) (c7 : Nat) (Ai : Option Addr) (ni ci : Nat) (zs : List Int) (w : World) (hS : SOk S) (hC : Cs w 0 A7 S.cols.length c7 S.cols)
    (hI : Row w 0 Ai ni ci (flatK encI zs)) (hni : zs.length = ni) (hi2 : ni ≤ maxLen) (hz : ∀ x ∈ zs, ok64 x) :
    Calls Try.prog 13 #[.agg (schA S A7 S.cols.length c7), .slice Ai ni ci] w (FillO S A7 c7 w) := by
  unfold maxLen at hi2
  have HNI := Lib.hid hni
  have HZ := Lib.hid hz
  have h6 := hS.six
  have hn7 : S.cols.length ≤ 100 := by omega
  have hCs : Hid (∀ w', Below w.heap.size w w' → Cs w' 0 A7 S.cols.length c7 S.cols) := Lib.hid (fun w' h => (hC.ext h))
  have HIx := Lib.hid (fun w' (h : Below w.heap.size w w') => hI.ext h)
  clear hni hz hC
  simp only [schA]
  go_enter Try.func13, Try.ntmps13
  go_upto_region 2 with fail
  obtain ⟨W, hW_, hbW, B7, BR, BX⟩ : ∃ W_, W_ = (((w.alloc (.cells #[.string S.name, .slice A7 S.cols.length c7, .int .i64 S.key, .bool S.only] 24)).alloc (.cells #[.string ⟨#[]⟩, .slice none 0 0, .int .i64 0, .bool false, .slice none 0 0] 32)).alloc (.cells #[.string S.name, .slice A7 S.cols.length c7, .int .i64 S.key, .bool S.only, .slice none 0 0] 32)) ∧ Below w.heap.size w W_ ∧ Blk W_ (w.heap.size) 24 #[.string S.name, .slice A7 S.cols.length c7, .int .i64 S.key, .bool S.only] ∧ Blk W_ (w.heap.size + 1) 32 #[.string ⟨#[]⟩, .slice none 0 0, .int .i64 0, .bool false, .slice none 0 0] ∧ Blk W_ (w.heap.size + 1 + 1) 32 #[.string S.name, .slice A7 S.cols.length c7, .int .i64 S.key, .bool S.only, .slice none 0 0] :=
    ⟨_, rfl, ((((Below.refl _ _).alloc (Nat.le_refl _) _).alloc (by simp; try omega) _).alloc (by simp; try omega) _), (((blk_new_at w (w.heap.size) _ _ (by simp)).alloc _).alloc _), ((blk_new_at (w.alloc (.cells #[.string S.name, .slice A7 S.cols.length c7, .int .i64 S.key, .bool S.only] 24)) (w.heap.size + 1) _ _ (by simp)).alloc _), (blk_new_at ((w.alloc (.cells #[.string S.name, .slice A7 S.cols.length c7, .int .i64 S.key, .bool S.only] 24)).alloc (.cells #[.string ⟨#[]⟩, .slice none 0 0, .int .i64 0, .bool false, .slice none 0 0] 32)) (w.heap.size + 1 + 1) _ _ (by simp))⟩
  rw [← hW_]
  clear hW_
  have hxl := BX.lt
  obtain ⟨H, hH⟩ : ∃ H, w.heap.size = H := ⟨_, rfl⟩
  have hHle : H ≤ w.heap.size := Nat.le_of_eq hH.symm
  rw [hH] at B7 BR BX hxl hbW hCs HIx ⊢
  go_wp2_with fail
  go_loopw [6] (fun i wr => ∃ (k : Nat) (rows : List (List V)) (A2 : Option Addr) (n2 c2 : Nat), i = .int .i64 k ∧ k ≤ ni ∧ k ≤ 50 ∧ rows.length ≤ k ∧ Ok S.cols S.key rows ∧ (∀ r ∈ rows, Fitd S.cols r) ∧ Blk wr (H + 1 + 1) 32 #[.string S.name, .slice A7 S.cols.length c7, .int .i64 S.key, .bool S.only, .slice A2 n2 c2] ∧ RsO wr A2 n2 c2 rows ∧ Blk wr H 24 #[.string S.name, .slice A7 S.cols.length c7, .int .i64 S.key, .bool S.only] ∧ Blk wr (H + 1) 32 #[.string ⟨#[]⟩, .slice none 0 0, .int .i64 0, .bool false, .slice none 0 0] ∧ Below H w wr) (fun i _ => ni - (intOf i).toNat)
  case atStart => exact ⟨0, [], none, 0, 0, rfl, Nat.zero_le _, Nat.zero_le _, Nat.zero_le _, hS.ok0, by simp, BX, RsO.nil _, B7, BR, hbW⟩
  case round =>
    clear B7 BX BR hbW hxl
    obtain ⟨k, rows, A2, n2, c2, rfl, hk, hk30, hlen, hOk, hNum, BX, hRx, B7, BR, hbg⟩ := hrel
    have hOk := Lib.hid hOk
    have hNum := Lib.hid hNum
    have hbw := hbg
    by_cases hgo : k < ni ∧ k < 50
    case neg =>
      have hcond : (¬ k < ni ∧ decide ((k : Int) < (ni : Int)) = false) ∨ (k < ni ∧ decide ((k : Int) < (ni : Int)) = true ∧ ¬ k < 50 ∧ decide ((k : Int) < 50) = false) := by
        by_cases h : k < ni
        · exact .inr ⟨h, by simp; omega, by omega, by simp; omega⟩
        · exact .inl ⟨h, by simp; omega⟩
      clear hgo
      rcases hcond with ⟨hq0, hd1⟩ | ⟨hq0, hd1, hq1, hd2⟩
      all_goals
        have q8 := five BX (Below.refl _ _)
        have q9 := five BR (Below.refl _ _)
        have f0 := BR.frozen 0
        have f1 := BR.frozen 1
        have f2 := BR.frozen 2
        have f3 := BR.frozen 3
        have f4 := BR.frozen 4
        have hrl := BR.lt
        go_wp2
        clear f0 f1 f2 f3 f4 q8 q9
        obtain ⟨wz, hwz, Bz, hlowz, hgrz⟩ := Blk.set5 BR (.string S.name) (.slice A7 S.cols.length c7) (.int .i64 S.key) (.bool S.only) (.slice A2 n2 c2)
        rw [← hwz]
        clear hwz
        have q := five Bz (Below.refl _ _)
        refine bodyPost_ret (v := .agg (tabA S A7 S.cols.length c7 A2 n2 c2)) (by simp [results, Try.results13, go_sem, q, tabA]; try rfl) rfl ?_
        unfold FillO
        rw [hH]
        exact ⟨rows, A2, n2, c2, rfl, hRx.blk BR hgrz (by decide) (by decide), hOk.out, by omega, hNum.out, Below.trans hbg (hlowz _ (by omega))⟩
    obtain ⟨hgo1, hgo2⟩ := hgo
    have hd1 : decide ((k : Int) < (ni : Int)) = true := by simp; omega
    have hd2 : decide ((k : Int) < 50) = true := by simp; omega
    have hkni : (k : Int) < (ni : Int) := by omega
    obtain ⟨x, hx⟩ : ∃ x, zs[k]? = some x := ⟨_, List.getElem?_eq_getElem (by rw [HNI.out]; exact hgo1)⟩
    have hx64 := HZ.out x (List.mem_of_getElem? hx)
    obtain ⟨bi, oi, rfl, _, _, _⟩ := hI.some_ (by omega)
    have hxc := flatK_at encI 1 (fun _ => rfl) zs k x 0 _ hx rfl
    have HXC := Lib.hid hxc
    clear hxc hx
    obtain ⟨kv, hri⟩ := row_i hS x
    obtain ⟨r, hr⟩ : ∃ r, fitL S.cols x = r := ⟨_, rfl⟩
    rw [hr] at hri
    have hri := Lib.hid hri
    have HNP := Lib.hid (fitd_put (cs := S.cols) (key := S.key) hNum.out ⟨x, hr.symm⟩)
    have htl := put_len (cs := S.cols) (key := S.key) (rows := rows) (r := r)
    have hok' := putL_ok hOk.out r
    obtain ⟨p, hp⟩ : ∃ p, putL S.cols S.key rows r = p := ⟨_, rfl⟩
    rw [hp] at htl hok' HNP
    have Htl := Lib.hid htl
    have Hid' := Lib.hid hok'
    clear htl hok'
    go_wp2_with fail
    have hrd : Below wr.heap.size wr wr.drew := (Below.refl _ _).drew
    have B7 := B7.ext hrd
    have BR := BR.ext hrd
    have B8 : Blk wr.drew (H + 1 + 1) 32 #[.string S.name, .slice A7 S.cols.length c7, .int .i64 S.key, .bool S.only, .slice A2 n2 c2] := BX.ext hrd
    have hR8 := hRx.ext hrd
    have hbgd := Below.trans hbg (Below.mono hrd (Nat.le_trans hHle hbg.size))
    have hg8 := B8.lt
    have D := fun w' (h : Below (H + 1 + 1) wr.drew w') => four (B7.below h (by omega)) (Below.refl _ _)
    have D2 := fun w' (h : Below (H + 1 + 1) wr.drew w') => (HIx.out _ (Below.trans hbgd (Below.mono h (by omega)))).at_ HXC.out
    simp only [Nat.mul_one, Nat.add_zero] at D2
    refine wp_region_tree (S := fun w' => Below (H + 1 + 1) wr.drew w') (.take 1 (.take 2 (.take 3 (.take 4 (.take 5 (.two 0 6 (.one 6 (.one 7 (.take 8 (.take 9 (.take 10 (.one 11 .nil)))))) (.one 0 (.one 7 (.take 8 (.take 9 (.take 10 (.one 11 .nil))))))))))))
      (by kernel_rfl) (by kernel_rfl) (by kernel_rfl) (by decide) (by intro c a d v w h; cases d <;> exact h) (Below.refl _ _) ?_
    repeat ((with_reducible show wpTree _ _ _ _ (.take _ _) _ _); (first | (refine wpTree_on (v := ?_) rfl rfl (wanted_free rfl) (fun w' hS => ?_) ?_; rotate_left; (focus (go_simp; (try with_reducible rfl); done)); try simp only [List.setIfInBounds_toArray, List.set_cons_zero, List.set_cons_succ]) | (refine wpTree_on (v := ?_) rfl rfl (wanted_yes rfl rfl rfl) (fun w' hS => ?_) ?_; rotate_left; (focus (go_simp; (try with_reducible rfl); done)); try simp only [List.setIfInBounds_toArray, List.set_cons_zero, List.set_cons_succ]) | (refine wpTree_off rfl rfl (wanted_no rfl rfl rfl) ?_; try simp only [List.setIfInBounds_toArray, List.set_cons_zero, List.set_cons_succ]) | (refine wpTree_off rfl rfl (wanted_undef rfl rfl rfl) ?_; try simp only [List.setIfInBounds_toArray, List.set_cons_zero, List.set_cons_succ])))
    clear D D2
    have hrr : wr.heap.size = wr.drew.heap.size := rfl
    generalize wr.drew = wd at *
    refine wpTree_both rfl (wanted_free rfl) rfl (wanted_free rfl) (fun K hK => ?_) (fun K hK => ?_)
    · have q8 := five B8 (Below.refl _ _)
      go_simp
      refine hK.out _ _ (Below.refl _ _) ?_
      clear hK K q8
      refine wpTree_do rfl (wanted_free rfl) (fun K hK => ?_); go_simp
      refine (fit_ S 0 A7 S.cols.length c7 x _ (hCs.out _ (Below.trans hbgd (Below.mono (Below.refl (H + 1 + 1) wd) (by omega)))) hn7 hS.kinds hx64.1 hx64.2).mono ?_
      rintro e w5 ⟨Ar, cr, rfl, hown5, hb5⟩
      have hb5' : Below (H + 1 + 1) wd w5 := Below.trans (Below.refl (H + 1 + 1) wd) (Below.mono hb5 (by have := B8.lt; omega))
      refine hK.out _ _ hb5' ?_
      clear hK K
      rw [hr] at hown5
      have hVr : Vs w5 0 Ar S.cols.length cr r := (Vs.of_own hown5).base (Nat.zero_le _)
      have hC5 := hCs.out _ (Below.trans hbgd (Below.mono hb5' (by omega)))
      have hR5 := hR8.ext hb5
      have B85 := B8.ext hb5
      have hz5 := hb5.size
      have hz8 := B8.lt
      refine wpTree_do rfl (wanted_free rfl) (fun K hK => ?_); go_simp
      refine (rputO_ S rows r 0 A7 S.cols.length c7 A2 n2 c2 0 Ar S.cols.length cr w5 hC5 hR5 hVr hri.out.small hOk.out hn7 (by omega) (by omega)).mono ?_
      rintro e w6 ⟨A6, n6, c6, rfl, hR6, hb6⟩
      rw [hp] at hR6 ⊢
      have hb6' := Below.trans hb5' (Below.mono hb6 (by omega))
      refine hK.out _ _ hb6' ?_
      clear hK K
      simp only [tabA]
      repeat ((with_reducible show wpTree _ _ _ _ (.take _ _) _ _); (first | (refine wpTree_on (v := ?_) rfl rfl (wanted_free rfl) (fun w' hS => ?_) ?_; rotate_left; (focus (go_simp; (try with_reducible rfl); done)); try simp only [List.setIfInBounds_toArray, List.set_cons_zero, List.set_cons_succ]) | (refine wpTree_on (v := ?_) rfl rfl (wanted_yes rfl rfl rfl) (fun w' hS => ?_) ?_; rotate_left; (focus (go_simp; (try with_reducible rfl); done)); try simp only [List.setIfInBounds_toArray, List.set_cons_zero, List.set_cons_succ]) | (refine wpTree_off rfl rfl (wanted_no rfl rfl rfl) ?_; try simp only [List.setIfInBounds_toArray, List.set_cons_zero, List.set_cons_succ]) | (refine wpTree_off rfl rfl (wanted_undef rfl rfl rfl) ?_; try simp only [List.setIfInBounds_toArray, List.set_cons_zero, List.set_cons_succ])))
      have hB8 : Blk w6 (H + 1 + 1) 32 #[.string S.name, .slice A7 S.cols.length c7, .int .i64 S.key, .bool S.only, .slice A2 n2 c2] := (Blk.below B85 hb6 (by omega))
      have f0 := hB8.frozen 0
      have f1 := hB8.frozen 1
      have f2 := hB8.frozen 2
      have f3 := hB8.frozen 3
      have f4 := hB8.frozen 4
      have q8 := five hB8 (Below.refl _ _)
      refine wpTree_do rfl (wanted_free rfl) (fun K hK => ?_); go_simp
      clear f0 f1 f2 f3 f4 q8
      obtain ⟨w9, hw9, B9, hlow9, hgr9⟩ := Blk.set5 hB8 (.string S.name) (.slice A7 S.cols.length c7) (.int .i64 S.key) (.bool S.only) (.slice A6 n6 c6)
      rw [← hw9]
      clear hw9
      have hR9 := hR6.blk hB8 hgr9 (by decide) (by decide)
      have hb9' := Below.trans hb6' (hlow9 _ (Nat.le_refl _))
      refine hK.out _ _ hb9' ?_
      clear hK K
      refine wpTree_end ?_
      have hbg9 := Below.trans hbgd (Below.mono hb9' (by omega))
      go_wp2
      go_roundw
      case rel => exact ⟨k + 1, p.2, A6, n6, c6, by go_num, by omega, by omega, by have := Htl.out; split at this <;> omega, Hid'.out, HNP.out, B9, hR9, Blk.below B7 hb9' (by omega), Blk.below BR hb9' (by omega), hbg9⟩
      case measure => simp [intOf]; omega
    · go_simp
      refine (fit_ S 0 A7 S.cols.length c7 x _ (hCs.out _ (Below.trans hbgd (Below.mono (Below.refl (H + 1 + 1) wd) (by omega)))) hn7 hS.kinds hx64.1 hx64.2).mono ?_
      rintro e w5 ⟨Ar, cr, rfl, hown5, hb5⟩
      have hb5' : Below (H + 1 + 1) wd w5 := Below.trans (Below.refl (H + 1 + 1) wd) (Below.mono hb5 (by have := B8.lt; omega))
      refine hK.out _ _ hb5' ?_
      clear hK K
      rw [hr] at hown5
      have hVr : Vs w5 0 Ar S.cols.length cr r := (Vs.of_own hown5).base (Nat.zero_le _)
      have hC5 := hCs.out _ (Below.trans hbgd (Below.mono hb5' (by omega)))
      have hR5 := hR8.ext hb5
      have B85 := B8.ext hb5
      have hz5 := hb5.size
      have hz8 := B8.lt
      have q8 := five (B85 : Blk w5 (H + 1 + 1) 32 #[.string S.name, .slice A7 S.cols.length c7, .int .i64 S.key, .bool S.only, .slice A2 n2 c2]) (Below.refl _ _)
      refine wpTree_do rfl (wanted_free rfl) (fun K hK => ?_); go_simp
      refine hK.out _ _ hb5' ?_
      clear hK K q8
      refine wpTree_do rfl (wanted_free rfl) (fun K hK => ?_); go_simp
      refine (rputO_ S rows r 0 A7 S.cols.length c7 A2 n2 c2 0 Ar S.cols.length cr w5 hC5 hR5 hVr hri.out.small hOk.out hn7 (by omega) (by omega)).mono ?_
      rintro e w6 ⟨A6, n6, c6, rfl, hR6, hb6⟩
      rw [hp] at hR6 ⊢
      have hb6' := Below.trans hb5' (Below.mono hb6 (by omega))
      refine hK.out _ _ hb6' ?_
      clear hK K
      simp only [tabA]
      repeat ((with_reducible show wpTree _ _ _ _ (.take _ _) _ _); (first | (refine wpTree_on (v := ?_) rfl rfl (wanted_free rfl) (fun w' hS => ?_) ?_; rotate_left; (focus (go_simp; (try with_reducible rfl); done)); try simp only [List.setIfInBounds_toArray, List.set_cons_zero, List.set_cons_succ]) | (refine wpTree_on (v := ?_) rfl rfl (wanted_yes rfl rfl rfl) (fun w' hS => ?_) ?_; rotate_left; (focus (go_simp; (try with_reducible rfl); done)); try simp only [List.setIfInBounds_toArray, List.set_cons_zero, List.set_cons_succ]) | (refine wpTree_off rfl rfl (wanted_no rfl rfl rfl) ?_; try simp only [List.setIfInBounds_toArray, List.set_cons_zero, List.set_cons_succ]) | (refine wpTree_off rfl rfl (wanted_undef rfl rfl rfl) ?_; try simp only [List.setIfInBounds_toArray, List.set_cons_zero, List.set_cons_succ])))
      have hB8 : Blk w6 (H + 1 + 1) 32 #[.string S.name, .slice A7 S.cols.length c7, .int .i64 S.key, .bool S.only, .slice A2 n2 c2] := (Blk.below B85 hb6 (by omega))
      have f0 := hB8.frozen 0
      have f1 := hB8.frozen 1
      have f2 := hB8.frozen 2
      have f3 := hB8.frozen 3
      have f4 := hB8.frozen 4
      have q8 := five hB8 (Below.refl _ _)
      refine wpTree_do rfl (wanted_free rfl) (fun K hK => ?_); go_simp
      clear f0 f1 f2 f3 f4 q8
      obtain ⟨w9, hw9, B9, hlow9, hgr9⟩ := Blk.set5 hB8 (.string S.name) (.slice A7 S.cols.length c7) (.int .i64 S.key) (.bool S.only) (.slice A6 n6 c6)
      rw [← hw9]
      clear hw9
      have hR9 := hR6.blk hB8 hgr9 (by decide) (by decide)
      have hb9' := Below.trans hb6' (hlow9 _ (Nat.le_refl _))
      refine hK.out _ _ hb9' ?_
      clear hK K
      refine wpTree_end ?_
      have hbg9 := Below.trans hbgd (Below.mono hb9' (by omega))
      go_wp2
      go_roundw
      case rel => exact ⟨k + 1, p.2, A6, n6, c6, by go_num, by omega, by omega, by have := Htl.out; split at this <;> omega, Hid'.out, HNP.out, B9, hR9, Blk.below B7 hb9' (by omega), Blk.below BR hb9' (by omega), hbg9⟩
      case measure => simp [intOf]; omega
end Go.Proofs.Ytnlmbjmgmofeiaa.ix
