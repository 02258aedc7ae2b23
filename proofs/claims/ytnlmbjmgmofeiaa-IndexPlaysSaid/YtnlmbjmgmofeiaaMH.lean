/- The document's index: what it holds; less. Printed by gen25.py. -/
import Derived.Test.YtnlmbjmgmofeiaaMG
namespace Go.Proofs.Ytnlmbjmgmofeiaa.ix
open Go.ChangeShapes Go.WideShapes Go.ChangeAt Go.RowKit Go.Proofs.Ytnlmbjmgmofeiaa.lib Go.Proofs.Ytnlmbjmgmofeiaa.val Go.Proofs.Ytnlmbjmgmofeiaa.tb
set_option linter.unusedVariables false

def encE (e : En) : List Value := [.int .i64 e.v.k, .int .i64 e.v.n, .string e.v.s, .int .i64 e.k.k, .int .i64 e.k.n, .string e.k.s]
theorem kE (x : En) : (encE x).length = 6 := rfl
theorem oneE (l : List En) : ∀ u ∈ flatK encE l, u.oneCell' = true := flatK_all encE (fun x u hu => by
  simp only [encE, List.mem_cons, List.not_mem_nil, or_false] at hu
  rcases hu with rfl | rfl | rfl | rfl | rfl | rfl <;> rfl) l
/-- the document's index in the block g -/
structure RIx (w : World) (g col key : Nat) (es : List En) (A : Option Addr) (c : Nat) : Prop where
  blk : Blk w g 62 #[.int .i64 col, .int .i64 key, .slice A es.length c]
  own : w.ownsRow 0 91 6 (.slice A es.length c) es.length (flatK encE es)
  ok : ∀ x ∈ es, EnOk x
section
variable {w w' : World} {g col key c : Nat} {es : List En} {A : Option Addr}
theorem RIx.ext (h : RIx w g col key es A c) (hb : Below w.heap.size w w') : RIx w' g col key es A c := ⟨h.blk.ext hb, own_ext h.own hb, h.ok⟩
theorem RIx.row (h : RIx w g col key es A c) : Row w 0 A es.length c (flatK encE es) := Row.of_own h.own
theorem RIx.fine (h : RIx w g col key es A c) : Fine A := by
  rcases h.own.2 with ⟨h, _⟩ | ⟨g, cap, cur, h, _⟩
  · injection h with h; exact .inl h
  · injection h with h; exact .inr ⟨g, 0, h⟩
theorem RIx.blk' (h : RIx w g col key es A c) {g' : Nat} {t : TypeId} {cs : Array Value} (hB : Blk w g' t cs) (hg : w.grownBy w' (some g')) (h1 : 62 ≠ t) (h2 : 91 ≠ t) : RIx w' g col key es A c := by
  refine ⟨h.blk.grown hg (fun e => h1 ?_), h.own.kept hg (own_ne_blk h.own hB h2), h.ok⟩
  injection e with e
  subst e
  have h3 := h.blk
  unfold Blk at h3 hB
  rw [h3] at hB
  injection hB with hB
  injection hB with _ hB
theorem blk_keptX {g0 B0 col0 key0 c0 : Nat} {ws : List Ew} {A0 : Option Addr} (hx : IxA w g0 B0 col0 key0 ws A0 c0) (hk : Kept w w' g0 (Value.slice A0 ws.length c0).ownBlock) {g : Nat} {t : TypeId} {cs : Array Value} (h : Blk w g t cs) (h1 : t ≠ 75) (h2 : t ≠ 78) : Blk w' g t cs := by
  refine (hk.block g h.lt ?_ ?_).trans h
  · rintro rfl
    have h3 := hx.blk
    unfold Blk at h3 h
    rw [h3] at h
    injection h with h
    injection h with _ h
    exact h1 h.symm
  · intro e
    rcases own_ne_blk hx.own h (Ne.symm h2) with h3 | h3
    · rw [h3] at e; cases e
    · exact h3 e.symm
theorem RIx.keptX (h : RIx w g col key es A c) {g0 B0 col0 key0 c0 : Nat} {ws : List Ew} {A0 : Option Addr} (hx : IxA w g0 B0 col0 key0 ws A0 c0) (hk : Kept w w' g0 (Value.slice A0 ws.length c0).ownBlock) : RIx w' g col key es A c :=
  ⟨blk_keptX hx hk h.blk (by decide) (by decide), hx.keeps hk h.own (by decide) (by decide), h.ok⟩
end
theorem row6 {w : World} {lo n c b off : Nat} {es : List En} (h : Row w lo (some ⟨b, off, none⟩) n c (flatK encE es)) {i : Nat} {x : En} (hi : es[i]? = some x) :
    w.cell? ⟨b, off + i * 6, none⟩ = some (.int .i64 x.v.k) ∧ w.cell? ⟨b, off + i * 6 + 1, none⟩ = some (.int .i64 x.v.n) ∧ w.cell? ⟨b, off + i * 6 + 2, none⟩ = some (.string x.v.s) ∧ w.cell? ⟨b, off + i * 6 + 3, none⟩ = some (.int .i64 x.k.k) ∧
    w.cell? ⟨b, off + i * 6 + 4, none⟩ = some (.int .i64 x.k.n) ∧ w.cell? ⟨b, off + i * 6 + 5, none⟩ = some (.string x.k.s) ∧ w.cell? ⟨b, off + i * 6 + 3 + 1, none⟩ = some (.int .i64 x.k.n) ∧ w.cell? ⟨b, off + i * 6 + 3 + 2, none⟩ = some (.string x.k.s) := by
  have key : ∀ j u, (encE x)[j]? = some u → w.cell? ⟨b, off + i * 6 + j, none⟩ = some u := fun j u hu => by
    rw [Nat.add_assoc]; exact h.at_ (flatK_at encE 6 kE es i x j u hi hu)
  exact ⟨key 0 _ rfl, key 1 _ rfl, key 2 _ rfl, key 3 _ rfl, key 4 _ rfl, key 5 _ rfl, key 4 _ rfl, key 5 _ rfl⟩
theorem six {w : World} {g : Nat} {t : TypeId} {x0 x1 x2 x3 x4 x5 : Value} (h : Blk w g t #[x0, x1, x2, x3, x4, x5]) {w' : World} (hb : Below w.heap.size w w') :
    w'.cell? ⟨g, 0, none⟩ = some x0 ∧ w'.cell? ⟨g, 1, none⟩ = some x1 ∧ w'.cell? ⟨g, 2, none⟩ = some x2 ∧ w'.cell? ⟨g, 3, none⟩ = some x3 ∧ w'.cell? ⟨g, 4, none⟩ = some x4 ∧ w'.cell? ⟨g, 5, none⟩ = some x5 :=
  ⟨(h.ext hb).cell 0, (h.ext hb).cell 1, (h.ext hb).cell 2, (h.ext hb).cell 3, (h.ext hb).cell 4, (h.ext hb).cell 5⟩
theorem Blk.set6 {w : World} {g : Nat} {t : TypeId} {x0 x1 x2 x3 x4 x5 : Value} (h : Blk w g t #[x0, x1, x2, x3, x4, x5]) (a0 a1 a2 a3 a4 a5 : Value) :
    ∃ w', w' = (((((w.setCell ⟨g, 0, none⟩ a0).setCell ⟨g, 1, none⟩ a1).setCell ⟨g, 2, none⟩ a2).setCell ⟨g, 3, none⟩ a3).setCell ⟨g, 4, none⟩ a4).setCell ⟨g, 5, none⟩ a5 ∧ Blk w' g t #[a0, a1, a2, a3, a4, a5] ∧
    (∀ B, B ≤ g → Below B w w') := by
  refine ⟨_, rfl, ?_, fun B hB => (((((((Below.refl _ _).setCell hB _).setCell hB _).setCell hB _).setCell hB _).setCell hB _).setCell hB _)⟩
  have h6 := (((((h.set_ 0 a0).set_ 1 a1).set_ 2 a2).set_ 3 a3).set_ 4 a4).set_ 5 a5
  simpa using h6
theorem EnOk.vs {e : En} (h : EnOk e) : e.v.s.size ≤ maxLen := by have := (chk_form h.v.chk).2.2.2.2.2; unfold maxLen; omega
theorem EnOk.ks {e : En} (h : EnOk e) : e.k.s.size ≤ maxLen := by have := (chk_form h.k.chk).2.2.2.2.2; unfold maxLen; omega
set_option maxRecDepth 1000000 in
set_option maxHeartbeats 8000000 in
theorem rless_ (a b : En) (w : World) (ha : EnOk a) (hb : EnOk b) :
    Calls Try.prog 50 #[.agg #[.int .i64 a.v.k, .int .i64 a.v.n, .string a.v.s, .int .i64 a.k.k, .int .i64 a.k.n, .string a.k.s], .agg #[.int .i64 b.v.k, .int .i64 b.v.n, .string b.v.s, .int .i64 b.k.k, .int .i64 b.k.n, .string b.k.s]] w fun e w' => e = .returned (.bool (decide (cmpN a b < 0))) ∧ Below w.heap.size w w' := by
  have HA := Lib.hid ha
  have HB := Lib.hid hb
  have HC := Lib.hid (show cmpN a b = if cmpV a.v b.v = 0 then cmpV a.k b.k else cmpV a.v b.v from rfl)
  clear ha hb
  go_enter Try.func50, Try.ntmps50
  go_upto_region 1 with fail
  obtain ⟨W, hW_, hbW, B1, B2⟩ : ∃ W_, W_ = ((w.alloc (.cells #[.int .i64 a.v.k, .int .i64 a.v.n, .string a.v.s, .int .i64 a.k.k, .int .i64 a.k.n, .string a.k.s] 91)).alloc (.cells #[.int .i64 b.v.k, .int .i64 b.v.n, .string b.v.s, .int .i64 b.k.k, .int .i64 b.k.n, .string b.k.s] 91)) ∧ Below w.heap.size w W_ ∧ Blk W_ (w.heap.size) 91 #[.int .i64 a.v.k, .int .i64 a.v.n, .string a.v.s, .int .i64 a.k.k, .int .i64 a.k.n, .string a.k.s] ∧ Blk W_ (w.heap.size + 1) 91 #[.int .i64 b.v.k, .int .i64 b.v.n, .string b.v.s, .int .i64 b.k.k, .int .i64 b.k.n, .string b.k.s] :=
    ⟨_, rfl, (((Below.refl _ _).alloc (Nat.le_refl _) _).alloc (by simp; try omega) _), ((blk_new_at w (w.heap.size) _ _ (by simp)).alloc _), (blk_new_at (w.alloc (.cells #[.int .i64 a.v.k, .int .i64 a.v.n, .string a.v.s, .int .i64 a.k.k, .int .i64 a.k.n, .string a.k.s] 91)) (w.heap.size + 1) _ _ (by simp))⟩
  rw [← hW_]
  clear hW_
  have q1 := six B1 (Below.refl _ _)
  have q2 := six B2 (Below.refl _ _)
  go_wp2_with fail
  clear q1 q2
  refine (rcmp_ a.v b.v _ HA.out.vs HB.out.vs).mono ?_
  rintro e w1 ⟨rfl, hb1⟩
  rw [rcmp_eq HA.out.v.chk HB.out.v.chk]
  have hbw := Below.trans hbW (Below.mono hb1 hbW.size)
  have q1 := six B1 hb1
  have q2 := six B2 hb1
  obtain ⟨x, hx⟩ : ∃ x, cmpV a.v b.v = x := ⟨_, rfl⟩
  rw [hx]
  have HC := HC.out
  rw [hx] at HC
  clear hx
  have HC := Lib.hid HC
  rcases Int.lt_trichotomy x 0 with h | h | h
  · have hd : decide (x < 0) = true := by simpa using h
    have hr : cmpN a b < 0 := by rw [HC.out, if_neg (by omega)]; exact h
    have HR := Lib.hid hr
    clear hr
    go_wp2
    go_ret
    exact ⟨congrArg (fun b => Ending.returned (.bool b)) (decide_eq_true HR.out).symm, hbw⟩
  · subst h
    have hd : decide ((0 : Int) < 0) = false := rfl
    have hr : cmpN a b = cmpV a.k b.k := by rw [HC.out, if_pos rfl]
    have HR := Lib.hid hr
    clear hr
    go_wp2_with fail
    refine (rcmp_ a.k b.k _ HA.out.ks HB.out.ks).mono ?_
    rintro e w2 ⟨rfl, hb2⟩
    rw [rcmp_eq HA.out.k.chk HB.out.k.chk]
    go_wp2
    go_ret
    exact ⟨congrArg (fun x => Ending.returned (.bool (decide (x < 0)))) HR.out.symm, Below.trans hbw (Below.mono hb2 hbw.size)⟩
  · have hd : decide (x < 0) = false := by simp; omega
    have hd2 : ¬ x < 0 := by omega
    have hd3 : (x == 0) = false := by simp; omega
    have hd4 : ¬ x = 0 := by omega
    have hr : ¬ cmpN a b < 0 := by rw [HC.out, if_neg (by omega)]; omega
    have HR := Lib.hid hr
    clear hr h
    go_wp2
    go_ret
    exact ⟨congrArg (fun b => Ending.returned (.bool b)) (decide_eq_false (by have := HR.out; omega)).symm, hbw⟩
end Go.Proofs.Ytnlmbjmgmofeiaa.ix

/- The document's index: Add. Printed by gen25.py. -/
namespace Go.Proofs.Ytnlmbjmgmofeiaa.ix
open Go.ChangeShapes Go.WideShapes Go.ChangeAt Go.RowKit Go.Proofs.Ytnlmbjmgmofeiaa.lib Go.Proofs.Ytnlmbjmgmofeiaa.val Go.Proofs.Ytnlmbjmgmofeiaa.tb
set_option linter.unusedVariables false

theorem grown_of {w wa wb : World} {g : Nat} (h : Below w.heap.size w wa) (k : wa.grownBy wb (some g)) : w.grownBy wb (some g) :=
  ⟨k.os.trans h.os, k.tape.trans h.tape, k.output.trans h.output, Nat.le_trans h.size k.size, fun b hb hne => (k.block b (Nat.lt_of_lt_of_le hb h.size) hne).trans (h.block b hb)⟩
theorem radd_hold {w : World} {g col key n an n10 c10 B : Nat} {es : List En} {e : En} {A10 : Option Addr} {X : List Value} (hok : ∀ x ∈ es, EnOk x) (he : EnOk e) (hn : es.length = n) (hle : an ≤ n)
    (hX : X = (flatK encE es).take (an * 6) ++ (encE e ++ (flatK encE es).drop (an * 6))) (hb : Blk w g 62 #[.int .i64 col, .int .i64 key, .slice A10 n10 c10]) (ho : w.ownsRow B 91 6 (.slice A10 n10 c10) n10 X) :
    RIx w g col key (es.take an ++ e :: es.drop an) A10 c10 := by
  have hX2 : X = flatK encE (es.take an ++ e :: es.drop an) := by
    rw [hX, flatK_take encE 6 kE, flatK_drop encE 6 kE, flatK_append]
    have : e :: es.drop an = [e] ++ es.drop an := rfl
    rw [this, flatK_append, flatK_one]
  have hl := ho.1
  rw [hX2, flatK_len encE 6 kE] at hl
  have hl2 : n10 = (es.take an ++ e :: es.drop an).length := by omega
  subst hl2
  subst hX2
  refine ⟨hb, own_lo ho, fun x hx => ?_⟩
  rcases List.mem_append.1 hx with h | h
  · exact hok x (List.mem_of_mem_take h)
  · rcases List.mem_cons.1 h with rfl | h
    · exact he
    · exact hok x (List.mem_of_mem_drop h)
set_option maxRecDepth 1000000 in
set_option maxHeartbeats 8000000 in
theorem radd_ (es : List En) (r : List V) (e : En) (gy col key : Nat) (A : Option Addr) (c lo : Nat) (Ar : Option Addr) (m cr : Nat) (w : World) (hx : RIx w gy col key es A c) (hr : Vs w lo Ar m cr r) (hv : r[col]? = some e.v) (hk : r[key]? = some e.k) (he : EnOk e) (hn : es.length ≤ 5000) (hno : isN e es = false) :
    Calls Try.prog 30 #[.pointer (some ⟨gy, 0, none⟩), .slice Ar m cr] w fun e' w' => ∃ A' c', e' = .returned (.tuple #[]) ∧ RIx w' gy col key (addN es e) A' c' ∧ w.grownBy w' (some gy) := by
  obtain ⟨j0, hj, hy0, hy1, hy2⟩ := info_parts (P := Try.prog) (e := 91) (z := .agg #[.int .i64 0, .int .i64 0, .string ⟨#[]⟩, .int .i64 0, .int .i64 0, .string ⟨#[]⟩]) (size := 6) (bytes := 64) (by kernel_rfl)
  have hcl : col < r.length := (List.getElem?_eq_some_iff.1 hv).1
  have hkl : key < r.length := (List.getElem?_eq_some_iff.1 hk).1
  rw [hr.2] at hcl hkl
  have HR := Lib.hid hr
  have HV := Lib.hid hv
  have HK := Lib.hid hk
  have HE := Lib.hid he
  obtain ⟨br, or_, rfl, _, _, hbr⟩ := hr.1.some_ (by omega)
  clear hr hv hk he
  have c1 : (col : Int) < (m : Int) := by omega
  have c2 : (key : Int) < (m : Int) := by omega
  have hadd : addN es e = es.take (posN e es) ++ e :: es.drop (posN e es) := by unfold addN; rw [hno, if_neg (by simp)]
  rw [hadd]
  have hple := n_at_le e es
  have hbel := fun i x (hi : i < posN e es) (h : es[i]? = some x) => n_lt_at hi h
  have hnot := fun x (h : es[posN e es]? = some x) => n_at_not h
  obtain ⟨an, han⟩ : ∃ a, posN e es = a := ⟨_, rfl⟩
  rw [han] at hple hbel hnot ⊢
  have HBEL := Lib.hid hbel
  have HNOT := Lib.hid hnot
  have HX := Lib.hid hx
  have HROW := Lib.hid hx.row
  have hfine := hx.fine
  have BG := hx.blk
  have hac := hx.row.le_
  have hgl := hx.blk.lt
  obtain ⟨n, hln⟩ : ∃ n, es.length = n := ⟨_, rfl⟩
  have HROW := HROW.out
  rw [hln] at BG HROW hac hn hple
  have HROW := Lib.hid HROW
  have HLN := Lib.hid hln
  clear hx hln hbel hnot han hadd hno
  go_enter Try.func30, Try.ntmps30
  go_wp2_with fail
  have D := fun w' (h : Below w.heap.size w.drew w') => BG.three (Below.trans (Below.refl _ _).drew h)
  have DC := fun w' (h : Below w.heap.size w.drew w') => (HR.out.ext (Below.trans (Below.refl _ _).drew h)).at_ HV.out
  have DK := fun w' (h : Below w.heap.size w.drew w') => (HR.out.ext (Below.trans (Below.refl _ _).drew h)).at_ HK.out
  refine wp_region_one [(0, true), (1, true), (2, true), (3, true), (4, true), (5, true), (6, true), (7, true), (8, true), (9, true), (10, true), (11, true), (12, true), (13, true), (14, true), (15, false), (16, false)] (by kernel_rfl) (by kernel_rfl) (by kernel_rfl) (by decide) ?_
  repeat ((with_reducible show wpPerm _ _ _ _ ((_, true) :: _) _ _); (first | (refine wpPerm_on (v := ?_) rfl rfl (wanted_free rfl) (fun w' hS => ?_) ?_; rotate_left; (focus (go_simp; (try with_reducible rfl); done)); try simp only [List.setIfInBounds_toArray, List.set_cons_zero, List.set_cons_succ]) | (refine wpPerm_on (v := ?_) rfl rfl (wanted_yes rfl rfl rfl) (fun w' hS => ?_) ?_; rotate_left; (focus (go_simp; (try with_reducible rfl); done)); try simp only [List.setIfInBounds_toArray, List.set_cons_zero, List.set_cons_succ]) | (refine wpPerm_off rfl rfl (wanted_no rfl rfl rfl) ?_; try simp only [List.setIfInBounds_toArray, List.set_cons_zero, List.set_cons_succ]) | (refine wpPerm_off rfl rfl (wanted_undef rfl rfl rfl) ?_; try simp only [List.setIfInBounds_toArray, List.set_cons_zero, List.set_cons_succ])))
  clear D DC DK
  refine wpPerm_do rfl (wanted_free rfl) (fun K hK => ?_); go_simp
  have hba : Below w.heap.size w.drew (w.drew.alloc (.cells #[.int .i64 0, .int .i64 0, .string ⟨#[]⟩, .int .i64 0, .int .i64 0, .string ⟨#[]⟩] 91)) := Below.alloc (Below.refl w.heap.size w.drew) (Nat.le_refl w.drew.heap.size) _
  refine hK.out _ _ hba ?_
  clear hK K
  refine wpPerm_do rfl (wanted_free rfl) (fun K hK => ?_); go_simp
  obtain ⟨wE, hwE, BE, hbe⟩ : ∃ wE, wE = (w.alloc (.cells #[.int .i64 e.v.k, .int .i64 e.v.n, .string e.v.s, .int .i64 e.k.k, .int .i64 e.k.n, .string e.k.s] 91)).drew ∧ Blk wE w.heap.size 91 #[.int .i64 e.v.k, .int .i64 e.v.n, .string e.v.s, .int .i64 e.k.k, .int .i64 e.k.n, .string e.k.s] ∧ Below w.heap.size w.drew wE :=
    ⟨_, rfl, Blk.drew (Blk.new _ _ _), Below.alloc (Below.refl w.heap.size w.drew) (Nat.le_refl w.drew.heap.size) _⟩
  rw [← hwE]
  clear hwE hba
  refine hK.out _ _ hbe ?_
  clear hK K
  refine wpPerm_done ?_
  have hbE := Below.trans ((Below.refl w.heap.size w).drew) hbe
  obtain ⟨ge, hge, hgl2⟩ : ∃ g, w.heap.size = g ∧ w.heap.size ≤ g := ⟨_, rfl, Nat.le_refl _⟩
  rw [hge] at BE ⊢
  clear hge hbe
  go_wp2_with fail
  go_loopw [5] (fun i w' => ∃ k : Nat, i = .int .i64 k ∧ k ≤ an ∧ Below wE.heap.size wE w') (fun i _ => an - (intOf i).toNat)
  case atStart => exact ⟨0, rfl, Nat.zero_le _, Below.refl _ _⟩
  case round =>
    obtain ⟨k, rfl, hk, hbr2⟩ := hrel
    have hbx := Below.trans hbE (Below.mono hbr2 hbE.size)
    have BEr := BE.ext hbr2
    have BG := BG.ext hbx
    rcases Nat.lt_or_ge k n with hlt | hge
    case inr =>
      have hd : decide ((k : Int) < (n : Int)) = false := by simp; omega
      have hd0 : decide (k < n) = false := by simp; omega
      obtain rfl : an = k := by omega
      have D := fun w' (h : Below wr.heap.size wr.drew w') => BG.three (Below.trans (Below.refl _ _).drew h)
      go_wp2_with fail
      refine wp_region_one [(0, true), (1, true), (2, true), (3, true), (4, true), (5, true), (6, true), (7, true), (8, true), (9, true), (10, true), (11, true), (12, true), (13, true), (14, true), (15, true), (16, true), (17, true)] (by kernel_rfl) (by kernel_rfl) (by kernel_rfl) (by decide) ?_
      repeat ((with_reducible show wpPerm _ _ _ _ ((_, true) :: _) _ _); (first | (refine wpPerm_on (v := ?_) rfl rfl (wanted_free rfl) (fun w' hS => ?_) ?_; rotate_left; (focus (go_simp; (try with_reducible rfl); done)); try simp only [List.setIfInBounds_toArray, List.set_cons_zero, List.set_cons_succ]) | (refine wpPerm_on (v := ?_) rfl rfl (wanted_yes rfl rfl rfl) (fun w' hS => ?_) ?_; rotate_left; (focus (go_simp; (try with_reducible rfl); done)); try simp only [List.setIfInBounds_toArray, List.set_cons_zero, List.set_cons_succ]) | (refine wpPerm_off rfl rfl (wanted_no rfl rfl rfl) ?_; try simp only [List.setIfInBounds_toArray, List.set_cons_zero, List.set_cons_succ]) | (refine wpPerm_off rfl rfl (wanted_undef rfl rfl rfl) ?_; try simp only [List.setIfInBounds_toArray, List.set_cons_zero, List.set_cons_succ])))
      refine wpPerm_done ?_
      clear D
      have hbd := (Below.refl wr.heap.size wr).drew
      have hbx := Below.trans hbx (Below.mono hbd hbx.size)
      have BEr := BEr.ext hbd
      have BG := BG.ext hbd
      clear hbd hd hd0
      generalize wr.drew = wd at *
      have hrel := BEr.lt
      rcases hfine with rfl | ⟨bA, oA, rfl⟩
      case inl =>
        have h0 : n = 0 ∧ c = 0 := by
          rcases HROW.out with h | ⟨_, h, _⟩ | ⟨_, _, h, _⟩
          · exact ⟨h.2.1, h.2.2.1⟩
          · cases h
          · cases h
        obtain ⟨rfl, rfl⟩ := h0
        obtain rfl : an = 0 := by omega
        have q0 := fun o => BG.three ((Below.refl _ _).alloc (Nat.le_refl _) o)
        go_wp2_with (at_builtin; refine wpList_append_row rfl (.tmp 42) (.tmp 48) 60 rfl w.heap.size 91 j0 _ 6 64 Try.underlying60 hj hy0 hy1 hy2 rfl (by decide) _ _ _ rfl (own_empty (w := wd) rfl hbx.size) _ _ _ _ ((flatK encE es).take (0 * 6)) rfl (show Row _ 0 none 0 0 ((flatK encE es).take (0 * 6)) by rw [Nat.zero_mul, List.take_zero]; exact Row.nil _ _) ?a1n ?a2n ?a3n ?a4n ?a5n ?_)
        case a1n => rw [flatK_take encE 6 kE, flatK_len encE 6 kE, List.length_take, HLN.out]; try omega
        case a2n => exact fun u hu => oneE es u (List.mem_of_mem_take hu)
        case a3n => unfold maxLen; omega
        case a4n => omega
        all_goals try (case a5n => first | exact hbx.size | (have := hbx.size; simp; omega))
        intro v7 w7 hown7 hgrow7
        clear q0
        have hbx7 := (hbx.alloc hbx.size (.cells #[] 91)).grown hgrow7 (by have := hbx.size; simp; omega) (fun b hb => by have := hbx.size; simp [Value.ownBlock] at hb; omega)
        have hgx := BG.lt
        have BG := (BG.alloc (.cells #[] 91)).grown hgrow7 (by simp [Value.ownBlock]; omega)
        try simp only [Nat.zero_add, List.nil_append] at hown7
        obtain ⟨A7, c7, rfl⟩ := own_slice hown7
        have HO7 := Lib.hid hown7
        have hsz7 : wd.heap.size + 1 ≤ w7.heap.size := by have := hgrow7.size; simpa using this
        have BEr := (BEr.alloc (.cells #[] 91)).grown hgrow7 (by simp [Value.ownBlock]; omega)
        clear hown7 hgrow7 hbx
        have hbx := hbx7
        have q6 := six BEr (Below.refl _ _)
        go_wp2_with (at_builtin; refine wpList_append_own _ rfl (.tmp 50) (.tmp 52) 60 rfl w.heap.size 91 j0 _ 6 64 Try.underlying60 hj hy0 hy1 hy2 rfl (by decide) _ _ _ rfl (HO7.out.alloc _) ⟨w7.heap.size, 0, none⟩ 1 1 (encE e) rfl rfl ?d1n ?d2n ?d3n ?d4n ?d5n ?_)
        case d1n => exact (Row.of_blk (Blk.new w7 _ _) (Nat.zero_le _) 1 1 (Nat.le_refl _)).src
        case d2n => exact fun u hu => oneE [e] u (by simpa [flatK_one] using hu)
        case d3n => unfold maxLen; omega
        case d4n => omega
        all_goals try (case d5n => have := hbx.size; simp; omega)
        intro v9 w9 hown9 hgrow9 _
        clear q6
        have hlt7 := HO7.out.lt
        have hbx9 := (hbx.alloc hbx.size (.cells #[.int .i64 e.v.k, .int .i64 e.v.n, .string e.v.s, .int .i64 e.k.k, .int .i64 e.k.n, .string e.k.s] 91)).grown hgrow9 (by have := hbx.size; simp; omega) (fun b hb => (hlt7 b hb).1)
        have BG := (BG.alloc (.cells #[.int .i64 e.v.k, .int .i64 e.v.n, .string e.v.s, .int .i64 e.k.k, .int .i64 e.k.n, .string e.k.s] 91)).grown hgrow9 (fun e => by have := (hlt7 _ e.symm).1; omega)
        have HO9 := Lib.hid hown9
        clear hown9 hgrow9 hlt7 hbx hbx7 HO7 BEr
        have hbx := hbx9
        have q0 := BG.three (Below.refl _ _)
        go_wp2_with (at_builtin; refine wpList_append_row rfl (.tmp 55) (.tmp 61) 60 rfl w.heap.size 91 j0 _ 6 64 Try.underlying60 hj hy0 hy1 hy2 rfl (by decide) _ _ _ rfl HO9.out _ _ _ _ ((flatK encE es).drop (0 * 6)) rfl (show Row _ 0 none 0 0 ((flatK encE es).drop (0 * 6)) by rw [List.drop_eq_nil_of_le (by rw [flatK_len encE 6 kE, HLN.out]; omega)]; exact Row.nil _ _) ?e1n ?e2n ?e3n ?e4n ?e5n ?_)
        case e1n => rw [flatK_drop encE 6 kE, flatK_len encE 6 kE, List.length_drop, HLN.out]; try omega
        case e2n => exact fun u hu => oneE es u (List.mem_of_mem_drop hu)
        case e3n => unfold maxLen; omega
        case e4n => omega
        all_goals try (case e5n => exact hbx.size)
        intro v10 wa hown10 hgrow10
        obtain ⟨A10, c10, rfl⟩ := own_slice hown10
        have hlt9 := HO9.out.lt
        have hbxa := hbx.grown hgrow10 hbx.size (fun b hb => (hlt9 b hb).1)
        have BG := BG.grown hgrow10 (fun e => by have := (hlt9 _ e.symm).1; omega)
        have HOa := Lib.hid hown10
        clear hown10 hgrow10 hlt9 hbx
        have hbx := hbxa
        clear q0
        have f2 := BG.frozen 2
        have q2 := BG.cell 2
        have q3 := BG.three (Below.refl _ _)
        go_wp2
        clear f2 q2 q3
        obtain ⟨wb, hwb, BG', hlowb, hgrb⟩ := Blk.set1 (i := 2) BG (.slice A10 1 c10)
        rw [← hwb]
        clear hwb
        have hfin := grown_of hbx hgrb
        have HOb := HOa.out.kept hgrb (own_ne_blk HOa.out BG (by decide))
        first | go_end0 | refine bodyPost_ret (results_none rfl _ _ _) rfl ?_
        exact ⟨A10, c10, rfl, radd_hold HX.out.ok HE.out (by rw [HLN.out]) (by omega) (by first | rfl | simp only [List.append_assoc] | simp) BG' HOb, hfin⟩
      case inr =>
        rcases Nat.lt_or_ge an c with hlc | hgc
        case inr =>
          obtain rfl : n = c := by omega
          obtain rfl : n = an := by omega
          have q0 := fun o => BG.three ((Below.refl _ _).alloc (Nat.le_refl _) o)
          go_wp2_with (at_builtin; refine wpList_append_row rfl (.tmp 42) (.tmp 48) 60 rfl w.heap.size 91 j0 _ 6 64 Try.underlying60 hj hy0 hy1 hy2 rfl (by decide) _ _ _ rfl (own_empty (w := wd) rfl hbx.size) _ _ _ _ ((flatK encE es).take (n * 6)) rfl (((HROW.out.ext hbx).ext ((Below.refl _ _).alloc (Nat.le_refl _) _)).take n n (n * 6) (by omega) (by omega)) ?a1f ?a2f ?a3f ?a4f ?a5f ?_)
          case a1f => rw [flatK_take encE 6 kE, flatK_len encE 6 kE, List.length_take, HLN.out]; try omega
          case a2f => exact fun u hu => oneE es u (List.mem_of_mem_take hu)
          case a3f => unfold maxLen; omega
          case a4f => omega
          all_goals try (case a5f => first | exact hbx.size | (have := hbx.size; simp; omega))
          intro v7 w7 hown7 hgrow7
          clear q0
          have hbx7 := (hbx.alloc hbx.size (.cells #[] 91)).grown hgrow7 (by have := hbx.size; simp; omega) (fun b hb => by have := hbx.size; simp [Value.ownBlock] at hb; omega)
          have hgx := BG.lt
          have BG := (BG.alloc (.cells #[] 91)).grown hgrow7 (by simp [Value.ownBlock]; omega)
          try simp only [Nat.zero_add, List.nil_append] at hown7
          obtain ⟨A7, c7, rfl⟩ := own_slice hown7
          have HO7 := Lib.hid hown7
          have hsz7 : wd.heap.size + 1 ≤ w7.heap.size := by have := hgrow7.size; simpa using this
          have BEr := (BEr.alloc (.cells #[] 91)).grown hgrow7 (by simp [Value.ownBlock]; omega)
          clear hown7 hgrow7 hbx
          have hbx := hbx7
          have q6 := six BEr (Below.refl _ _)
          go_wp2_with (at_builtin; refine wpList_append_own _ rfl (.tmp 50) (.tmp 52) 60 rfl w.heap.size 91 j0 _ 6 64 Try.underlying60 hj hy0 hy1 hy2 rfl (by decide) _ _ _ rfl (HO7.out.alloc _) ⟨w7.heap.size, 0, none⟩ 1 1 (encE e) rfl rfl ?d1f ?d2f ?d3f ?d4f ?d5f ?_)
          case d1f => exact (Row.of_blk (Blk.new w7 _ _) (Nat.zero_le _) 1 1 (Nat.le_refl _)).src
          case d2f => exact fun u hu => oneE [e] u (by simpa [flatK_one] using hu)
          case d3f => unfold maxLen; omega
          case d4f => omega
          all_goals try (case d5f => have := hbx.size; simp; omega)
          intro v9 w9 hown9 hgrow9 _
          clear q6
          have hlt7 := HO7.out.lt
          have hbx9 := (hbx.alloc hbx.size (.cells #[.int .i64 e.v.k, .int .i64 e.v.n, .string e.v.s, .int .i64 e.k.k, .int .i64 e.k.n, .string e.k.s] 91)).grown hgrow9 (by have := hbx.size; simp; omega) (fun b hb => (hlt7 b hb).1)
          have BG := (BG.alloc (.cells #[.int .i64 e.v.k, .int .i64 e.v.n, .string e.v.s, .int .i64 e.k.k, .int .i64 e.k.n, .string e.k.s] 91)).grown hgrow9 (fun e => by have := (hlt7 _ e.symm).1; omega)
          have HO9 := Lib.hid hown9
          clear hown9 hgrow9 hlt7 hbx hbx7 HO7 BEr
          have hbx := hbx9
          have q0 := BG.three (Below.refl _ _)
          go_wp2_with (at_builtin; refine wpList_append_row rfl (.tmp 55) (.tmp 61) 60 rfl w.heap.size 91 j0 _ 6 64 Try.underlying60 hj hy0 hy1 hy2 rfl (by decide) _ _ _ rfl HO9.out _ _ _ _ ((flatK encE es).drop (n * 6)) rfl (show Row _ 0 (some ⟨bA, oA, none⟩) 0 0 ((flatK encE es).drop (n * 6)) by rw [List.drop_eq_nil_of_le (by rw [flatK_len encE 6 kE, HLN.out]; omega)]; exact Row.empty _ _ _ _) ?e1f ?e2f ?e3f ?e4f ?e5f ?_)
          case e1f => rw [flatK_drop encE 6 kE, flatK_len encE 6 kE, List.length_drop, HLN.out]; try omega
          case e2f => exact fun u hu => oneE es u (List.mem_of_mem_drop hu)
          case e3f => unfold maxLen; omega
          case e4f => omega
          all_goals try (case e5f => exact hbx.size)
          intro v10 wa hown10 hgrow10
          obtain ⟨A10, c10, rfl⟩ := own_slice hown10
          have hlt9 := HO9.out.lt
          have hbxa := hbx.grown hgrow10 hbx.size (fun b hb => (hlt9 b hb).1)
          have BG := BG.grown hgrow10 (fun e => by have := (hlt9 _ e.symm).1; omega)
          have HOa := Lib.hid hown10
          clear hown10 hgrow10 hlt9 hbx
          have hbx := hbxa
          clear q0
          have f2 := BG.frozen 2
          have q2 := BG.cell 2
          have q3 := BG.three (Below.refl _ _)
          go_wp2
          clear f2 q2 q3
          obtain ⟨wb, hwb, BG', hlowb, hgrb⟩ := Blk.set1 (i := 2) BG (.slice A10 (n + 1) c10)
          rw [← hwb]
          clear hwb
          have hfin := grown_of hbx hgrb
          have HOb := HOa.out.kept hgrb (own_ne_blk HOa.out BG (by decide))
          first | go_end0 | refine bodyPost_ret (results_none rfl _ _ _) rfl ?_
          exact ⟨A10, c10, rfl, radd_hold HX.out.ok HE.out (by rw [HLN.out]) (by omega) (by first | rfl | simp only [List.append_assoc] | simp) BG' HOb, hfin⟩
        case inl =>
          have hca : ¬ c = an := by omega
          clear hge
          have q0 := fun o => BG.three ((Below.refl _ _).alloc (Nat.le_refl _) o)
          go_wp2_with (at_builtin; refine wpList_append_row rfl (.tmp 42) (.tmp 48) 60 rfl w.heap.size 91 j0 _ 6 64 Try.underlying60 hj hy0 hy1 hy2 rfl (by decide) _ _ _ rfl (own_empty (w := wd) rfl hbx.size) _ _ _ _ ((flatK encE es).take (an * 6)) rfl (((HROW.out.ext hbx).ext ((Below.refl _ _).alloc (Nat.le_refl _) _)).take an c (an * 6) (by omega) (by omega)) ?a1r ?a2r ?a3r ?a4r ?a5r ?_)
          case a1r => rw [flatK_take encE 6 kE, flatK_len encE 6 kE, List.length_take, HLN.out]; try omega
          case a2r => exact fun u hu => oneE es u (List.mem_of_mem_take hu)
          case a3r => unfold maxLen; omega
          case a4r => omega
          all_goals try (case a5r => first | exact hbx.size | (have := hbx.size; simp; omega))
          intro v7 w7 hown7 hgrow7
          clear q0
          have hbx7 := (hbx.alloc hbx.size (.cells #[] 91)).grown hgrow7 (by have := hbx.size; simp; omega) (fun b hb => by have := hbx.size; simp [Value.ownBlock] at hb; omega)
          have hgx := BG.lt
          have BG := (BG.alloc (.cells #[] 91)).grown hgrow7 (by simp [Value.ownBlock]; omega)
          try simp only [Nat.zero_add, List.nil_append] at hown7
          obtain ⟨A7, c7, rfl⟩ := own_slice hown7
          have HO7 := Lib.hid hown7
          have hsz7 : wd.heap.size + 1 ≤ w7.heap.size := by have := hgrow7.size; simpa using this
          have BEr := (BEr.alloc (.cells #[] 91)).grown hgrow7 (by simp [Value.ownBlock]; omega)
          clear hown7 hgrow7 hbx
          have hbx := hbx7
          have q6 := six BEr (Below.refl _ _)
          go_wp2_with (at_builtin; refine wpList_append_own _ rfl (.tmp 50) (.tmp 52) 60 rfl w.heap.size 91 j0 _ 6 64 Try.underlying60 hj hy0 hy1 hy2 rfl (by decide) _ _ _ rfl (HO7.out.alloc _) ⟨w7.heap.size, 0, none⟩ 1 1 (encE e) rfl rfl ?d1r ?d2r ?d3r ?d4r ?d5r ?_)
          case d1r => exact (Row.of_blk (Blk.new w7 _ _) (Nat.zero_le _) 1 1 (Nat.le_refl _)).src
          case d2r => exact fun u hu => oneE [e] u (by simpa [flatK_one] using hu)
          case d3r => unfold maxLen; omega
          case d4r => omega
          all_goals try (case d5r => have := hbx.size; simp; omega)
          intro v9 w9 hown9 hgrow9 _
          clear q6
          have hlt7 := HO7.out.lt
          have hbx9 := (hbx.alloc hbx.size (.cells #[.int .i64 e.v.k, .int .i64 e.v.n, .string e.v.s, .int .i64 e.k.k, .int .i64 e.k.n, .string e.k.s] 91)).grown hgrow9 (by have := hbx.size; simp; omega) (fun b hb => (hlt7 b hb).1)
          have BG := (BG.alloc (.cells #[.int .i64 e.v.k, .int .i64 e.v.n, .string e.v.s, .int .i64 e.k.k, .int .i64 e.k.n, .string e.k.s] 91)).grown hgrow9 (fun e => by have := (hlt7 _ e.symm).1; omega)
          have HO9 := Lib.hid hown9
          clear hown9 hgrow9 hlt7 hbx hbx7 HO7 BEr
          have hbx := hbx9
          have q0 := BG.three (Below.refl _ _)
          go_wp2_with (at_builtin; refine wpList_append_row rfl (.tmp 55) (.tmp 61) 60 rfl w.heap.size 91 j0 _ 6 64 Try.underlying60 hj hy0 hy1 hy2 rfl (by decide) _ _ _ rfl HO9.out _ _ _ _ ((flatK encE es).drop (an * 6)) rfl ((HROW.out.ext hbx).drop (n - an) (c - an) (an * 6) (by omega) (by omega)) ?e1r ?e2r ?e3r ?e4r ?e5r ?_)
          case e1r => rw [flatK_drop encE 6 kE, flatK_len encE 6 kE, List.length_drop, HLN.out]; try omega
          case e2r => exact fun u hu => oneE es u (List.mem_of_mem_drop hu)
          case e3r => unfold maxLen; omega
          case e4r => omega
          all_goals try (case e5r => exact hbx.size)
          intro v10 wa hown10 hgrow10
          obtain ⟨A10, c10, rfl⟩ := own_slice hown10
          have hlt9 := HO9.out.lt
          have hbxa := hbx.grown hgrow10 hbx.size (fun b hb => (hlt9 b hb).1)
          have BG := BG.grown hgrow10 (fun e => by have := (hlt9 _ e.symm).1; omega)
          have HOa := Lib.hid hown10
          clear hown10 hgrow10 hlt9 hbx
          have hbx := hbxa
          clear q0
          have f2 := BG.frozen 2
          have q2 := BG.cell 2
          have q3 := BG.three (Below.refl _ _)
          go_wp2
          clear f2 q2 q3
          obtain ⟨wb, hwb, BG', hlowb, hgrb⟩ := Blk.set1 (i := 2) BG (.slice A10 (an + 1 + (n - an)) c10)
          rw [← hwb]
          clear hwb
          have hfin := grown_of hbx hgrb
          have HOb := HOa.out.kept hgrb (own_ne_blk HOa.out BG (by decide))
          first | go_end0 | refine bodyPost_ret (results_none rfl _ _ _) rfl ?_
          exact ⟨A10, c10, rfl, radd_hold HX.out.ok HE.out (by rw [HLN.out]) (by omega) (by first | rfl | simp only [List.append_assoc] | simp) BG' HOb, hfin⟩
    obtain ⟨x, hx⟩ : ∃ x, es[k]? = some x := ⟨_, List.getElem?_eq_getElem (by rw [HLN.out]; exact hlt)⟩
    obtain ⟨bA, oA, rfl, _, _, _⟩ := HROW.out.some_ (by omega)
    have hd : decide ((k : Int) < (n : Int)) = true := by simp; omega
    have hkn : (k : Int) < (n : Int) := by omega
    have HXE := Lib.hid hx
    clear hx
    have D := fun w' (h : Below wr.heap.size wr.drew w') => BG.three (Below.trans (Below.refl _ _).drew h)
    have DR := fun w' (h : Below wr.heap.size wr.drew w') => row6 (HROW.out.ext (Below.trans hbx.drew (Below.mono h hbx.size))) HXE.out
    have DE := fun w' (h : Below wr.heap.size wr.drew w') => six BEr (Below.trans (Below.refl _ _).drew h)
    go_wp2_with fail
    refine wp_region_one [(0, true), (1, true), (2, true), (3, true), (4, true), (5, true), (6, true), (7, true), (8, true), (9, true), (10, true), (11, true), (12, true), (13, true), (14, true), (15, true), (16, false), (17, true)] (by kernel_rfl) (by kernel_rfl) (by kernel_rfl) (by decide) ?_
    repeat ((with_reducible show wpPerm _ _ _ _ ((_, true) :: _) _ _); (first | (refine wpPerm_on (v := ?_) rfl rfl (wanted_free rfl) (fun w' hS => ?_) ?_; rotate_left; (focus (go_simp; (try with_reducible rfl); done)); try simp only [List.setIfInBounds_toArray, List.set_cons_zero, List.set_cons_succ]) | (refine wpPerm_on (v := ?_) rfl rfl (wanted_yes rfl rfl rfl) (fun w' hS => ?_) ?_; rotate_left; (focus (go_simp; (try with_reducible rfl); done)); try simp only [List.setIfInBounds_toArray, List.set_cons_zero, List.set_cons_succ]) | (refine wpPerm_off rfl rfl (wanted_no rfl rfl rfl) ?_; try simp only [List.setIfInBounds_toArray, List.set_cons_zero, List.set_cons_succ]) | (refine wpPerm_off rfl rfl (wanted_undef rfl rfl rfl) ?_; try simp only [List.setIfInBounds_toArray, List.set_cons_zero, List.set_cons_succ])))
    refine wpPerm_do rfl (wanted_yes rfl rfl rfl) (fun K hK => ?_); go_simp
    refine (rless_ x e _ (HX.out.ok x (List.mem_of_getElem? HXE.out)) HE.out).mono ?_
    rintro e3 w3 ⟨rfl, hb3⟩
    refine hK.out _ _ hb3 ?_
    clear hK K
    have hbd := Below.trans ((Below.refl wr.heap.size wr).drew) hb3
    have hbx := Below.trans hbx (Below.mono hbd hbx.size)
    have hbr2 := Below.trans hbr2 (Below.mono hbd hbr2.size)
    have BEr := BEr.ext hbd
    have BG := BG.ext hbd
    clear D DR DE hb3 hbd
    rcases Nat.lt_or_ge k an with hka | hka
    case inl =>
      have hl : cmpN x e < 0 := by have := HBEL.out k x hka HXE.out; unfold belowN at this; simpa using this
      rw [decide_eq_true hl]
      clear hl
      repeat ((with_reducible show wpPerm _ _ _ _ ((_, true) :: _) _ _); (first | (refine wpPerm_on (v := ?_) rfl rfl (wanted_free rfl) (fun w' hS => ?_) ?_; rotate_left; (focus (go_simp; (try with_reducible rfl); done)); try simp only [List.setIfInBounds_toArray, List.set_cons_zero, List.set_cons_succ]) | (refine wpPerm_on (v := ?_) rfl rfl (wanted_yes rfl rfl rfl) (fun w' hS => ?_) ?_; rotate_left; (focus (go_simp; (try with_reducible rfl); done)); try simp only [List.setIfInBounds_toArray, List.set_cons_zero, List.set_cons_succ]) | (refine wpPerm_off rfl rfl (wanted_no rfl rfl rfl) ?_; try simp only [List.setIfInBounds_toArray, List.set_cons_zero, List.set_cons_succ]) | (refine wpPerm_off rfl rfl (wanted_undef rfl rfl rfl) ?_; try simp only [List.setIfInBounds_toArray, List.set_cons_zero, List.set_cons_succ])))
      refine wpPerm_done ?_
      go_wp2
      go_roundw
      case rel => exact ⟨k + 1, by go_num, by omega, hbr2⟩
      case measure => simp [intOf]; omega
    obtain rfl : an = k := by omega
    have hl : ¬ cmpN x e < 0 := by have := HNOT.out x HXE.out; unfold belowN at this; simpa using this
    rw [decide_eq_false hl]
    clear hl
    repeat ((with_reducible show wpPerm _ _ _ _ ((_, true) :: _) _ _); (first | (refine wpPerm_on (v := ?_) rfl rfl (wanted_free rfl) (fun w' hS => ?_) ?_; rotate_left; (focus (go_simp; (try with_reducible rfl); done)); try simp only [List.setIfInBounds_toArray, List.set_cons_zero, List.set_cons_succ]) | (refine wpPerm_on (v := ?_) rfl rfl (wanted_yes rfl rfl rfl) (fun w' hS => ?_) ?_; rotate_left; (focus (go_simp; (try with_reducible rfl); done)); try simp only [List.setIfInBounds_toArray, List.set_cons_zero, List.set_cons_succ]) | (refine wpPerm_off rfl rfl (wanted_no rfl rfl rfl) ?_; try simp only [List.setIfInBounds_toArray, List.set_cons_zero, List.set_cons_succ]) | (refine wpPerm_off rfl rfl (wanted_undef rfl rfl rfl) ?_; try simp only [List.setIfInBounds_toArray, List.set_cons_zero, List.set_cons_succ])))
    refine wpPerm_done ?_
    clear hd hkn
    have hrel := BEr.lt
    have hca : ¬ c = an := by omega
    have q0 := fun o => BG.three ((Below.refl _ _).alloc (Nat.le_refl _) o)
    go_wp2_with (at_builtin; refine wpList_append_row rfl (.tmp 42) (.tmp 48) 60 rfl w.heap.size 91 j0 _ 6 64 Try.underlying60 hj hy0 hy1 hy2 rfl (by decide) _ _ _ rfl (own_empty (w := w3) rfl hbx.size) _ _ _ _ ((flatK encE es).take (an * 6)) rfl (((HROW.out.ext hbx).ext ((Below.refl _ _).alloc (Nat.le_refl _) _)).take an c (an * 6) (by omega) (by omega)) ?a1s ?a2s ?a3s ?a4s ?a5s ?_)
    case a1s => rw [flatK_take encE 6 kE, flatK_len encE 6 kE, List.length_take, HLN.out]; try omega
    case a2s => exact fun u hu => oneE es u (List.mem_of_mem_take hu)
    case a3s => unfold maxLen; omega
    case a4s => omega
    all_goals try (case a5s => first | exact hbx.size | (have := hbx.size; simp; omega))
    intro v7 w7 hown7 hgrow7
    clear q0
    have hbx7 := (hbx.alloc hbx.size (.cells #[] 91)).grown hgrow7 (by have := hbx.size; simp; omega) (fun b hb => by have := hbx.size; simp [Value.ownBlock] at hb; omega)
    have hgx := BG.lt
    have BG := (BG.alloc (.cells #[] 91)).grown hgrow7 (by simp [Value.ownBlock]; omega)
    try simp only [Nat.zero_add, List.nil_append] at hown7
    obtain ⟨A7, c7, rfl⟩ := own_slice hown7
    have HO7 := Lib.hid hown7
    have hsz7 : w3.heap.size + 1 ≤ w7.heap.size := by have := hgrow7.size; simpa using this
    have BEr := (BEr.alloc (.cells #[] 91)).grown hgrow7 (by simp [Value.ownBlock]; omega)
    clear hown7 hgrow7 hbx
    have hbx := hbx7
    have q6 := six BEr (Below.refl _ _)
    go_wp2_with (at_builtin; refine wpList_append_own _ rfl (.tmp 50) (.tmp 52) 60 rfl w.heap.size 91 j0 _ 6 64 Try.underlying60 hj hy0 hy1 hy2 rfl (by decide) _ _ _ rfl (HO7.out.alloc _) ⟨w7.heap.size, 0, none⟩ 1 1 (encE e) rfl rfl ?d1s ?d2s ?d3s ?d4s ?d5s ?_)
    case d1s => exact (Row.of_blk (Blk.new w7 _ _) (Nat.zero_le _) 1 1 (Nat.le_refl _)).src
    case d2s => exact fun u hu => oneE [e] u (by simpa [flatK_one] using hu)
    case d3s => unfold maxLen; omega
    case d4s => omega
    all_goals try (case d5s => have := hbx.size; simp; omega)
    intro v9 w9 hown9 hgrow9 _
    clear q6
    have hlt7 := HO7.out.lt
    have hbx9 := (hbx.alloc hbx.size (.cells #[.int .i64 e.v.k, .int .i64 e.v.n, .string e.v.s, .int .i64 e.k.k, .int .i64 e.k.n, .string e.k.s] 91)).grown hgrow9 (by have := hbx.size; simp; omega) (fun b hb => (hlt7 b hb).1)
    have BG := (BG.alloc (.cells #[.int .i64 e.v.k, .int .i64 e.v.n, .string e.v.s, .int .i64 e.k.k, .int .i64 e.k.n, .string e.k.s] 91)).grown hgrow9 (fun e => by have := (hlt7 _ e.symm).1; omega)
    have HO9 := Lib.hid hown9
    clear hown9 hgrow9 hlt7 hbx hbx7 HO7 BEr
    have hbx := hbx9
    have q0 := BG.three (Below.refl _ _)
    go_wp2_with (at_builtin; refine wpList_append_row rfl (.tmp 55) (.tmp 61) 60 rfl w.heap.size 91 j0 _ 6 64 Try.underlying60 hj hy0 hy1 hy2 rfl (by decide) _ _ _ rfl HO9.out _ _ _ _ ((flatK encE es).drop (an * 6)) rfl ((HROW.out.ext hbx).drop (n - an) (c - an) (an * 6) (by omega) (by omega)) ?e1s ?e2s ?e3s ?e4s ?e5s ?_)
    case e1s => rw [flatK_drop encE 6 kE, flatK_len encE 6 kE, List.length_drop, HLN.out]; try omega
    case e2s => exact fun u hu => oneE es u (List.mem_of_mem_drop hu)
    case e3s => unfold maxLen; omega
    case e4s => omega
    all_goals try (case e5s => exact hbx.size)
    intro v10 wa hown10 hgrow10
    obtain ⟨A10, c10, rfl⟩ := own_slice hown10
    have hlt9 := HO9.out.lt
    have hbxa := hbx.grown hgrow10 hbx.size (fun b hb => (hlt9 b hb).1)
    have BG := BG.grown hgrow10 (fun e => by have := (hlt9 _ e.symm).1; omega)
    have HOa := Lib.hid hown10
    clear hown10 hgrow10 hlt9 hbx
    have hbx := hbxa
    clear q0
    have f2 := BG.frozen 2
    have q2 := BG.cell 2
    have q3 := BG.three (Below.refl _ _)
    go_wp2
    clear f2 q2 q3
    obtain ⟨wb, hwb, BG', hlowb, hgrb⟩ := Blk.set1 (i := 2) BG (.slice A10 (an + 1 + (n - an)) c10)
    rw [← hwb]
    clear hwb
    have hfin := grown_of hbx hgrb
    have HOb := HOa.out.kept hgrb (own_ne_blk HOa.out BG (by decide))
    first | go_end0 | refine bodyPost_ret (results_none rfl _ _ _) rfl ?_
    exact ⟨A10, c10, rfl, radd_hold HX.out.ok HE.out (by rw [HLN.out]) (by omega) (by first | rfl | simp only [List.append_assoc] | simp) BG' HOb, hfin⟩
end Go.Proofs.Ytnlmbjmgmofeiaa.ix

/- The document's index: Drop. Printed by gen25.py. -/
namespace Go.Proofs.Ytnlmbjmgmofeiaa.ix
open Go.ChangeShapes Go.WideShapes Go.ChangeAt Go.RowKit Go.Proofs.Ytnlmbjmgmofeiaa.lib Go.Proofs.Ytnlmbjmgmofeiaa.val Go.Proofs.Ytnlmbjmgmofeiaa.tb
set_option linter.unusedVariables false

theorem rdrop_hold {w : World} {g col key n k n10 c10 B : Nat} {es ds : List En} {A10 : Option Addr} {X : List Value} (hok : ∀ x ∈ es, EnOk x) (hn : es.length = n) (hd : ds = es.take k ++ es.drop (k + 1)) (hle : k < n)
    (hX : X = (flatK encE es).take (k * 6) ++ (flatK encE es).drop ((k + 1) * 6)) (hb : Blk w g 62 #[.int .i64 col, .int .i64 key, .slice A10 n10 c10]) (ho : w.ownsRow B 91 6 (.slice A10 n10 c10) n10 X) :
    RIx w g col key ds A10 c10 := by
  subst hd
  have hX2 : X = flatK encE (es.take k ++ es.drop (k + 1)) := by
    rw [hX, flatK_take encE 6 kE, flatK_drop encE 6 kE, flatK_append]
  have hl := ho.1
  rw [hX2, flatK_len encE 6 kE] at hl
  have hl2 : n10 = (es.take k ++ es.drop (k + 1)).length := by omega
  subst hl2
  subst hX2
  refine ⟨hb, own_lo ho, fun x hx => ?_⟩
  rcases List.mem_append.1 hx with h | h
  · exact hok x (List.mem_of_mem_take h)
  · exact hok x (List.mem_of_mem_drop h)
theorem dropN_at {es : List En} {e x : En} {k : Nat} (ho : Srt es) (hx : es[k]? = some x) (hz : cmpN x e = 0) : dropN es e = es.take k ++ es.drop (k + 1) := by
  have hxe := cmpN_zero hz
  subst hxe
  have hk := (List.getElem?_eq_some_iff.1 hx).1
  have hp : posN x es = k := n_at_unique (by omega) (fun i r hi hr => by
    obtain ⟨hil, rfl⟩ := List.getElem?_eq_some_iff.1 hr
    have h2 := (List.getElem?_eq_some_iff.1 hx).2
    have := List.pairwise_iff_getElem.1 ho i k hil hk hi
    rw [h2] at this
    unfold belowN
    simpa using this) (fun r hr => by
    rw [hx] at hr
    injection hr with hr
    subst hr
    unfold belowN
    rw [cmpN_refl]; rfl)
  have hi : isN x es = true := n_isL_some ho (List.mem_of_getElem? hx) (cmpN_refl x)
  unfold dropN
  rw [if_pos hi, hp]
theorem dropN_none {es : List En} {e : En} (h : ∀ x ∈ es, cmpN x e ≠ 0) : dropN es e = es := by
  unfold dropN
  cases hi : isN e es with
  | false => rw [if_neg (by simp)]
  | true =>
    obtain ⟨x, hx, hz⟩ := n_isL_at hi
    exact absurd hz (h x (List.mem_of_getElem? hx))
theorem take_no {es : List En} {e x : En} {k : Nat} (h : ∀ x ∈ es.take k, cmpN x e ≠ 0) (hx : es[k]? = some x) (hn : cmpN x e ≠ 0) : ∀ x ∈ es.take (k + 1), cmpN x e ≠ 0 := by
  intro y hy
  rw [List.take_add_one, hx, Option.toList_some] at hy
  rcases List.mem_append.1 hy with hy | hy
  · exact h y hy
  · rw [List.mem_singleton.1 hy]; exact hn
theorem grown_below {w w' : World} {o : Option Nat} (h : Below w.heap.size w w') : w.grownBy w' o := ⟨h.os, h.tape, h.output, h.size, fun b hb _ => h.block b hb⟩
set_option maxRecDepth 1000000 in
set_option maxHeartbeats 8000000 in
theorem rdrop_ (es : List En) (r : List V) (e : En) (gy col key : Nat) (A : Option Addr) (c lo : Nat) (Ar : Option Addr) (m cr : Nat) (w : World) (hx : RIx w gy col key es A c) (hr : Vs w lo Ar m cr r) (hv : r[col]? = some e.v) (hk : r[key]? = some e.k) (he : EnOk e) (hn : es.length ≤ 5000) (hso : Srt es) :
    Calls Try.prog 27 #[.pointer (some ⟨gy, 0, none⟩), .slice Ar m cr] w fun e' w' => ∃ A' c', e' = .returned (.tuple #[]) ∧ RIx w' gy col key (dropN es e) A' c' ∧ w.grownBy w' (some gy) := by
  obtain ⟨j0, hj, hy0, hy1, hy2⟩ := info_parts (P := Try.prog) (e := 91) (z := .agg #[.int .i64 0, .int .i64 0, .string ⟨#[]⟩, .int .i64 0, .int .i64 0, .string ⟨#[]⟩]) (size := 6) (bytes := 64) (by kernel_rfl)
  have hcl : col < r.length := (List.getElem?_eq_some_iff.1 hv).1
  have hkl : key < r.length := (List.getElem?_eq_some_iff.1 hk).1
  rw [hr.2] at hcl hkl
  have HR := Lib.hid hr
  have HV := Lib.hid hv
  have HK := Lib.hid hk
  have HE := Lib.hid he
  obtain ⟨br, or_, rfl, _, _, hbr⟩ := hr.1.some_ (by omega)
  clear hr hv hk he
  have c1 : (col : Int) < (m : Int) := by omega
  have c2 : (key : Int) < (m : Int) := by omega
  have HSO := Lib.hid hso
  have HX := Lib.hid hx
  have HROW := Lib.hid hx.row
  have hac := hx.row.le_
  have BG := hx.blk
  have hgl := hx.blk.lt
  obtain ⟨n, hln⟩ : ∃ n, es.length = n := ⟨_, rfl⟩
  have HROW := HROW.out
  rw [hln] at BG HROW hac hn
  have HROW := Lib.hid HROW
  have HLN := Lib.hid hln
  obtain ⟨ds, hds⟩ : ∃ ds, dropN es e = ds := ⟨_, rfl⟩
  rw [hds]
  have HDS := Lib.hid hds
  clear hx hln hso hds
  go_enter Try.func27, Try.ntmps27
  go_wp2_with fail
  go_loopw [4] (fun i w' => ∃ k : Nat, i = .int .i64 k ∧ k ≤ n ∧ (∀ x ∈ es.take k, cmpN x e ≠ 0) ∧ Below w.heap.size w w') (fun i _ => n - (intOf i).toNat)
  case atStart => exact ⟨0, rfl, Nat.zero_le _, by simp, Below.refl _ _⟩
  case round =>
    obtain ⟨k, rfl, hk, hno, hbx⟩ := hrel
    have HNO := Lib.hid hno
    have BG := BG.ext hbx
    have q0 := BG.three (Below.refl _ _)
    clear hno
    rcases Nat.lt_or_ge k n with hlt | hge
    case inr =>
      have hd : decide ((k : Int) < (n : Int)) = false := by simp; omega
      go_wp2
      first | go_end0 | refine bodyPost_ret (results_none rfl _ _ _) rfl ?_
      have hes : dropN es e = es := dropN_none (fun x hx => HNO.out x (by rw [List.take_of_length_le (by rw [HLN.out]; exact hge)]; exact hx))
      rw [HDS.out] at hes
      refine ⟨A, c, rfl, ?_, grown_below hbx⟩
      rw [hes]
      exact HX.out.ext hbx
    obtain ⟨x, hx⟩ : ∃ x, es[k]? = some x := ⟨_, List.getElem?_eq_getElem (by rw [HLN.out]; exact hlt)⟩
    obtain ⟨bA, oA, rfl, _, _, _⟩ := HROW.out.some_ (by omega)
    have hd : decide ((k : Int) < (n : Int)) = true := by simp; omega
    have hkn : (k : Int) < (n : Int) := by omega
    have HXE := Lib.hid hx
    clear hx
    go_wp2_with fail
    clear q0
    have D := fun w' (h : Below wr.heap.size wr.drew w') => BG.three (Below.trans (Below.refl _ _).drew h)
    have DR := fun w' (h : Below wr.heap.size wr.drew w') => row6 (HROW.out.ext (Below.trans hbx.drew (Below.mono h hbx.size))) HXE.out
    have DC := fun w' (h : Below wr.heap.size wr.drew w') => (HR.out.ext (Below.trans hbx.drew (Below.mono h hbx.size))).at_ HV.out
    have DK := fun w' (h : Below wr.heap.size wr.drew w') => (HR.out.ext (Below.trans hbx.drew (Below.mono h hbx.size))).at_ HK.out
    have hxo := HX.out.ok x (List.mem_of_getElem? HXE.out)
    by_cases hc1 : cmpV x.v e.v = 0
    case neg =>
      have HC1 := Lib.hid hc1
      refine wp_region_one [(0, true), (1, true), (2, true), (3, true), (4, true), (5, true), (6, true), (7, true), (8, true), (9, true), (10, true), (11, true), (12, true), (13, true), (14, true), (15, false), (16, true), (17, true), (18, true), (19, true), (20, true), (21, true), (22, true), (23, true), (24, true), (25, true), (26, true), (27, true), (28, true), (29, true), (30, true), (31, true), (32, true), (33, true), (34, true), (35, true)] (by kernel_rfl) (by kernel_rfl) (by kernel_rfl) (by decide) ?_
      repeat ((with_reducible show wpPerm _ _ _ _ ((_, true) :: _) _ _); (first | (refine wpPerm_on (v := ?_) rfl rfl (wanted_free rfl) (fun w' hS => ?_) ?_; rotate_left; (focus (go_simp; (try with_reducible rfl); done)); try simp only [List.setIfInBounds_toArray, List.set_cons_zero, List.set_cons_succ]) | (refine wpPerm_on (v := ?_) rfl rfl (wanted_yes rfl rfl rfl) (fun w' hS => ?_) ?_; rotate_left; (focus (go_simp; (try with_reducible rfl); done)); try simp only [List.setIfInBounds_toArray, List.set_cons_zero, List.set_cons_succ]) | (refine wpPerm_off rfl rfl (wanted_no rfl rfl rfl) ?_; try simp only [List.setIfInBounds_toArray, List.set_cons_zero, List.set_cons_succ]) | (refine wpPerm_off rfl rfl (wanted_undef rfl rfl rfl) ?_; try simp only [List.setIfInBounds_toArray, List.set_cons_zero, List.set_cons_succ])))
      refine wpPerm_do rfl (wanted_free rfl) (fun K hK => ?_); go_simp
      refine (rcmp_ x.v e.v _ hxo.vs HE.out.vs).mono ?_
      rintro e3 w3 ⟨rfl, hb3⟩
      rw [rcmp_eq hxo.v.chk HE.out.v.chk]
      refine hK.out _ _ hb3 ?_
      clear hK K
      have hq : (cmpV x.v e.v == 0) = false := by simpa using hc1
      repeat ((with_reducible show wpPerm _ _ _ _ ((_, true) :: _) _ _); (first | (refine wpPerm_on (v := ?_) rfl rfl (wanted_free rfl) (fun w' hS => ?_) ?_; rotate_left; (focus (go_simp; (try with_reducible rfl); done)); try simp only [List.setIfInBounds_toArray, List.set_cons_zero, List.set_cons_succ]) | (refine wpPerm_on (v := ?_) rfl rfl (wanted_yes rfl rfl rfl) (fun w' hS => ?_) ?_; rotate_left; (focus (go_simp; (try with_reducible rfl); done)); try simp only [List.setIfInBounds_toArray, List.set_cons_zero, List.set_cons_succ]) | (refine wpPerm_off rfl rfl (wanted_no rfl rfl rfl) ?_; try simp only [List.setIfInBounds_toArray, List.set_cons_zero, List.set_cons_succ]) | (refine wpPerm_off rfl rfl (wanted_undef rfl rfl rfl) ?_; try simp only [List.setIfInBounds_toArray, List.set_cons_zero, List.set_cons_succ])))
      refine wpPerm_done ?_
      clear D DR DC DK hq hc1
      have hbx := Below.trans hbx (Below.mono (Below.trans ((Below.refl wr.heap.size wr).drew) hb3) hbx.size)
      go_wp2
      go_roundw
      case rel => exact ⟨k + 1, by go_num, by omega, take_no HNO.out HXE.out (by unfold cmpN; rw [if_neg HC1.out]; exact HC1.out), hbx⟩
      case measure => simp [intOf]; omega
    refine wp_region_one [(0, true), (1, true), (2, true), (3, true), (4, true), (5, true), (6, true), (7, true), (8, true), (9, true), (10, true), (11, true), (12, true), (13, true), (14, true), (15, false), (16, true), (17, true), (18, true), (19, true), (20, true), (21, true), (22, true), (23, true), (24, true), (25, true), (26, true), (27, true), (28, true), (29, true), (30, true), (31, true), (32, true), (33, false), (34, true), (35, true)] (by kernel_rfl) (by kernel_rfl) (by kernel_rfl) (by decide) ?_
    repeat ((with_reducible show wpPerm _ _ _ _ ((_, true) :: _) _ _); (first | (refine wpPerm_on (v := ?_) rfl rfl (wanted_free rfl) (fun w' hS => ?_) ?_; rotate_left; (focus (go_simp; (try with_reducible rfl); done)); try simp only [List.setIfInBounds_toArray, List.set_cons_zero, List.set_cons_succ]) | (refine wpPerm_on (v := ?_) rfl rfl (wanted_yes rfl rfl rfl) (fun w' hS => ?_) ?_; rotate_left; (focus (go_simp; (try with_reducible rfl); done)); try simp only [List.setIfInBounds_toArray, List.set_cons_zero, List.set_cons_succ]) | (refine wpPerm_off rfl rfl (wanted_no rfl rfl rfl) ?_; try simp only [List.setIfInBounds_toArray, List.set_cons_zero, List.set_cons_succ]) | (refine wpPerm_off rfl rfl (wanted_undef rfl rfl rfl) ?_; try simp only [List.setIfInBounds_toArray, List.set_cons_zero, List.set_cons_succ])))
    refine wpPerm_do rfl (wanted_free rfl) (fun K hK => ?_); go_simp
    refine (rcmp_ x.v e.v _ hxo.vs HE.out.vs).mono ?_
    rintro e3 w3 ⟨rfl, hb3⟩
    rw [rcmp_eq hxo.v.chk HE.out.v.chk]
    refine hK.out _ _ hb3 ?_
    clear hK K
    rw [hc1]
    have HC1 := Lib.hid hc1
    clear hc1
    repeat ((with_reducible show wpPerm _ _ _ _ ((_, true) :: _) _ _); (first | (refine wpPerm_on (v := ?_) rfl rfl (wanted_free rfl) (fun w' hS => ?_) ?_; rotate_left; (focus (go_simp; (try with_reducible rfl); done)); try simp only [List.setIfInBounds_toArray, List.set_cons_zero, List.set_cons_succ]) | (refine wpPerm_on (v := ?_) rfl rfl (wanted_yes rfl rfl rfl) (fun w' hS => ?_) ?_; rotate_left; (focus (go_simp; (try with_reducible rfl); done)); try simp only [List.setIfInBounds_toArray, List.set_cons_zero, List.set_cons_succ]) | (refine wpPerm_off rfl rfl (wanted_no rfl rfl rfl) ?_; try simp only [List.setIfInBounds_toArray, List.set_cons_zero, List.set_cons_succ]) | (refine wpPerm_off rfl rfl (wanted_undef rfl rfl rfl) ?_; try simp only [List.setIfInBounds_toArray, List.set_cons_zero, List.set_cons_succ])))
    refine wpPerm_do rfl (wanted_yes rfl rfl rfl) (fun K hK => ?_); go_simp
    refine (rcmp_ x.k e.k _ hxo.ks HE.out.ks).mono ?_
    rintro e4 w4 ⟨rfl, hb4⟩
    rw [rcmp_eq hxo.k.chk HE.out.k.chk]
    have hb4 := Below.trans hb3 (Below.mono hb4 hb3.size)
    refine hK.out _ _ hb4 ?_
    clear hK K
    have hbd := Below.trans ((Below.refl wr.heap.size wr).drew) hb4
    have hbx := Below.trans hbx (Below.mono hbd hbx.size)
    have BG := BG.ext hbd
    clear D DR DC DK hb3 hb4 hbd
    by_cases hc2 : cmpV x.k e.k = 0
    case neg =>
      have HC2 := Lib.hid hc2
      have hq : (cmpV x.k e.k == 0) = false := by simpa using hc2
      clear hc2
      repeat ((with_reducible show wpPerm _ _ _ _ ((_, true) :: _) _ _); (first | (refine wpPerm_on (v := ?_) rfl rfl (wanted_free rfl) (fun w' hS => ?_) ?_; rotate_left; (focus (go_simp; (try with_reducible rfl); done)); try simp only [List.setIfInBounds_toArray, List.set_cons_zero, List.set_cons_succ]) | (refine wpPerm_on (v := ?_) rfl rfl (wanted_yes rfl rfl rfl) (fun w' hS => ?_) ?_; rotate_left; (focus (go_simp; (try with_reducible rfl); done)); try simp only [List.setIfInBounds_toArray, List.set_cons_zero, List.set_cons_succ]) | (refine wpPerm_off rfl rfl (wanted_no rfl rfl rfl) ?_; try simp only [List.setIfInBounds_toArray, List.set_cons_zero, List.set_cons_succ]) | (refine wpPerm_off rfl rfl (wanted_undef rfl rfl rfl) ?_; try simp only [List.setIfInBounds_toArray, List.set_cons_zero, List.set_cons_succ])))
      refine wpPerm_done ?_
      go_wp2
      go_roundw
      case rel => exact ⟨k + 1, by go_num, by omega, take_no HNO.out HXE.out (by unfold cmpN; rw [if_pos HC1.out]; exact HC2.out), hbx⟩
      case measure => simp [intOf]; omega
    have HDR := Lib.hid (HDS.out.symm.trans (dropN_at HSO.out HXE.out (show cmpN x e = 0 by unfold cmpN; rw [if_pos HC1.out]; exact hc2)))
    rw [hc2]
    clear hc2
    repeat ((with_reducible show wpPerm _ _ _ _ ((_, true) :: _) _ _); (first | (refine wpPerm_on (v := ?_) rfl rfl (wanted_free rfl) (fun w' hS => ?_) ?_; rotate_left; (focus (go_simp; (try with_reducible rfl); done)); try simp only [List.setIfInBounds_toArray, List.set_cons_zero, List.set_cons_succ]) | (refine wpPerm_on (v := ?_) rfl rfl (wanted_yes rfl rfl rfl) (fun w' hS => ?_) ?_; rotate_left; (focus (go_simp; (try with_reducible rfl); done)); try simp only [List.setIfInBounds_toArray, List.set_cons_zero, List.set_cons_succ]) | (refine wpPerm_off rfl rfl (wanted_no rfl rfl rfl) ?_; try simp only [List.setIfInBounds_toArray, List.set_cons_zero, List.set_cons_succ]) | (refine wpPerm_off rfl rfl (wanted_undef rfl rfl rfl) ?_; try simp only [List.setIfInBounds_toArray, List.set_cons_zero, List.set_cons_succ])))
    refine wpPerm_done ?_
    clear hd hkn
    rcases Nat.lt_or_ge (k + 1) c with hlc | hgc
    case inr =>
      obtain rfl : c = k + 1 := by omega
      obtain rfl : n = k + 1 := by omega
      have q0 := fun o => BG.three ((Below.refl _ _).alloc (Nat.le_refl _) o)
      go_wp2_with (at_builtin; refine wpList_append_row rfl (.tmp 51) (.tmp 57) 60 rfl w.heap.size 91 j0 _ 6 64 Try.underlying60 hj hy0 hy1 hy2 rfl (by decide) _ _ _ rfl (own_empty (w := w4) rfl hbx.size) _ _ _ _ ((flatK encE es).take (k * 6)) rfl (((HROW.out.ext hbx).ext ((Below.refl _ _).alloc (Nat.le_refl _) _)).take k (k + 1) (k * 6) (by omega) (by omega)) ?a1f ?a2f ?a3f ?a4f ?a5f ?_)
      case a1f => rw [flatK_take encE 6 kE, flatK_len encE 6 kE, List.length_take, HLN.out]; try omega
      case a2f => exact fun u hu => oneE es u (List.mem_of_mem_take hu)
      case a3f => unfold maxLen; omega
      case a4f => omega
      all_goals try (case a5f => first | exact hbx.size | (have := hbx.size; simp; omega))
      intro v7 w7 hown7 hgrow7
      clear q0
      have hbx7 := (hbx.alloc hbx.size (.cells #[] 91)).grown hgrow7 (by have := hbx.size; simp; omega) (fun b hb => by have := hbx.size; simp [Value.ownBlock] at hb; omega)
      have hgx := BG.lt
      have BG := (BG.alloc (.cells #[] 91)).grown hgrow7 (by simp [Value.ownBlock]; omega)
      try simp only [Nat.zero_add, List.nil_append] at hown7
      obtain ⟨A7, c7, rfl⟩ := own_slice hown7
      have HO7 := Lib.hid hown7
      have hsz7 : w4.heap.size + 1 ≤ w7.heap.size := by have := hgrow7.size; simpa using this
      clear hown7 hgrow7 hbx
      have hbx := hbx7
      have q0 := BG.three (Below.refl _ _)
      go_wp2_with (at_builtin; refine wpList_append_row rfl (.tmp 60) (.tmp 67) 60 rfl w.heap.size 91 j0 _ 6 64 Try.underlying60 hj hy0 hy1 hy2 rfl (by decide) _ _ _ rfl HO7.out _ _ _ _ ((flatK encE es).drop ((k + 1) * 6)) rfl (show Row _ 0 (some ⟨bA, oA, none⟩) 0 0 ((flatK encE es).drop ((k + 1) * 6)) by rw [List.drop_eq_nil_of_le (by rw [flatK_len encE 6 kE, HLN.out]; omega)]; exact Row.empty _ _ _ _) ?e1f ?e2f ?e3f ?e4f ?e5f ?_)
      case e1f => rw [flatK_drop encE 6 kE, flatK_len encE 6 kE, List.length_drop, HLN.out]; try omega
      case e2f => exact fun u hu => oneE es u (List.mem_of_mem_drop hu)
      case e3f => unfold maxLen; omega
      case e4f => omega
      all_goals try (case e5f => exact hbx.size)
      intro v10 wa hown10 hgrow10
      obtain ⟨A10, c10, rfl⟩ := own_slice hown10
      have hlt9 := HO7.out.lt
      have hbxa := hbx.grown hgrow10 hbx.size (fun b hb => (hlt9 b hb).1)
      have BG := BG.grown hgrow10 (fun e => by have := (hlt9 _ e.symm).1; omega)
      have HOa := Lib.hid hown10
      clear hown10 hgrow10 hlt9 hbx
      have hbx := hbxa
      clear q0
      have f2 := BG.frozen 2
      have q2 := BG.cell 2
      have q3 := BG.three (Below.refl _ _)
      go_wp2
      clear f2 q2 q3
      obtain ⟨wb, hwb, BG', hlowb, hgrb⟩ := Blk.set1 (i := 2) BG (.slice A10 k c10)
      rw [← hwb]
      clear hwb
      have hfin := grown_of hbx hgrb
      have HOb := HOa.out.kept hgrb (own_ne_blk HOa.out BG (by decide))
      first | go_end0 | refine bodyPost_ret (results_none rfl _ _ _) rfl ?_
      exact ⟨A10, c10, rfl, rdrop_hold HX.out.ok HLN.out (by rw [HDR.out]) (by omega) (by first | rfl | simp only [List.append_assoc] | simp) BG' HOb, hfin⟩
    have hca : ¬ c = k + 1 := by omega
    have q0 := fun o => BG.three ((Below.refl _ _).alloc (Nat.le_refl _) o)
    go_wp2_with (at_builtin; refine wpList_append_row rfl (.tmp 51) (.tmp 57) 60 rfl w.heap.size 91 j0 _ 6 64 Try.underlying60 hj hy0 hy1 hy2 rfl (by decide) _ _ _ rfl (own_empty (w := w4) rfl hbx.size) _ _ _ _ ((flatK encE es).take (k * 6)) rfl (((HROW.out.ext hbx).ext ((Below.refl _ _).alloc (Nat.le_refl _) _)).take k c (k * 6) (by omega) (by omega)) ?a1r ?a2r ?a3r ?a4r ?a5r ?_)
    case a1r => rw [flatK_take encE 6 kE, flatK_len encE 6 kE, List.length_take, HLN.out]; try omega
    case a2r => exact fun u hu => oneE es u (List.mem_of_mem_take hu)
    case a3r => unfold maxLen; omega
    case a4r => omega
    all_goals try (case a5r => first | exact hbx.size | (have := hbx.size; simp; omega))
    intro v7 w7 hown7 hgrow7
    clear q0
    have hbx7 := (hbx.alloc hbx.size (.cells #[] 91)).grown hgrow7 (by have := hbx.size; simp; omega) (fun b hb => by have := hbx.size; simp [Value.ownBlock] at hb; omega)
    have hgx := BG.lt
    have BG := (BG.alloc (.cells #[] 91)).grown hgrow7 (by simp [Value.ownBlock]; omega)
    try simp only [Nat.zero_add, List.nil_append] at hown7
    obtain ⟨A7, c7, rfl⟩ := own_slice hown7
    have HO7 := Lib.hid hown7
    have hsz7 : w4.heap.size + 1 ≤ w7.heap.size := by have := hgrow7.size; simpa using this
    clear hown7 hgrow7 hbx
    have hbx := hbx7
    have q0 := BG.three (Below.refl _ _)
    go_wp2_with (at_builtin; refine wpList_append_row rfl (.tmp 60) (.tmp 67) 60 rfl w.heap.size 91 j0 _ 6 64 Try.underlying60 hj hy0 hy1 hy2 rfl (by decide) _ _ _ rfl HO7.out _ _ _ _ ((flatK encE es).drop ((k + 1) * 6)) rfl ((HROW.out.ext hbx).drop (n - (k + 1)) (c - (k + 1)) ((k + 1) * 6) (by omega) (by omega)) ?e1r ?e2r ?e3r ?e4r ?e5r ?_)
    case e1r => rw [flatK_drop encE 6 kE, flatK_len encE 6 kE, List.length_drop, HLN.out]; try omega
    case e2r => exact fun u hu => oneE es u (List.mem_of_mem_drop hu)
    case e3r => unfold maxLen; omega
    case e4r => omega
    all_goals try (case e5r => exact hbx.size)
    intro v10 wa hown10 hgrow10
    obtain ⟨A10, c10, rfl⟩ := own_slice hown10
    have hlt9 := HO7.out.lt
    have hbxa := hbx.grown hgrow10 hbx.size (fun b hb => (hlt9 b hb).1)
    have BG := BG.grown hgrow10 (fun e => by have := (hlt9 _ e.symm).1; omega)
    have HOa := Lib.hid hown10
    clear hown10 hgrow10 hlt9 hbx
    have hbx := hbxa
    clear q0
    have f2 := BG.frozen 2
    have q2 := BG.cell 2
    have q3 := BG.three (Below.refl _ _)
    go_wp2
    clear f2 q2 q3
    obtain ⟨wb, hwb, BG', hlowb, hgrb⟩ := Blk.set1 (i := 2) BG (.slice A10 (k + (n - (k + 1))) c10)
    rw [← hwb]
    clear hwb
    have hfin := grown_of hbx hgrb
    have HOb := HOa.out.kept hgrb (own_ne_blk HOa.out BG (by decide))
    first | go_end0 | refine bodyPost_ret (results_none rfl _ _ _) rfl ?_
    exact ⟨A10, c10, rfl, rdrop_hold HX.out.ok HLN.out (by rw [HDR.out]) (by omega) (by first | rfl | simp only [List.append_assoc] | simp) BG' HOb, hfin⟩
end Go.Proofs.Ytnlmbjmgmofeiaa.ix

/- The document's index: Build. Printed by gen25.py. -/
namespace Go.Proofs.Ytnlmbjmgmofeiaa.ix
open Go.ChangeShapes Go.WideShapes Go.ChangeAt Go.RowKit Go.Proofs.Ytnlmbjmgmofeiaa.lib Go.Proofs.Ytnlmbjmgmofeiaa.val Go.Proofs.Ytnlmbjmgmofeiaa.tb
set_option linter.unusedVariables false

/-- what the document's Build answers -/
def RBuildP (col key : Nat) (rows : List (List V)) (w : World) (e : Ending) (w' : World) : Prop := ∃ g A c, e = .returned (.pointer (some ⟨g, 0, none⟩)) ∧ RIx w' g col key (buildN col key rows) A c ∧ w.heap.size ≤ g ∧ Below w.heap.size w w'
set_option maxRecDepth 1000000 in
set_option maxHeartbeats 8000000 in
theorem rbuild_ (S : Sch) (rows : List (List V)) (col key lo : Nat) (At : Option Addr) (nt ct : Nat) (A' : Option Addr) (n c' : Nat) (w : World) (hkey : (S.key : Int) = (key : Int)) (hr : Rs w lo A' n c' rows) (hn : n ≤ 5000) (hok : ∀ r ∈ rows, RowN col key r) (ho : rows.Pairwise fun a b => cmpV (tb.keyOf key a) (tb.keyOf key b) < 0) :
    Calls Try.prog 23 #[.agg (tabA S At nt ct A' n c'), .int .i64 col] w (RBuildP col key rows w) := by
  have HL := Lib.hid hr.len
  have hr0 := hr
  have HOK := Lib.hid hok
  have HO := Lib.hid ho
  clear hok ho
  simp only [tabA]
  rw [hkey]
  clear hkey
  go_enter Try.func23, Try.ntmps23
  go_upto_region 1 with fail
  obtain ⟨W, hW_, hbW, BT⟩ : ∃ W_, W_ = (w.alloc (.cells #[.string S.name, .slice At nt ct, .int .i64 key, .bool S.only, .slice A' n c'] 32)) ∧ Below w.heap.size w W_ ∧ Blk W_ (w.heap.size) 32 #[.string S.name, .slice At nt ct, .int .i64 key, .bool S.only, .slice A' n c'] :=
    ⟨_, rfl, ((Below.refl _ _).alloc (Nat.le_refl _) _), (blk_new_at w (w.heap.size) _ _ (by simp))⟩
  rw [← hW_]
  clear hW_
  have q := five BT (Below.refl _ _)
  have hbt := BT.lt
  obtain ⟨tb, htb⟩ : ∃ g, w.heap.size = g := ⟨_, rfl⟩
  rw [htb] at BT q hbt ⊢
  go_upto_region 2 with fail
  obtain ⟨W1, hW_, hbX, BX⟩ : ∃ W_, W_ = (W.alloc (.cells #[.int .i64 col, .int .i64 key, .slice none 0 0] 62)) ∧ Below W.heap.size W W_ ∧ Blk W_ (W.heap.size) 62 #[.int .i64 col, .int .i64 key, .slice none 0 0] :=
    ⟨_, rfl, ((Below.refl _ _).alloc (Nat.le_refl _) _), (blk_new_at W (W.heap.size) _ _ (by simp))⟩
  rw [← hW_]
  clear hW_
  obtain ⟨g, hg⟩ : ∃ g, W.heap.size = g := ⟨_, rfl⟩
  have hlow : w.heap.size ≤ g := by rw [← hg]; exact hbW.size
  have htg : tb < g := by omega
  have hbX1 : Below g W W1 := by rw [← hg]; exact hbX
  have hgW : g ≤ W.heap.size := Nat.le_of_eq hg.symm
  rw [hg] at BX ⊢
  clear q hbX hbt hg
  have h0 : RIx W1 g col key [] none 0 := ⟨BX, World.ownsRow_nil _ _ _ _, by simp⟩
  have H0 := Lib.hid h0
  clear h0
  go_wp2_with fail
  go_loopw [6] (fun i w' => ∃ (k : Nat) (A : Option Addr) (c : Nat), i = .int .i64 k ∧ k ≤ n ∧ RIx w' g col key (buildN col key (rows.take k)) A c ∧ Below g W w') (fun i _ => n - (intOf i).toNat)
  case atStart => exact ⟨0, none, 0, rfl, Nat.zero_le _, H0.out, hbX1⟩
  case round =>
    obtain ⟨k, A, c, rfl, hk, hx, hbg⟩ := hrel
    have HX := Lib.hid hx
    have hlen := buildN_len col key rows k
    have BTr := BT.below hbg htg
    have hbr := Below.trans hbW (Below.mono hbg hlow)
    have q := five BTr (Below.refl _ _)
    clear hx
    rcases Nat.lt_or_ge k n with hlt | hge
    case inr =>
      have hd : decide ((k : Int) < (n : Int)) = false := by simp; omega
      obtain rfl : k = n := by omega
      have HX := HX.out
      rw [List.take_of_length_le (by rw [HL.out]; exact Nat.le_refl _)] at HX
      have HX := Lib.hid HX
      go_wp2
      go_ret
      exact ⟨g, A, c, rfl, HX.out, hlow, hbr⟩
    have hd : decide ((k : Int) < (n : Int)) = true := by simp; omega
    have hkn : (k : Int) < (n : Int) := by omega
    obtain ⟨x, hx⟩ : ∃ x, rows[k]? = some x := ⟨_, List.getElem?_eq_getElem (by rw [HL.out]; exact hlt)⟩
    obtain ⟨b, o, rfl, _, _, hb⟩ := hr0.some_ (by omega)
    obtain ⟨A1, c1, q1, v1⟩ := (hr0.ext hbr).at_ hx
    have hrow := HOK.out x (List.mem_of_getElem? hx)
    have HS := Lib.hid (buildN_snoc (col := col) (key := key) hx)
    have hni := isN_above (build_above (col := col) HO.out hx)
    have HA := Lib.hid (radd_ (buildN col key (rows.take k)) x (enR col key x) g col key A c lo A1 x.length c1 wr HX.out v1 hrow.colAt hrow.keyAt hrow.ok (by omega) hni)
    clear hrow hx v1 hni
    go_wp2_with fail
    refine (HA.out).mono ?_
    rintro e w2 ⟨A2, c2, rfl, hx2, hk2⟩
    have hb2 := hbg.grown hk2 (Nat.le_trans hgW hbg.size) (fun b hb => by injection hb with hb; omega)
    rw [← HS.out] at hx2
    have HX2 := Lib.hid hx2
    clear hx2 hk2 q1 q
    go_wp2
    go_roundw
    case rel => exact ⟨k + 1, A2, c2, by go_num, by omega, HX2.out, hb2⟩
    case measure => simp [intOf]; omega
end Go.Proofs.Ytnlmbjmgmofeiaa.ix

/- The document's index: Keys, From. Printed by gen25.py. -/
namespace Go.Proofs.Ytnlmbjmgmofeiaa.ix
open Go.ChangeShapes Go.WideShapes Go.ChangeAt Go.RowKit Go.Proofs.Ytnlmbjmgmofeiaa.lib Go.Proofs.Ytnlmbjmgmofeiaa.val Go.Proofs.Ytnlmbjmgmofeiaa.tb
set_option linter.unusedVariables false

set_option maxRecDepth 1000000 in
set_option maxHeartbeats 8000000 in
theorem rkeys_ (es : List En) (v : V) (gy col key : Nat) (A : Option Addr) (c : Nat) (w : World) (hx : RIx w gy col key es A c) (hn : es.length ≤ 5000) (hv : vchk v = 0) :
    Calls Try.prog 31 #[.pointer (some ⟨gy, 0, none⟩), .agg #[.int .i64 v.k, .int .i64 v.n, .string v.s]] w (OwnV (keysN es v) (keysN es v).length w) := by
  obtain ⟨i0, hi, hy0, hy1, hy2⟩ := info_parts (P := Try.prog) (e := 41) (z := .agg #[.int .i64 0, .int .i64 0, .string ⟨#[]⟩]) (size := 3) (bytes := 32) (by kernel_rfl)
  have HX := Lib.hid hx
  have HV := Lib.hid hv
  have HVS := Lib.hid (show v.s.size ≤ maxLen by have := (chk_form hv).2.2.2.2.2; unfold maxLen; omega)
  have BG := hx.blk
  have hrow := hx.row
  obtain ⟨n, hln⟩ : ∃ n, es.length = n := ⟨_, rfl⟩
  rw [hln] at BG hrow hn
  have HROW := Lib.hid hrow
  have HLN := Lib.hid hln
  clear hx hv hrow hln
  go_enter Try.func31, Try.ntmps31
  go_upto_region 1 with fail
  obtain ⟨W, hW_, hbW, BV⟩ : ∃ W_, W_ = (w.alloc (.cells #[.int .i64 v.k, .int .i64 v.n, .string v.s] 41)) ∧ Below w.heap.size w W_ ∧ Blk W_ (w.heap.size) 41 #[.int .i64 v.k, .int .i64 v.n, .string v.s] :=
    ⟨_, rfl, ((Below.refl _ _).alloc (Nat.le_refl _) _), (blk_new_at w (w.heap.size) _ _ (by simp))⟩
  rw [← hW_]
  clear hW_
  obtain ⟨vb, hvb⟩ : ∃ vb, w.heap.size = vb := ⟨_, rfl⟩
  rw [hvb] at BV ⊢
  have hvl := BV.lt
  clear hvb
  have BG := BG.ext hbW
  go_wp2_with fail
  go_loopw [5, 6] (fun l i wr => ∃ (k : Nat) (A1 : Option Addr) (c1 : Nat), i = .int .i64 k ∧ k ≤ n ∧ l = .slice A1 (keysN (es.take k) v).length c1 ∧ wr.ownsRow W.heap.size 41 3 (.slice A1 (keysN (es.take k) v).length c1) (keysN (es.take k) v).length (cellsV (keysN (es.take k) v)) ∧ Below W.heap.size W wr) (fun _ i _ => n - (intOf i).toNat)
  case atStart => exact ⟨0, none, 0, rfl, Nat.zero_le _, rfl, World.ownsRow_nil _ _ _ _, Below.refl _ _⟩
  case round =>
    obtain ⟨k, A1, c1, rfl, hk, rfl, hown, hbr⟩ := hrel
    have HO := Lib.hid hown
    have BGr := BG.ext hbr
    have BVr := BV.ext hbr
    have q := BGr.three (Below.refl _ _)
    obtain ⟨L, hL⟩ : ∃ L, (keysN (es.take k) v) = L := ⟨_, rfl⟩
    have hLn : L.length ≤ 5000 := by
      rw [← hL]
      have := keysN_len (es.take k) v
      rw [List.length_take, HLN.out] at this
      omega
    have HO := HO.out
    rw [hL] at HO ⊢
    have HO := Lib.hid HO
    have HLE := Lib.hid hL
    clear hown hL
    rcases Nat.lt_or_ge k n with hlt | hge
    case inr =>
      have hd : decide ((k : Int) < (n : Int)) = false := by simp; omega
      have hd0 : decide (k < n) = false := by simp; omega
      obtain rfl : k = n := by omega
      have hLr : L = (keysN es v) := by rw [← HLE.out, List.take_of_length_le (by rw [HLN.out]; exact Nat.le_refl _)]
      have HLR := Lib.hid hLr
      clear hLr
      go_wp2
      go_ret
      have hL := HO.out
      rw [HLR.out] at hL
      exact ⟨A1, c1, by rw [← HLR.out]; rfl, own_base hL hbW.size, Below.trans hbW (Below.mono hbr hbW.size)⟩
    have hd : decide ((k : Int) < (n : Int)) = true := by simp; omega
    have hkn : (k : Int) < (n : Int) := by omega
    have hd0 : decide (k < n) = true := by simp; omega
    obtain ⟨x, hx⟩ : ∃ x, es[k]? = some x := ⟨_, List.getElem?_eq_getElem (by rw [HLN.out]; exact hlt)⟩
    obtain ⟨bA, oA, rfl, _, _, _⟩ := HROW.out.some_ (by omega)
    have HXE := Lib.hid hx
    have HSN := Lib.hid (keysN_snoc (v := v) hx)
    have hxo := HX.out.ok x (List.mem_of_getElem? hx)
    have HXO := Lib.hid hxo
    clear hx hxo
    go_wp2_with fail
    clear q
    have hbw := Below.trans hbW (Below.mono hbr hbW.size)
    have D := fun w' (h : Below wr.heap.size wr.drew w') => BGr.three (Below.trans (Below.refl _ _).drew h)
    have DR := fun w' (h : Below wr.heap.size wr.drew w') => row6 (HROW.out.ext (Below.trans hbw.drew (Below.mono h hbw.size))) HXE.out
    have DV := fun w' (h : Below wr.heap.size wr.drew w') => BVr.three (Below.trans (Below.refl _ _).drew h)
    refine wp_region_one [(0, true), (1, true), (2, true), (3, true), (4, true), (5, true), (6, true), (7, true), (8, true), (9, false), (10, true)] (by kernel_rfl) (by kernel_rfl) (by kernel_rfl) (by decide) ?_
    repeat ((with_reducible show wpPerm _ _ _ _ ((_, true) :: _) _ _); (first | (refine wpPerm_on (v := ?_) rfl rfl (wanted_free rfl) (fun w' hS => ?_) ?_; rotate_left; (focus (go_simp; (try with_reducible rfl); done)); try simp only [List.setIfInBounds_toArray, List.set_cons_zero, List.set_cons_succ]) | (refine wpPerm_on (v := ?_) rfl rfl (wanted_yes rfl rfl rfl) (fun w' hS => ?_) ?_; rotate_left; (focus (go_simp; (try with_reducible rfl); done)); try simp only [List.setIfInBounds_toArray, List.set_cons_zero, List.set_cons_succ]) | (refine wpPerm_off rfl rfl (wanted_no rfl rfl rfl) ?_; try simp only [List.setIfInBounds_toArray, List.set_cons_zero, List.set_cons_succ]) | (refine wpPerm_off rfl rfl (wanted_undef rfl rfl rfl) ?_; try simp only [List.setIfInBounds_toArray, List.set_cons_zero, List.set_cons_succ])))
    refine wpPerm_do rfl (wanted_free rfl) (fun K hK => ?_); go_simp
    refine (rcmp_ x.v v _ HXO.out.vs HVS.out).mono ?_
    rintro e3 w3 ⟨rfl, hb3⟩
    rw [rcmp_eq HXO.out.v.chk HV.out]
    refine hK.out _ _ hb3 ?_
    clear hK K
    have hbd := Below.trans ((Below.refl wr.heap.size wr).drew) hb3
    have hbr := Below.trans hbr (Below.mono hbd hbr.size)
    have hbw := Below.trans hbW (Below.mono hbr hbW.size)
    have BGr := BGr.ext hbd
    have HO := Lib.hid (own_ext HO.out hbd)
    clear D DR DV hb3 hbd
    by_cases hc : cmpV x.v v = 0
    case neg =>
      have HS := HSN.out
      rw [if_neg hc, HLE.out] at HS
      have HS := Lib.hid HS
      have hq : (cmpV x.v v == 0) = false := by simpa using hc
      clear hc
      repeat ((with_reducible show wpPerm _ _ _ _ ((_, true) :: _) _ _); (first | (refine wpPerm_on (v := ?_) rfl rfl (wanted_free rfl) (fun w' hS => ?_) ?_; rotate_left; (focus (go_simp; (try with_reducible rfl); done)); try simp only [List.setIfInBounds_toArray, List.set_cons_zero, List.set_cons_succ]) | (refine wpPerm_on (v := ?_) rfl rfl (wanted_yes rfl rfl rfl) (fun w' hS => ?_) ?_; rotate_left; (focus (go_simp; (try with_reducible rfl); done)); try simp only [List.setIfInBounds_toArray, List.set_cons_zero, List.set_cons_succ]) | (refine wpPerm_off rfl rfl (wanted_no rfl rfl rfl) ?_; try simp only [List.setIfInBounds_toArray, List.set_cons_zero, List.set_cons_succ]) | (refine wpPerm_off rfl rfl (wanted_undef rfl rfl rfl) ?_; try simp only [List.setIfInBounds_toArray, List.set_cons_zero, List.set_cons_succ])))
      refine wpPerm_done ?_
      go_wp2
      go_roundw
      case rel => exact ⟨k + 1, A1, c1, by go_num, by omega, by rw [HS.out]; try rfl, by rw [HS.out]; exact HO.out, hbr⟩
      case measure => simp [intOf]; omega
    have HS := HSN.out
    rw [if_pos hc, HLE.out] at HS
    have HS := Lib.hid HS
    have hq : (cmpV x.v v == 0) = true := by simpa using hc
    clear hc
    repeat ((with_reducible show wpPerm _ _ _ _ ((_, true) :: _) _ _); (first | (refine wpPerm_on (v := ?_) rfl rfl (wanted_free rfl) (fun w' hS => ?_) ?_; rotate_left; (focus (go_simp; (try with_reducible rfl); done)); try simp only [List.setIfInBounds_toArray, List.set_cons_zero, List.set_cons_succ]) | (refine wpPerm_on (v := ?_) rfl rfl (wanted_yes rfl rfl rfl) (fun w' hS => ?_) ?_; rotate_left; (focus (go_simp; (try with_reducible rfl); done)); try simp only [List.setIfInBounds_toArray, List.set_cons_zero, List.set_cons_succ]) | (refine wpPerm_off rfl rfl (wanted_no rfl rfl rfl) ?_; try simp only [List.setIfInBounds_toArray, List.set_cons_zero, List.set_cons_succ]) | (refine wpPerm_off rfl rfl (wanted_undef rfl rfl rfl) ?_; try simp only [List.setIfInBounds_toArray, List.set_cons_zero, List.set_cons_succ])))
    refine wpPerm_done ?_
    clear hq
    have q := BGr.three (Below.refl _ _)
    have qr := row6 (HROW.out.ext hbw) HXE.out
    go_wp2_with (at_builtin; refine wpList_append_own _ rfl (.tmp 27) (.tmp 36) 38 rfl W.heap.size 41 i0 _ 3 32 Try.underlying38 hi hy0 hy1 hy2 rfl (by decide) _ L.length _ rfl (HO.out.alloc _) ⟨w3.heap.size, 0, none⟩ 1 1 (encV x.k) rfl ?a1 ?a2 ?a3 ?a4 ?a5 ?a6 ?_)
    all_goals try (case a1 => rfl)
    all_goals try (case a2 => exact (Row.of_blk (Blk.new w3 _ _) (Nat.zero_le _) 1 1 (Nat.le_refl _)).src)
    all_goals try (case a3 => exact fun u hu => oneV [x.k] u (by simpa [cellsV, flatK_one] using hu))
    all_goals try (case a4 => unfold maxLen; omega)
    all_goals try (case a5 => omega)
    all_goals try (case a6 => have := hbr.size; simp; omega)
    intro v' wf hown hgrow _
    obtain ⟨A4, c4, rfl⟩ := own_slice hown
    have hbf := (hbr.alloc hbr.size (.cells #[.int .i64 x.k.k, .int .i64 x.k.n, .string x.k.s] 41)).grown hgrow (by have := hbr.size; simp; omega) (fun m h => (HO.out.lt m h).1)
    have HO4 := Lib.hid hown
    clear hown hgrow q qr
    go_wp2
    go_roundw
    case rel => exact ⟨k + 1, A4, c4, by go_num, by omega, by rw [HS.out, List.length_append]; try rfl, by rw [HS.out, List.length_append]; unfold cellsV; rw [flatK_append, flatK_one]; exact HO4.out, hbf⟩
    case measure => simp [intOf]; omega
set_option maxRecDepth 1000000 in
set_option maxHeartbeats 8000000 in
theorem rfrom_ (es : List En) (v : V) (most : Int) (gy col key : Nat) (A : Option Addr) (c : Nat) (w : World) (hx : RIx w gy col key es A c) (hn : es.length ≤ 5000) (hv : vchk v = 0) :
    Calls Try.prog 32 #[.pointer (some ⟨gy, 0, none⟩), .agg #[.int .i64 v.k, .int .i64 v.n, .string v.s], .int .i64 most] w (OwnV (fromN es v most) (fromN es v most).length w) := by
  obtain ⟨i0, hi, hy0, hy1, hy2⟩ := info_parts (P := Try.prog) (e := 41) (z := .agg #[.int .i64 0, .int .i64 0, .string ⟨#[]⟩]) (size := 3) (bytes := 32) (by kernel_rfl)
  have HX := Lib.hid hx
  have HV := Lib.hid hv
  have HVS := Lib.hid (show v.s.size ≤ maxLen by have := (chk_form hv).2.2.2.2.2; unfold maxLen; omega)
  have BG := hx.blk
  have hrow := hx.row
  obtain ⟨n, hln⟩ : ∃ n, es.length = n := ⟨_, rfl⟩
  rw [hln] at BG hrow hn
  have HROW := Lib.hid hrow
  have HLN := Lib.hid hln
  clear hx hv hrow hln
  go_enter Try.func32, Try.ntmps32
  go_upto_region 1 with fail
  obtain ⟨W, hW_, hbW, BV⟩ : ∃ W_, W_ = (w.alloc (.cells #[.int .i64 v.k, .int .i64 v.n, .string v.s] 41)) ∧ Below w.heap.size w W_ ∧ Blk W_ (w.heap.size) 41 #[.int .i64 v.k, .int .i64 v.n, .string v.s] :=
    ⟨_, rfl, ((Below.refl _ _).alloc (Nat.le_refl _) _), (blk_new_at w (w.heap.size) _ _ (by simp))⟩
  rw [← hW_]
  clear hW_
  obtain ⟨vb, hvb⟩ : ∃ vb, w.heap.size = vb := ⟨_, rfl⟩
  rw [hvb] at BV ⊢
  have hvl := BV.lt
  clear hvb
  have BG := BG.ext hbW
  go_wp2_with fail
  go_loopw [7, 8] (fun l i wr => ∃ (k : Nat) (A1 : Option Addr) (c1 : Nat), i = .int .i64 k ∧ k ≤ n ∧ l = .slice A1 (geN (es.take k) v).length c1 ∧ (geN (es.take k) v).length ≤ most.toNat ∧ wr.ownsRow W.heap.size 41 3 (.slice A1 (geN (es.take k) v).length c1) (geN (es.take k) v).length (cellsV (geN (es.take k) v)) ∧ Below W.heap.size W wr) (fun _ i _ => n - (intOf i).toNat)
  case atStart => exact ⟨0, none, 0, rfl, Nat.zero_le _, rfl, Nat.zero_le _, World.ownsRow_nil _ _ _ _, Below.refl _ _⟩
  case round =>
    obtain ⟨k, A1, c1, rfl, hk, rfl, hml, hown, hbr⟩ := hrel
    have HO := Lib.hid hown
    have BGr := BG.ext hbr
    have BVr := BV.ext hbr
    have q := BGr.three (Below.refl _ _)
    obtain ⟨L, hL⟩ : ∃ L, (geN (es.take k) v) = L := ⟨_, rfl⟩
    have hLn : L.length ≤ 5000 := by
      rw [← hL]
      have := geN_len (es.take k) v
      rw [List.length_take, HLN.out] at this
      omega
    have HO := HO.out
    rw [hL] at HO hml ⊢
    have HO := Lib.hid HO
    have HLE := Lib.hid hL
    clear hown hL
    rcases Nat.lt_or_ge k n with hlt | hge
    case inr =>
      have hd : decide ((k : Int) < (n : Int)) = false := by simp; omega
      have hd0 : decide (k < n) = false := by simp; omega
      obtain rfl : k = n := by omega
      have hLr : L = (fromN es v most) := by rw [← HLE.out, List.take_of_length_le (by rw [HLN.out]; exact Nat.le_refl _)]; unfold fromN; rw [List.take_of_length_le]; rw [← HLE.out, List.take_of_length_le (by rw [HLN.out]; exact Nat.le_refl _)] at hml; exact hml
      have HLR := Lib.hid hLr
      clear hLr hml
      go_wp2
      go_ret
      have hL := HO.out
      rw [HLR.out] at hL
      exact ⟨A1, c1, by rw [← HLR.out]; rfl, own_base hL hbW.size, Below.trans hbW (Below.mono hbr hbW.size)⟩
    have hd : decide ((k : Int) < (n : Int)) = true := by simp; omega
    have hkn : (k : Int) < (n : Int) := by omega
    have hd0 : decide (k < n) = true := by simp; omega
    by_cases hmo : (L.length : Int) < most
    case neg =>
      have hd2 : decide ((L.length : Int) < most) = false := by simp; omega
      have hLr : L = (fromN es v most) := by
        obtain ⟨r, hr⟩ := geN_front es v k
        unfold fromN
        rw [hr, HLE.out, List.take_append_of_le_length (by omega), List.take_of_length_le (by omega)]
      have HLR := Lib.hid hLr
      clear hLr hml hmo
      go_wp2
      go_ret
      have hL := HO.out
      rw [HLR.out] at hL
      exact ⟨A1, c1, by rw [← HLR.out]; rfl, own_base hL hbW.size, Below.trans hbW (Below.mono hbr hbW.size)⟩
    have hd2 : decide ((L.length : Int) < most) = true := by simp; omega
    have HMO := Lib.hid hmo
    clear hmo hml
    obtain ⟨x, hx⟩ : ∃ x, es[k]? = some x := ⟨_, List.getElem?_eq_getElem (by rw [HLN.out]; exact hlt)⟩
    obtain ⟨bA, oA, rfl, _, _, _⟩ := HROW.out.some_ (by omega)
    have HXE := Lib.hid hx
    have HSN := Lib.hid (geN_snoc (v := v) hx)
    have hxo := HX.out.ok x (List.mem_of_getElem? hx)
    have HXO := Lib.hid hxo
    clear hx hxo
    go_wp2_with fail
    clear q
    have hbw := Below.trans hbW (Below.mono hbr hbW.size)
    have D := fun w' (h : Below wr.heap.size wr.drew w') => BGr.three (Below.trans (Below.refl _ _).drew h)
    have DR := fun w' (h : Below wr.heap.size wr.drew w') => row6 (HROW.out.ext (Below.trans hbw.drew (Below.mono h hbw.size))) HXE.out
    have DV := fun w' (h : Below wr.heap.size wr.drew w') => BVr.three (Below.trans (Below.refl _ _).drew h)
    refine wp_region_one [(0, true), (1, true), (2, true), (3, true), (4, true), (5, true), (6, true), (7, true), (8, true), (9, false), (10, true)] (by kernel_rfl) (by kernel_rfl) (by kernel_rfl) (by decide) ?_
    repeat ((with_reducible show wpPerm _ _ _ _ ((_, true) :: _) _ _); (first | (refine wpPerm_on (v := ?_) rfl rfl (wanted_free rfl) (fun w' hS => ?_) ?_; rotate_left; (focus (go_simp; (try with_reducible rfl); done)); try simp only [List.setIfInBounds_toArray, List.set_cons_zero, List.set_cons_succ]) | (refine wpPerm_on (v := ?_) rfl rfl (wanted_yes rfl rfl rfl) (fun w' hS => ?_) ?_; rotate_left; (focus (go_simp; (try with_reducible rfl); done)); try simp only [List.setIfInBounds_toArray, List.set_cons_zero, List.set_cons_succ]) | (refine wpPerm_off rfl rfl (wanted_no rfl rfl rfl) ?_; try simp only [List.setIfInBounds_toArray, List.set_cons_zero, List.set_cons_succ]) | (refine wpPerm_off rfl rfl (wanted_undef rfl rfl rfl) ?_; try simp only [List.setIfInBounds_toArray, List.set_cons_zero, List.set_cons_succ])))
    refine wpPerm_do rfl (wanted_free rfl) (fun K hK => ?_); go_simp
    refine (rcmp_ x.v v _ HXO.out.vs HVS.out).mono ?_
    rintro e3 w3 ⟨rfl, hb3⟩
    rw [rcmp_eq HXO.out.v.chk HV.out]
    refine hK.out _ _ hb3 ?_
    clear hK K
    have hbd := Below.trans ((Below.refl wr.heap.size wr).drew) hb3
    have hbr := Below.trans hbr (Below.mono hbd hbr.size)
    have hbw := Below.trans hbW (Below.mono hbr hbW.size)
    have BGr := BGr.ext hbd
    have HO := Lib.hid (own_ext HO.out hbd)
    clear D DR DV hb3 hbd
    by_cases hc : 0 ≤ cmpV x.v v
    case neg =>
      have HS := HSN.out
      rw [if_neg hc, HLE.out] at HS
      have HS := Lib.hid HS
      have hq : decide (0 ≤ cmpV x.v v) = false := by simpa using hc
      clear hc
      repeat ((with_reducible show wpPerm _ _ _ _ ((_, true) :: _) _ _); (first | (refine wpPerm_on (v := ?_) rfl rfl (wanted_free rfl) (fun w' hS => ?_) ?_; rotate_left; (focus (go_simp; (try with_reducible rfl); done)); try simp only [List.setIfInBounds_toArray, List.set_cons_zero, List.set_cons_succ]) | (refine wpPerm_on (v := ?_) rfl rfl (wanted_yes rfl rfl rfl) (fun w' hS => ?_) ?_; rotate_left; (focus (go_simp; (try with_reducible rfl); done)); try simp only [List.setIfInBounds_toArray, List.set_cons_zero, List.set_cons_succ]) | (refine wpPerm_off rfl rfl (wanted_no rfl rfl rfl) ?_; try simp only [List.setIfInBounds_toArray, List.set_cons_zero, List.set_cons_succ]) | (refine wpPerm_off rfl rfl (wanted_undef rfl rfl rfl) ?_; try simp only [List.setIfInBounds_toArray, List.set_cons_zero, List.set_cons_succ])))
      refine wpPerm_done ?_
      go_wp2
      go_roundw
      case rel => exact ⟨k + 1, A1, c1, by go_num, by omega, by rw [HS.out]; try rfl, by rw [HS.out]; have := HMO.out; omega, by rw [HS.out]; exact HO.out, hbr⟩
      case measure => simp [intOf]; omega
    have HS := HSN.out
    rw [if_pos hc, HLE.out] at HS
    have HS := Lib.hid HS
    have hq : decide (0 ≤ cmpV x.v v) = true := by simpa using hc
    clear hc
    repeat ((with_reducible show wpPerm _ _ _ _ ((_, true) :: _) _ _); (first | (refine wpPerm_on (v := ?_) rfl rfl (wanted_free rfl) (fun w' hS => ?_) ?_; rotate_left; (focus (go_simp; (try with_reducible rfl); done)); try simp only [List.setIfInBounds_toArray, List.set_cons_zero, List.set_cons_succ]) | (refine wpPerm_on (v := ?_) rfl rfl (wanted_yes rfl rfl rfl) (fun w' hS => ?_) ?_; rotate_left; (focus (go_simp; (try with_reducible rfl); done)); try simp only [List.setIfInBounds_toArray, List.set_cons_zero, List.set_cons_succ]) | (refine wpPerm_off rfl rfl (wanted_no rfl rfl rfl) ?_; try simp only [List.setIfInBounds_toArray, List.set_cons_zero, List.set_cons_succ]) | (refine wpPerm_off rfl rfl (wanted_undef rfl rfl rfl) ?_; try simp only [List.setIfInBounds_toArray, List.set_cons_zero, List.set_cons_succ])))
    refine wpPerm_done ?_
    clear hq
    have q := BGr.three (Below.refl _ _)
    have qr := row6 (HROW.out.ext hbw) HXE.out
    go_wp2_with (at_builtin; refine wpList_append_own _ rfl (.tmp 35) (.tmp 44) 38 rfl W.heap.size 41 i0 _ 3 32 Try.underlying38 hi hy0 hy1 hy2 rfl (by decide) _ L.length _ rfl (HO.out.alloc _) ⟨w3.heap.size, 0, none⟩ 1 1 (encV x.k) rfl ?a1 ?a2 ?a3 ?a4 ?a5 ?a6 ?_)
    all_goals try (case a1 => rfl)
    all_goals try (case a2 => exact (Row.of_blk (Blk.new w3 _ _) (Nat.zero_le _) 1 1 (Nat.le_refl _)).src)
    all_goals try (case a3 => exact fun u hu => oneV [x.k] u (by simpa [cellsV, flatK_one] using hu))
    all_goals try (case a4 => unfold maxLen; omega)
    all_goals try (case a5 => omega)
    all_goals try (case a6 => have := hbr.size; simp; omega)
    intro v' wf hown hgrow _
    obtain ⟨A4, c4, rfl⟩ := own_slice hown
    have hbf := (hbr.alloc hbr.size (.cells #[.int .i64 x.k.k, .int .i64 x.k.n, .string x.k.s] 41)).grown hgrow (by have := hbr.size; simp; omega) (fun m h => (HO.out.lt m h).1)
    have HO4 := Lib.hid hown
    clear hown hgrow q qr
    go_wp2
    go_roundw
    case rel => exact ⟨k + 1, A4, c4, by go_num, by omega, by rw [HS.out, List.length_append]; try rfl, by rw [HS.out, List.length_append, List.length_singleton]; have := HMO.out; omega, by rw [HS.out, List.length_append]; unfold cellsV; rw [flatK_append, flatK_one]; exact HO4.out, hbf⟩
    case measure => simp [intOf]; omega
end Go.Proofs.Ytnlmbjmgmofeiaa.ix

/- What IndexPlays keeps from round to round: a table, an index of the code's, one of the document's. -/
namespace Go.Proofs.Ytnlmbjmgmofeiaa.ix
open Go.ChangeShapes Go.WideShapes Go.ChangeAt Go.RowKit Go.Proofs.Ytnlmbjmgmofeiaa.lib Go.Proofs.Ytnlmbjmgmofeiaa.val Go.Proofs.Ytnlmbjmgmofeiaa.tb
set_option linter.unusedVariables false

theorem blk_ne {w : World} {g g' : Nat} {t t' : TypeId} {cs cs' : Array Value} (h : Blk w g t cs) (h' : Blk w g' t' cs') (ht : t ≠ t') : g ≠ g' := by
  rintro rfl
  unfold Blk at h h'
  rw [h] at h'
  injection h' with h'
  injection h' with _ h'
  exact ht h'
theorem blk_kept {w w' : World} {g g' : Nat} {t t' : TypeId} {cs cs' : Array Value} (h : Blk w g t cs) (h' : Blk w g' t' cs') (hg : w.grownBy w' (some g')) (ht : t ≠ t') : Blk w' g t cs :=
  h.grown hg (fun e => by injection e with e; exact blk_ne h h' ht e)
theorem IxA.blk' {w w' : World} {g B col key c g' : Nat} {ws : List Ew} {A : Option Addr} {t : TypeId} {cs : Array Value} (h : IxA w g B col key ws A c) (hB : Blk w g' t cs) (hg : w.grownBy w' (some g')) (h1 : 75 ≠ t) (h2 : 78 ≠ t) (h3 : 5 ≠ t) : IxA w' g B col key ws A c :=
  ⟨blk_kept h.blk hB hg h1, h.own.kept hg (own_ne_blk h.own hB h2), fun x hx => ⟨(h.all x hx).ok, (h.all x hx).own.kept hg (own_ne_blk (h.all x hx).own hB h3)⟩, h.srt, h.gB, Nat.le_trans h.hB hg.size⟩
theorem Row.keptLo {w w' : World} {lo n c g : Nat} {o : Option Nat} {A : Option Addr} {cs : List Value} (h : Row w lo A n c cs) (hk : Kept w w' g o) (hg : g < lo) (ho : ∀ m, o = some m → m < lo) : Row w' lo A n c cs := by
  rcases h with h | h | ⟨b, off, e, hnc, hlo, hlt, hc⟩
  · exact .inl h
  · exact .inr (.inl h)
  · exact .inr (.inr ⟨b, off, e, hnc, hlo, Nat.lt_of_lt_of_le hlt hk.size, fun i u hu => (World.cell?_of_block (hk.block b hlt (by omega) (fun e => by have := ho b e.symm; omega))).trans (hc i u hu)⟩)
theorem Vs.keptLo {w w' : World} {lo n c g : Nat} {o : Option Nat} {A : Option Addr} {l : List V} (h : Vs w lo A n c l) (hk : Kept w w' g o) (hg : g < lo) (ho : ∀ m, o = some m → m < lo) : Vs w' lo A n c l := ⟨Row.keptLo h.1 hk hg ho, h.2⟩
theorem row_zero {w w' : World} {lo c : Nat} {A : Option Addr} (h : Row w lo A 0 c []) : Row w' lo A 0 c [] := by
  rcases h with ⟨rfl, _, rfl, _⟩ | ⟨ad, rfl, _⟩ | ⟨b, off, rfl, _⟩
  · exact Row.nil _ _
  · exact Row.empty _ _ _ _
  · exact Row.empty _ _ _ _
theorem z_no2 {w : World} {g off : Nat} {t : TypeId} {u v : Value} (hB : Blk w g t #[.string ⟨#[]⟩, .slice none 0 0, .int .i64 0, .bool false, .slice none 0 0]) (h0 : w.cell? ⟨g, off, none⟩ = some u) (h1 : w.cell? ⟨g, off + 1, none⟩ = some v) : (off = 0 ∧ u = .string ⟨#[]⟩ ∧ v = .slice none 0 0) ∨ (off = 1 ∧ u = .slice none 0 0 ∧ v = .int .i64 0) ∨ (off = 2 ∧ u = .int .i64 0 ∧ v = .bool false) ∨ (off = 3 ∧ u = .bool false) := by
  rw [hB.cell off] at h0
  rw [hB.cell (off + 1)] at h1
  match off, h0, h1 with
  | 0, h0, h1 => simp at h0 h1; exact .inl ⟨rfl, h0.symm, h1.symm⟩
  | 1, h0, h1 => simp at h0 h1; exact .inr (.inl ⟨rfl, h0.symm, h1.symm⟩)
  | 2, h0, h1 => simp at h0 h1; exact .inr (.inr (.inl ⟨rfl, h0.symm, h1.symm⟩))
  | 3, h0, h1 => simp at h0; exact .inr (.inr (.inr ⟨rfl, h0.symm⟩))
  | off + 4, h0, h1 => simp at h1
/-- a table of noughts is no row of values -/
theorem z_vs {w w' : World} {g lo n c : Nat} {t : TypeId} {A : Option Addr} {l : List V} (h : Vs w lo A n c l) (hB : Blk w g t #[.string ⟨#[]⟩, .slice none 0 0, .int .i64 0, .bool false, .slice none 0 0]) (hg : w.grownBy w' (some g)) : Vs w' lo A n c l := by
  obtain ⟨h, rfl⟩ := h
  cases l with
  | nil => exact ⟨row_zero h, rfl⟩
  | cons x l =>
    refine ⟨h.grown hg (fun b off e e2 => ?_), rfl⟩
    injection e2 with e2
    subst e e2
    obtain ⟨h0, h1, _⟩ := Vs.at_ (l := x :: l) ⟨h, rfl⟩ (i := 0) rfl
    rcases z_no2 hB h0 h1 with ⟨_, _, k⟩ | ⟨_, k, _⟩ | ⟨_, _, k⟩ | ⟨_, k⟩ <;> cases k
/-- each entry is a row's -/
def Lnk (col key : Nat) (es : List En) (rows : List (List V)) : Prop := ∀ x ∈ es, ∃ r ∈ rows, x = enR col key r
theorem take_mem {key : Nat} {rows : List (List V)} {kv : V} {r : List V} (h : r ∈ (takeL key rows kv).2) : r ∈ rows := by
  unfold takeL at h
  split at h
  · rcases List.mem_append.1 h with h | h
    · exact List.mem_of_mem_take h
    · exact List.mem_of_mem_drop h
  · exact h
theorem lnk_drop {col key : Nat} {es : List En} {rows : List (List V)} (h : Lnk col key es rows) (e : En) : Lnk col key (dropN es e) rows := fun x hx => h x (mem_dropN hx)
theorem lnk_take {col key : Nat} {es : List En} {rows : List (List V)} {kv : V} (ho : Srt es) (h : Lnk col key es rows) (hi : isL key kv rows = true) : Lnk col key (dropN es (enR col key (rowL key rows kv))) (takeL key rows kv).2 := by
  intro x hx
  obtain ⟨r, hr, rfl⟩ := h x (mem_dropN hx)
  refine ⟨r, ?_, rfl⟩
  have hne := dropN_ne ho hx
  obtain ⟨r2, h2, h3, _⟩ := rowL_at hi
  rw [h3] at hne
  obtain ⟨j, hj, rfl⟩ := List.getElem_of_mem hr
  have hja : j ≠ atL key kv rows := by
    rintro rfl
    rw [List.getElem?_eq_getElem hj] at h2
    injection h2 with h2
    exact hne (by rw [h2])
  unfold takeL
  rw [if_pos hi]
  rcases Nat.lt_or_ge j (atL key kv rows) with h4 | h4
  · refine List.mem_append_left _ ?_
    rw [List.mem_take_iff_getElem]
    exact ⟨j, by omega, rfl⟩
  · refine List.mem_append_right _ ?_
    rw [List.mem_drop_iff_getElem]
    exact ⟨j - (atL key kv rows + 1), by omega, by congr 1; omega⟩
theorem put_new2 {cs : List Col} {key : Nat} {rows : List (List V)} {r : List V} (hf : fitsL cs r = 0) (hi : isL key (tb.keyOf key r) rows = false) (hl : rows.length < 200) : (putL cs key rows r).2 = rows.take (atL key (tb.keyOf key r) rows) ++ r :: rows.drop (atL key (tb.keyOf key r) rows) := by
  unfold putL
  rw [if_neg (by simp [hf]), if_neg (by simp [hi]), if_neg (by omega)]
theorem lnk_put {cs : List Col} {col key : Nat} {es : List En} {rows : List (List V)} {r : List V} (h : Lnk col key es rows) (hf : fitsL cs r = 0) (hi : isL key (tb.keyOf key r) rows = false) (hl : rows.length < 200) : Lnk col key (addN es (enR col key r)) (putL cs key rows r).2 := by
  rw [put_new2 hf hi hl]
  intro x hx
  rcases mem_addN hx with rfl | hx
  · exact ⟨r, by simp, rfl⟩
  · obtain ⟨q, hq, rfl⟩ := h x hx
    refine ⟨q, ?_, rfl⟩
    rw [← List.take_append_drop (atL key (tb.keyOf key r) rows) rows] at hq
    rcases List.mem_append.1 hq with hq | hq
    · exact List.mem_append_left _ hq
    · exact List.mem_append_right _ (List.mem_cons_of_mem _ hq)
theorem isN_lnk {col key : Nat} {es : List En} {rows : List (List V)} {r : List V} (h : Lnk col key es rows) (ho : rows.Pairwise fun a b => cmpV (tb.keyOf key a) (tb.keyOf key b) < 0) (hi : isL key (tb.keyOf key r) rows = false) : isN (enR col key r) es = false := by
  cases hb : isN (enR col key r) es with
  | false => rfl
  | true =>
    obtain ⟨x, hx, hz⟩ := n_isL_at hb
    obtain ⟨q, hq, rfl⟩ := h x (List.mem_of_getElem? hx)
    have h2 := congrArg En.k (cmpN_zero hz)
    rw [enR_k, enR_k] at h2
    exact absurd (by rw [h2, cmpV_refl]) (isL_none ho hi q hq)
theorem put_len2 {cs : List Col} {key : Nat} {rows : List (List V)} {r : List V} : (putL cs key rows r).2.length ≤ rows.length + 1 := by
  have := put_len (cs := cs) (key := key) (rows := rows) (r := r)
  split at this <;> omega
theorem take_len2 {key : Nat} {rows : List (List V)} {k : V} : (takeL key rows k).2.length ≤ rows.length := by
  have := take_len (key := key) (rows := rows) (k := k)
  omega
/-- the table, the code's index, the document's -/
structure PS (w0 w : World) (S : Sch) (A7 : Option Addr) (c7 gt g gy col k : Nat) (rows : List (List V)) (At : Option Addr) (nt ct : Nat) (ws : List Ew) (Ax : Option Addr) (cx : Nat) (Ay : Option Addr) (cy : Nat) : Prop where
  hb : Below w0.heap.size w0 w
  bt : Blk w gt 32 #[.string S.name, .slice A7 S.cols.length c7, .int .i64 S.key, .bool S.only, .slice At nt ct]
  rs : RsO w At nt ct rows
  ok : Ok S.cols S.key rows
  ln : nt ≤ 50 + k
  fd : ∀ r ∈ rows, Fitd S.cols r
  ix : IxA w g (g + 1) col S.key ws Ax cx
  ry : RIx w gy col S.key (ws.map (·.e)) Ay cy
  lk : Lnk col S.key (ws.map (·.e)) rows
  wl : ws.length ≤ 50 + k
def PInv (w0 w : World) (S : Sch) (A7 : Option Addr) (c7 gt g gy col k : Nat) : Prop := ∃ rows At nt ct ws Ax cx Ay cy, PS w0 w S A7 c7 gt g gy col k rows At nt ct ws Ax cx Ay cy
theorem PS.ext {w0 w w' : World} {S : Sch} {A7 : Option Addr} {c7 gt g gy col k : Nat} {rows : List (List V)} {At : Option Addr} {nt ct : Nat} {ws : List Ew} {Ax : Option Addr} {cx : Nat} {Ay : Option Addr} {cy : Nat} (h : PS w0 w S A7 c7 gt g gy col k rows At nt ct ws Ax cx Ay cy) (hb : Below w.heap.size w w') : PS w0 w' S A7 c7 gt g gy col k rows At nt ct ws Ax cx Ay cy :=
  ⟨Below.trans h.hb (Below.mono hb h.hb.size), h.bt.ext hb, h.rs.ext hb, h.ok, h.ln, h.fd, h.ix.ext hb, h.ry.ext hb, h.lk, h.wl⟩
theorem PS.more {w0 w : World} {S : Sch} {A7 : Option Addr} {c7 gt g gy col k : Nat} {rows : List (List V)} {At : Option Addr} {nt ct : Nat} {ws : List Ew} {Ax : Option Addr} {cx : Nat} {Ay : Option Addr} {cy : Nat} (h : PS w0 w S A7 c7 gt g gy col k rows At nt ct ws Ax cx Ay cy) : PS w0 w S A7 c7 gt g gy col (k + 1) rows At nt ct ws Ax cx Ay cy :=
  ⟨h.hb, h.bt, h.rs, h.ok, by have := h.ln; omega, h.fd, h.ix, h.ry, h.lk, by have := h.wl; omega⟩
end Go.Proofs.Ytnlmbjmgmofeiaa.ix
