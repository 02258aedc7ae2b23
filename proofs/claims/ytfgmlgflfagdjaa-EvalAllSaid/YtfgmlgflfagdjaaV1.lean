/- Contracts: node at a column's name; Value over a row. Printed by genv1.py. -/
import Derived.Test.YtfgmlgflfagdjaaE14
namespace Go.Proofs.Ytfgmlgflfagdjaa.ev
open Go.ChangeShapes Go.WideShapes Go.ChangeAt Go.RowKit Go.Proofs.Ytfgmlgflfagdjaa.lib Go.Proofs.Ytfgmlgflfagdjaa.val
set_option linter.unusedVariables false

set_option maxHeartbeats 1000000 in
theorem node_col (op a b vk vn : Int) (vs s : ByteArray) (er : Int) (j len cap bk off : Nat) (x : V) (L C : Value) (w : World) (hop : op = 2) (hj : j < len) (hj2 : len < 1000)
    (hf : ∀ w', Below w.heap.size w w' → Calls Try.prog 49 #[.string s, C] w' fun e w'' => e = .returned (two (j, er)) ∧ Below w'.heap.size w' w'')
    (hlt : bk < w.heap.size) (hc : w.cell? ⟨bk, off + j * 3, none⟩ = some (.int .i64 x.k) ∧ w.cell? ⟨bk, off + j * 3 + 1, none⟩ = some (.int .i64 x.n) ∧ w.cell? ⟨bk, off + j * 3 + 2, none⟩ = some (.string x.s)) :
    Calls Try.prog 39 #[.agg #[.int .i64 op, .int .i64 a, .int .i64 b, .int .i64 vk, .int .i64 vn, .string vs, .string s], L, C, .slice (some ⟨bk, off, none⟩) len cap] w fun e w' => e = .returned (.agg #[.int .i64 x.k, .int .i64 x.n, .string x.s]) ∧ Below w.heap.size w w' := by
  subst hop
  obtain ⟨xk, xn, xs⟩ := x
  simp only at hc ⊢
  have hd : decide ((len : Int) ≤ (j : Int)) = false := by simp; omega
  have hjl : (j : Int) < (len : Int) := by omega
  go_enter Try.func39, Try.ntmps39
  go_wp2_with fail
  obtain ⟨W, hW_, hbW, B1, B3⟩ : ∃ W_, W_ = ((w.alloc (.cells #[.int .i64 2, .int .i64 a, .int .i64 b, .int .i64 vk, .int .i64 vn, .string vs, .string s] 36)).alloc (.cells #[.int .i64 0, .int .i64 0, .string ⟨#[]⟩] 30)) ∧ Below w.heap.size w W_ ∧ Blk W_ (w.heap.size) 36 #[.int .i64 2, .int .i64 a, .int .i64 b, .int .i64 vk, .int .i64 vn, .string vs, .string s] ∧ Blk W_ (w.heap.size + 1) 30 #[.int .i64 0, .int .i64 0, .string ⟨#[]⟩] :=
    ⟨_, rfl, (((Below.refl _ _).alloc (Nat.le_refl _) _).alloc (by simp; try omega) _), ((blk_new_at w (w.heap.size) _ _ (by simp)).alloc _), (blk_new_at (w.alloc (.cells #[.int .i64 2, .int .i64 a, .int .i64 b, .int .i64 vk, .int .i64 vn, .string vs, .string s] 36)) (w.heap.size + 1) _ _ (by simp))⟩
  rw [← hW_]
  clear hW_
  have q1 := seven B1 (Below.refl _ _)
  go_wp2_with fail
  clear q1
  refine (hf _ (by exact hbW)).mono ?_
  rintro e w2 ⟨rfl, hb2⟩
  unfold two
  have hb3 : Below w.heap.size w w2 := Below.trans hbW (Below.mono hb2 hbW.size)
  have qa : w2.cell? ⟨bk, off + j * 3, none⟩ = some (.int .i64 xk) := (hb3.cell (by exact hlt)).trans hc.1
  have qb : w2.cell? ⟨bk, off + j * 3 + 1, none⟩ = some (.int .i64 xn) := (hb3.cell (by exact hlt)).trans hc.2.1
  have qc : w2.cell? ⟨bk, off + j * 3 + 2, none⟩ = some (.string xs) := (hb3.cell (by exact hlt)).trans hc.2.2
  have q_ := (B3.ext hb2).three (Below.refl _ _)
  have f_ := (B3.ext hb2).free3
  clear hc
  go_wp2_with fail
  clear q_ f_ qa qb qc
  obtain ⟨wE, hwE, BE, hbE, hfar, _⟩ := (B3.ext hb2).set3 (.int .i64 xk) (.int .i64 xn) (.string xs)
  rw [← hwE]
  have q_ := BE.three (Below.refl _ _)
  exact bodyPost_ret (v := .agg #[.int .i64 xk, .int .i64 xn, .string xs]) (by simp [results, Try.results39, go_sem, q_]) rfl ⟨rfl, Below.trans hb3 (hbE _ (by omega))⟩

/-- a node's value over a row -/
def nodeR (Rv : ByteArray → V) (vs : List V) (n : Nd) : Option V := if n.op = 2 then some (Rv n.s) else nodeV vs n
def valsR (Rv : ByteArray → V) : List Nd → List V → Option (List V)
  | [], vs => some vs
  | n :: r, vs => (nodeR Rv vs n).bind fun v => valsR Rv r (vs ++ [v])
/-- how the row answers -/
def RowOK (w : World) (B : Nat) (R : Value) (F : ByteArray → Int × Int) (Rv : ByteArray → V) (n : Nd) : Prop :=
  n.op = 2 → (F n.s).2 = 0 → ∃ j bk off len cap : Nat, (F n.s).1 = j ∧ R = .slice (some ⟨bk, off, none⟩) len cap ∧ j < len ∧ len < 1000 ∧ bk < B ∧ ok64 (Rv n.s).n ∧
    (w.cell? ⟨bk, off + j * 3, none⟩ = some (.int .i64 (Rv n.s).k) ∧ w.cell? ⟨bk, off + j * 3 + 1, none⟩ = some (.int .i64 (Rv n.s).n) ∧ w.cell? ⟨bk, off + j * 3 + 2, none⟩ = some (.string (Rv n.s).s))
theorem ColOK.below {w w' : World} {B : Nat} {C : Value} {F : ByteArray → Int × Int} {G : ByteArray → Int} {n : Nd} (h : ColOK w B C F G n) (hb : Below B w w') : ColOK w' B C F G n := fun ho => by
  obtain ⟨h1, h2⟩ := h ho
  refine ⟨fun v hv => h1 v (Below.trans hb hv), fun h0 => ?_⟩
  obtain ⟨j, bk, off, len, cap, e1, e2, e3, e4, e5, e6⟩ := h2 h0
  exact ⟨j, bk, off, len, cap, e1, e2, e3, e4, e5, (hb.cell (by exact e5)).trans e6⟩
theorem RowOK.below {w w' : World} {B : Nat} {R : Value} {F : ByteArray → Int × Int} {Rv : ByteArray → V} {n : Nd} (h : RowOK w B R F Rv n) (hb : Below B w w') : RowOK w' B R F Rv n := fun ho h0 => by
  obtain ⟨j, bk, off, len, cap, e1, e2, e3, e4, e5, e7, e6, e8, e9⟩ := h ho h0
  exact ⟨j, bk, off, len, cap, e1, e2, e3, e4, e5, e7, (hb.cell (by exact e5)).trans e6, (hb.cell (by exact e5)).trans e8, (hb.cell (by exact e5)).trans e9⟩
def FineR (F : ByteArray → Int × Int) (k : Nat) (n : Nd) : Prop := n.op = 2 ∧ (F n.s).2 = 0 ∨ n.op ≠ 2 ∧ Fine k n
theorem nodeRs (n : Nd) (o : Option V) (l : List V) (m c B : Nat) (A : Option Addr) (C R : Value) (F : ByteArray → Int × Int) (G : ByteArray → Int) (Rv : ByteArray → V) (w0 w : World) (ho : nodeR Rv l n = o) (hf : FineR F m n) (hm : l.length = m) (hm2 : m < 1000) (hL : Vals w w.heap.size A l)
    (hB : B ≤ w0.heap.size) (hw : Below B w0 w) (hc : ColOK w0 B C F G n) (hr : RowOK w0 B R F Rv n) (hok : ∀ v ∈ l, ok64 v.n) :
    Calls Try.prog 39 #[.agg #[.int .i64 n.op, .int .i64 n.a, .int .i64 n.b, .int .i64 n.v.k, .int .i64 n.v.n, .string n.v.s, .string n.s], .slice A m c, C, R] w fun e w' => e = nodeE o ∧ Below w.heap.size w w' := by
  subst ho
  rcases hf with ⟨h2, h0⟩ | ⟨h2, hf⟩
  · have hBw : B ≤ w.heap.size := Nat.le_trans hB hw.size
    obtain ⟨h1, _⟩ := hc.below hw h2
    obtain ⟨j, bk, off, len, cap, e1, rfl, e3, e4, e5, _, e6⟩ := hr.below hw h2 h0
    unfold nodeR
    rw [if_pos h2]
    refine node_col n.op n.a n.b n.v.k n.v.n n.v.s n.s 0 j len cap bk off (Rv n.s) _ C w h2 e3 e4 (fun w' hb => ?_) (by omega) e6
    have := h1 w' (Below.mono hb hBw)
    rw [show F n.s = ((j : Int), 0) from Prod.ext e1 h0] at this
    exact this
  · unfold nodeR
    rw [if_neg h2]
    exact node n l m c w.heap.size A C R w hf hm hm2 hL (Nat.le_refl _) hok
theorem kindN_fineR {F : ByteArray → Int × Int} {G : ByteArray → Int} {ks : List Int} {n : Nd} (h : (kindN F G ks n).2 = 0) (hv : ok64 n.v.n) : FineR F ks.length n := by
  by_cases h2 : n.op = 2
  · refine .inl ⟨h2, ?_⟩
    unfold kindN at h
    rw [if_neg (by rw [h2]; decide), if_neg (by rw [h2]; decide), if_pos h2] at h
    split at h
    · assumption
    · exact h
  · exact .inr ⟨h2, kindN_fine h h2 hv⟩
theorem kinds_fineR {F : ByteArray → Int × Int} {G : ByteArray → Int} : ∀ (es : List Nd) (ks : List Int), (kindsV F G es ks).2 = 0 → (∀ n ∈ es, ok64 n.v.n) → ∀ (i : Nat) n, es[i]? = some n → FineR F (ks.length + i) n
  | [], ks, _, _, i, n, h => by cases h
  | x :: r, ks, hk, hn, i, n, h => by
    rw [kindsV] at hk
    by_cases c : (kindN F G ks x).2 = 0
    · rw [if_pos c] at hk
      match i, h with
      | 0, h =>
        injection h with h
        subst h
        exact kindN_fineR c (hn _ (List.mem_cons_self ..))
      | i + 1, h =>
        have := kinds_fineR r _ hk (fun n hm => hn n (List.mem_cons_of_mem _ hm)) i n h
        rw [List.length_append] at this
        rw [show ks.length + (i + 1) = ks.length + [(kindN F G ks x).1].length + i by simp; omega]
        exact this
    · rw [if_neg c] at hk
      exact absurd hk c
theorem Kind_fineR {F : ByteArray → Int × Int} {G : ByteArray → Int} {es : List Nd} {k : Int} (h : KindV F G es = (k, 0)) (hn : ∀ n ∈ es, ok64 n.v.n) : (1 ≤ es.length ∧ es.length ≤ 60) ∧ ∀ (i : Nat) n, es[i]? = some n → FineR F i n := by
  unfold KindV at h
  by_cases c : es.length < 1 ∨ 60 < es.length
  · rw [if_pos c] at h; cases h
  · rw [if_neg c] at h
    refine ⟨by omega, fun i n hi => ?_⟩
    have := kinds_fineR es [] (by rw [h]) hn i n hi
    simpa using this
theorem node_okR {F : ByteArray → Int × Int} {Rv : ByteArray → V} {w : World} {B : Nat} {R : Value} {vs : List V} {n : Nd} {v : V} (h : nodeR Rv vs n = some v) (hf : FineR F vs.length n) (hr : RowOK w B R F Rv n) (hv : ∀ x ∈ vs, ok64 x.n) : ok64 v.n := by
  unfold nodeR at h
  rcases hf with ⟨h2, h0⟩ | ⟨h2, hf⟩
  · obtain ⟨j, bk, off, len, cap, _, _, _, _, _, e, _⟩ := hr h2 h0
    rw [if_pos h2] at h
    injection h with h
    subst h
    exact e
  · rw [if_neg h2] at h
    exact node_ok h hf hv
theorem valsR_stop {Rv : ByteArray → V} {es : List Nd} {k : Nat} {vs : List V} {nd : Nd} (h : es[k]? = some nd) (hp : nodeR Rv vs nd = none) : valsR Rv (es.drop k) vs = none := by
  rw [drop_at es k nd h, valsR, hp]; rfl
theorem valsR_step {Rv : ByteArray → V} {es : List Nd} {k : Nat} {vs : List V} {nd : Nd} {v : V} (h : es[k]? = some nd) (hp : nodeR Rv vs nd = some v) : valsR Rv (es.drop k) vs = valsR Rv (es.drop (k + 1)) (vs ++ [v]) := by
  rw [drop_at es k nd h, valsR, hp]; rfl
theorem KindrR (es : List Nd) (p : Int × Int) (A : Option Addr) (N c B : Nat) (C : Value) (F : ByteArray → Int × Int) (G : ByteArray → Int) (w0 w : World) (hp : KindV F G es = p) (hN : es.length = N) (hB : B ≤ w0.heap.size) (hw : Below B w0 w) (hr : Nds w0 B A es)
    (hc : ∀ n ∈ es, ColOK w0 B C F G n) (hs : ∀ n ∈ es, n.v.s.size ≤ maxLen) :
    Calls Try.prog 20 #[.slice A N c, C] w fun e w' => e = .returned (two p) ∧ Below w.heap.size w w' := by
  subst hp
  exact Kind es A N c B C F G w hN (Nat.le_trans hB hw.size) (hr.below hw) (fun n hn => (hc n hn).below hw) hs

set_option maxHeartbeats 1000000 in
theorem Value_badR (es : List Nd) (A : Option Addr) (N c B : Nat) (C R : Value) (F : ByteArray → Int × Int) (G : ByteArray → Int) (w : World) (k er : Int) (hk : KindV F G es = (k, er)) (her : er ≠ 0) (hN : es.length = N) (hB : B ≤ w.heap.size) (hr : Nds w B A es)
    (hc : ∀ n ∈ es, ColOK w B C F G n) (hs : ∀ n ∈ es, n.v.s.size ≤ maxLen) :
    Calls Try.prog 23 #[.slice A N c, C, R] w fun e w' => e = .returned (.tuple #[.agg #[.int .i64 0, .int .i64 0, .string ⟨#[]⟩], .int .i64 er]) ∧ Below w.heap.size w w' := by
  have he : (er == 0) = false := by simpa using her
  have hmf : ∀ (fn : Fn) (first cap : Array Value) (w : World), (Instr.makeFunc fn first cap).run Try.prog w = .ok (.func fn first cap) w := fun _ _ _ _ => rfl
  have HK := Lib.hid hk
  have HN := Lib.hid hN
  clear hk hN
  go_enter_defers Try.func23, Try.ntmps23
  go_wp2_with fail
  obtain ⟨W, hW_, hbW, B1, B2⟩ : ∃ W_, W_ = ((w.alloc (.cells #[.int .i64 0, .int .i64 0, .string ⟨#[]⟩] 30)).alloc (.cells #[.int .i64 0] 41)) ∧ Below w.heap.size w W_ ∧ Blk W_ (w.heap.size) 30 #[.int .i64 0, .int .i64 0, .string ⟨#[]⟩] ∧ Blk W_ (w.heap.size + 1) 41 #[.int .i64 0] :=
    ⟨_, rfl, (((Below.refl _ _).alloc (Nat.le_refl _) _).alloc (by simp; try omega) _), ((blk_new_at w (w.heap.size) _ _ (by simp)).alloc _), (blk_new_at (w.alloc (.cells #[.int .i64 0, .int .i64 0, .string ⟨#[]⟩] 30)) (w.heap.size + 1) _ _ (by simp))⟩
  rw [← hW_]
  clear hW_
  refine (KindrR es _ A N c B C F G w W HK.out HN.out hB (Below.mono hbW hB) hr hc hs).mono ?_
  rintro e w3 ⟨rfl, hb3⟩
  unfold two
  have q1 := (B1.ext hb3).three (Below.refl _ _)
  have f1 := (B1.ext hb3).free3
  have q2 : w3.cell? ⟨w.heap.size + 1, 0, none⟩ = some (.int .i64 0) := (B2.ext hb3).cell 0
  have f2 := (B2.ext hb3).frozen 0
  go_wp2
  clear q1 f1 q2 f2
  obtain ⟨wE, hwE, E1, E2, hbE⟩ := two_set (B1.ext hb3) (B2.ext hb3) (by omega) (.int .i64 0) (.int .i64 0) (.string ⟨#[]⟩) (.int .i64 er)
  rw [← hwE]
  have q1 := E1.three (Below.refl _ _)
  have q2 : wE.cell? ⟨w.heap.size + 1, 0, none⟩ = some (.int .i64 er) := E2.cell 0
  have hb4 : Below w.heap.size w wE := Below.trans (bch0 hbW hb3) (hbE _ (by omega) (by omega))
  simp [bodyPostD, Leaves, results, Try.results23, go_sem, q1, q2, hb4]


theorem hvals5 {w w' : World} {A : Option Addr} {vs : List V} (h : Vals w w.heap.size A vs) (hb : Below w.heap.size w w') : Vals w' w'.heap.size A vs := fun hn => by
  obtain ⟨b, off, e, hlt, hc⟩ := (h.below hb) hn
  exact ⟨b, off, e, Nat.lt_of_lt_of_le hlt hb.size, hc⟩

set_option maxRecDepth 1000000 in
set_option maxHeartbeats 4000000 in
theorem Value_okR (es : List Nd) (A : Option Addr) (N c B : Nat) (C R : Value) (F : ByteArray → Int × Int) (G : ByteArray → Int) (Rv : ByteArray → V) (w : World) (k0 : Int) (hk : KindV F G es = (k0, 0)) (hN : es.length = N) (hB : B ≤ w.heap.size) (hr : Nds w B A es)
    (hc : ∀ n ∈ es, ColOK w B C F G n) (hrow : ∀ n ∈ es, RowOK w B R F Rv n) (hs : ∀ n ∈ es, n.v.s.size ≤ maxLen) (hv : ∀ n ∈ es, ok64 n.v.n) :
    Calls Try.prog 23 #[.slice A N c, C, R] w fun e w' => e = .returned (ValueV (valsR Rv es [])) ∧ Below w.heap.size w w' := by
  have hmf : ∀ (fn : Fn) (first cap : Array Value) (w : World), (Instr.makeFunc fn first cap).run Try.prog w = .ok (.func fn first cap) w := fun _ _ _ _ => rfl
  obtain ⟨⟨hn1, hn60⟩, hfine⟩ := Kind_fineR hk hv
  rw [hN] at hn1 hn60
  obtain ⟨i0, hi, hz0, hz1, hz2⟩ := info_parts (P := Try.prog) (e := 30) (z := .agg #[.int .i64 0, .int .i64 0, .string ⟨#[]⟩]) (size := 3) (bytes := 32) (by kernel_rfl)
  have hu : Try.prog.underlying 25 = some (.slice 30) := by kernel_rfl
  have HK := Lib.hid hk
  have HN := Lib.hid hN
  clear hk hN
  go_enter_defers Try.func23, Try.ntmps23
  go_wp2_with fail
  obtain ⟨W, hW_, hbW, B1, B2⟩ : ∃ W_, W_ = ((w.alloc (.cells #[.int .i64 0, .int .i64 0, .string ⟨#[]⟩] 30)).alloc (.cells #[.int .i64 0] 41)) ∧ Below w.heap.size w W_ ∧ Blk W_ (w.heap.size) 30 #[.int .i64 0, .int .i64 0, .string ⟨#[]⟩] ∧ Blk W_ (w.heap.size + 1) 41 #[.int .i64 0] :=
    ⟨_, rfl, (((Below.refl _ _).alloc (Nat.le_refl _) _).alloc (by simp; try omega) _), ((blk_new_at w (w.heap.size) _ _ (by simp)).alloc _), (blk_new_at (w.alloc (.cells #[.int .i64 0, .int .i64 0, .string ⟨#[]⟩] 30)) (w.heap.size + 1) _ _ (by simp))⟩
  rw [← hW_]
  clear hW_
  have hWs : w.heap.size + 2 ≤ W.heap.size := B2.lt
  refine (KindrR es _ A N c B C F G w W HK.out HN.out hB (Below.mono hbW hB) hr hc hs).mono ?_
  rintro e w3 ⟨rfl, hb3⟩
  unfold two
  go_wp2
  go_loopw [10, 26] (fun l i wr => ∃ (k : Nat) (vs : List V), k ≤ N ∧ i = .int .i64 k ∧ vs.length = k ∧ wr.ownsRow (w.heap.size + 2) 30 3 l k (cellsV vs) ∧
      Below w.heap.size w wr ∧ Blk wr w.heap.size 30 #[.int .i64 0, .int .i64 0, .string ⟨#[]⟩] ∧ Blk wr (w.heap.size + 1) 41 #[.int .i64 0] ∧ w.heap.size + 2 ≤ wr.heap.size ∧
      (∀ x ∈ vs, ok64 x.n) ∧ valsR Rv (es.drop k) vs = valsR Rv es [])
    (fun _ i _ => N - (intOf i).toNat)
  case atStart => exact ⟨0, [], Nat.zero_le _, rfl, rfl, World.ownsRow_nil _ _ _ _, bch0 hbW hb3, B1.ext hb3, B2.ext hb3, Nat.le_trans hWs hb3.size, fun x h => absurd h (by simp), rfl⟩
  case round =>
    obtain ⟨k, vs, hk, rfl, hkl, hown, hb, E1, E2, hsz, hok, hks⟩ := hrel
    have HKS := Lib.hid hks
    have HKL := Lib.hid hkl
    clear hks hkl
    obtain ⟨Al, cl, rfl, hvals, hAl⟩ := own_vals hown HKL.out
    rcases Nat.lt_or_ge k N with hlt | hge
    · have hd : decide ((k : Int) < (N : Int)) = true := by simp; omega
      obtain ⟨b, off, rfl, hlb, hcl⟩ := hr (by rw [HN.out]; omega)
      obtain ⟨nd, hnd⟩ : ∃ nd, es[k]? = some nd := ⟨_, List.getElem?_eq_getElem (by rw [HN.out]; exact hlt)⟩
      have HND := Lib.hid hnd
      clear hnd
      have qc := (Nds.below hr (Below.mono hb hB)).cells HND.out
      go_wp2_with fail
      clear qc
      obtain ⟨o, ho⟩ : ∃ o, nodeR Rv vs nd = o := ⟨_, rfl⟩
      have HO := Lib.hid ho
      clear ho
      obtain ⟨W5, hW_, hbW5, B5⟩ : ∃ W_, W_ = (wr.alloc (.cells #[.int .i64 nd.op, .int .i64 nd.a, .int .i64 nd.b, .int .i64 nd.v.k, .int .i64 nd.v.n, .string nd.v.s, .string nd.s] 36)) ∧ Below wr.heap.size wr W_ ∧ Blk W_ (wr.heap.size) 36 #[.int .i64 nd.op, .int .i64 nd.a, .int .i64 nd.b, .int .i64 nd.v.k, .int .i64 nd.v.n, .string nd.v.s, .string nd.s] :=
        ⟨_, rfl, ((Below.refl _ _).alloc (Nat.le_refl _) _), (blk_new_at wr (wr.heap.size) _ _ (by simp))⟩
      rw [← hW_]
      clear hW_
      refine (nodeRs nd o vs k cl B Al C R F G Rv w W5 HO.out (hfine k nd HND.out) HKL.out (by omega) (hvals5 hvals hbW5) hB (Below.trans (Below.mono hb hB) (Below.mono hbW5 (Nat.le_trans hB hb.size))) (hc nd (List.mem_of_getElem? HND.out)) (hrow nd (List.mem_of_getElem? HND.out)) hok).mono ?_
      rintro e w6 ⟨he, hb6⟩
      have hb7 : Below wr.heap.size wr w6 := bch0 hbW5 hb6
      have hown6 := own_ext hown hb7
      have E16 := E1.ext hb7
      have E26 := E2.ext hb7
      have hb8 : Below w.heap.size w w6 := bch0 hb hb7
      have hs8 : w.heap.size + 2 ≤ w6.heap.size := Nat.le_trans hsz hb7.size
      clear hown E1 E2
      cases o with
      | none =>
        unfold nodeE at he
        subst he
        have hval : valsR Rv es [] = none := by rw [← HKS.out]; exact valsR_stop HND.out HO.out
        have HV := Lib.hid hval
        clear hval
        go_wp2
        refine leaves_cons (f := 38) (args := #[.pointer (some ⟨w.heap.size, 0, none⟩), .pointer (some ⟨w.heap.size + 1, 0, none⟩)]) (by simp) (by simp [go_sem]) ?_
        refine (catch_panicking w.heap.size (w.heap.size + 1) 11 _ _ _ _ [] _ E16 E26 (by omega)).mono ?_
        rintro e u' w7 ⟨rfl, rfl, k1, k2, hbb⟩
        have q1 := k1.three (Below.refl _ _)
        have q2 : w7.cell? ⟨w.heap.size + 1, 0, none⟩ = some (.int .i64 11) := k2.cell 0
        have hb9 : Below w.heap.size w w7 := Below.trans hb8 (hbb _ (by omega) (by omega))
        simp [Leaves, settle, results, Try.results23, go_sem, q1, q2, hb9, ValueV]
        rw [HV.out]
      | some v =>
        unfold nodeE at he
        subst he
        go_wp2_with (at_builtin; refine wpList_append_own _ rfl _ _ 25 rfl (w.heap.size + 2) 30 i0 (.agg #[.int .i64 0, .int .i64 0, .string ⟨#[]⟩]) 3 32 hu hi hz0 hz1 hz2 rfl (by decide) _ _ _ rfl (hown6.alloc _) ⟨w6.heap.size, 0, none⟩ 1 1 [.int .i64 v.k, .int .i64 v.n, .string v.s] rfl rfl ?c1 ?c2 ?c3 ?c4 ?c5 ?_)
        case c1 =>
          intro j u hj
          match j, hj with
          | 0, hj => simp at hj; subst hj; simp [Addr.add]
          | 1, hj => simp at hj; subst hj; simp [Addr.add]
          | 2, hj => simp at hj; subst hj; simp [Addr.add]
        case c2 => intro u hu; simp at hu; rcases hu with rfl | rfl | rfl <;> rfl
        case c3 => unfold maxLen; omega
        case c4 => omega
        case c5 => simp; omega
        intro v' w9 hown9 hgrow9 _
        have hrw : ∀ g, (Value.slice Al k cl).ownBlock = some g → w.heap.size + 2 ≤ g := fun g hg => (hown6.lt g hg).1
        have E19 : Blk w9 w.heap.size 30 #[.int .i64 0, .int .i64 0, .string ⟨#[]⟩] := (E16.alloc _).grown hgrow9 (fun h => by have := hrw _ h.symm; omega)
        have E29 : Blk w9 (w.heap.size + 1) 41 #[.int .i64 0] := (E26.alloc _).grown hgrow9 (fun h => by have := hrw _ h.symm; omega)
        have hb9 : Below w.heap.size w w9 := (hb8.alloc (by omega) _).grown hgrow9 (by simp; omega) (fun g hg => by have := hrw g hg; omega)
        have hs9 : w.heap.size + 2 ≤ w9.heap.size := by have := hgrow9.size; simp at this; omega
        have hok9 : ∀ x ∈ vs ++ [v], ok64 x.n := by
          intro x hx
          rcases List.mem_append.1 hx with hx | hx
          · exact hok x hx
          · simp at hx; subst hx; exact node_okR HO.out (by rw [HKL.out]; exact hfine k nd HND.out) (hrow nd (List.mem_of_getElem? HND.out)) hok
        go_wp2
        go_roundw
        case rel => exact ⟨k + 1, vs ++ [v], by omega, rfl, by simp [HKL.out], by rw [append_cells]; exact hown9, hb9, E19, E29, hs9, hok9, by rw [← valsR_step HND.out HO.out]; exact HKS.out⟩
        case measure => simp [intOf]; omega
    · have hd : decide ((k : Int) < (N : Int)) = false := by simp; omega
      obtain rfl : k = N := by omega
      obtain ⟨g, rfl, hg⟩ := hAl (by omega)
      have qe := hvals.at_ (last_val vs (k - 1) (by rw [HKL.out]; omega))
      simp only [Nat.zero_add] at qe
      have hval : valsR Rv es [] = some vs := by rw [← HKS.out, List.drop_eq_nil_of_le (by rw [HN.out]; omega)]; rfl
      have HV := Lib.hid hval
      clear hval
      have q1 := E1.three (Below.refl _ _)
      have f1 := E1.free3
      have q2 : wr.cell? ⟨w.heap.size + 1, 0, none⟩ = some (.int .i64 0) := E2.cell 0
      have f2 := E2.frozen 0
      go_wp2
      clear q1 f1 q2 f2 qe
      obtain ⟨wE, hwE, H1, H2, hbE⟩ := two_set E1 E2 (by omega) (.int .i64 (vs.getLast?.getD nul).k) (.int .i64 (vs.getLast?.getD nul).n) (.string (vs.getLast?.getD nul).s) (.int .i64 0)
      rw [← hwE]
      refine leaves_cons (f := 38) (args := #[.pointer (some ⟨w.heap.size, 0, none⟩), .pointer (some ⟨w.heap.size + 1, 0, none⟩)]) (by simp) (by simp [go_sem]) ?_
      refine (catch_idle w.heap.size (w.heap.size + 1) _).mono ?_
      rintro e u' w7 ⟨rfl, rfl, rfl⟩
      have q1 := H1.three (Below.refl _ _)
      have q2 : w7.cell? ⟨w.heap.size + 1, 0, none⟩ = some (.int .i64 0) := H2.cell 0
      have hb9 : Below w.heap.size w w7 := Below.trans hb (hbE _ (by omega) (by omega))
      simp [Leaves, settle, results, Try.results23, go_sem, q1, q2, hb9, ValueV]
      rw [HV.out]

/-- what Value answers over columns and a row -/
def EvR (F : ByteArray → Int × Int) (G : ByteArray → Int) (Rv : ByteArray → V) (es : List Nd) : Value := if (KindV F G es).2 = 0 then ValueV (valsR Rv es []) else .tuple #[.agg #[.int .i64 0, .int .i64 0, .string ⟨#[]⟩], .int .i64 (KindV F G es).2]
theorem ValueR (es : List Nd) (r : Value) (A : Option Addr) (N c B : Nat) (C R : Value) (F : ByteArray → Int × Int) (G : ByteArray → Int) (Rv : ByteArray → V) (w : World) (hr : EvR F G Rv es = r) (hN : es.length = N) (hB : B ≤ w.heap.size) (hn : Nds w B A es)
    (hc : ∀ n ∈ es, ColOK w B C F G n) (hrow : ∀ n ∈ es, RowOK w B R F Rv n) (hs : ∀ n ∈ es, n.v.s.size ≤ maxLen ∧ ok64 n.v.n) :
    Calls Try.prog 23 #[.slice A N c, C, R] w fun e w' => e = .returned r ∧ Below w.heap.size w w' := by
  subst hr
  unfold EvR
  obtain ⟨⟨k, er⟩, hp⟩ : ∃ p, KindV F G es = p := ⟨_, rfl⟩
  rw [hp]
  by_cases h : er = 0
  · subst h
    rw [if_pos rfl]
    exact Value_okR es A N c B C R F G Rv w k hp hN hB hn hc hrow (fun n h => (hs n h).1) (fun n h => (hs n h).2)
  · rw [if_neg h]
    exact Value_badR es A N c B C R F G w k er hp h hN hB hn hc (fun n h => (hs n h).1)
end Go.Proofs.Ytfgmlgflfagdjaa.ev
