/- Contracts: the document's kind as a whole; Kind. -/
import Derived.Test.YtfgmlgflfagdjaaW2
namespace Go.Proofs.Ytfgmlgflfagdjaa.ev
open Go.ChangeShapes Go.WideShapes Go.ChangeAt Go.RowKit Go.Proofs.Ytfgmlgflfagdjaa.lib Go.Proofs.Ytfgmlgflfagdjaa.val
set_option linter.unusedVariables false

/-- how the columns answer the document's Find -/
def RColOK (w : World) (B : Nat) (C : Value) (F : ByteArray → Int × Int) (G : ByteArray → Int) (n : Nd) : Prop :=
  n.op = 2 → (∀ w', Below B w w' → Calls Try.prog 40 #[C, .string n.s] w' fun e w'' => e = .returned (two (F n.s)) ∧ w' = w'') ∧
    ((F n.s).2 = 0 → ∃ j bk off len cap : Nat, (F n.s).1 = j ∧ C = .slice (some ⟨bk, off, none⟩) len cap ∧ j < len ∧ len < 1000 ∧ bk < B ∧ w.cell? ⟨bk, off + j * 3 + 1, none⟩ = some (.int .i64 (G n.s)))
theorem RColOK.below {w w' : World} {B : Nat} {C : Value} {F : ByteArray → Int × Int} {G : ByteArray → Int} {n : Nd} (h : RColOK w B C F G n) (hb : Below B w w') : RColOK w' B C F G n := fun ho => by
  obtain ⟨h1, h2⟩ := h ho
  refine ⟨fun v hv => h1 v (Below.trans hb hv), fun h0 => ?_⟩
  obtain ⟨j, bk, off, len, cap, e1, e2, e3, e4, e5, e6⟩ := h2 h0
  exact ⟨j, bk, off, len, cap, e1, e2, e3, e4, e5, (hb.cell (by exact e5)).trans e6⟩
theorem rkind_ (n : Nd) (ks : List Int) (m c B : Nat) (A : Option Addr) (C : Value) (F : ByteArray → Int × Int) (G : ByteArray → Int) (w0 w : World) (hw : Below B w0 w) (hB : B ≤ w0.heap.size) (hl : ks.length = m) (hm : m < 1000)
    (hr : Reads w w.heap.size 1 A m (ks.map (Value.int .i64))) (hc : RColOK w0 B C F G n) (hs : n.v.s.size ≤ maxLen) :
    Calls Try.prog 37 #[.agg #[.int .i64 n.op, .int .i64 n.a, .int .i64 n.b, .int .i64 n.v.k, .int .i64 n.v.n, .string n.v.s, .string n.s], .slice A m c, C] w fun e w' => e = .returned (two (kindN F G ks n)) ∧ Below w.heap.size w w' := by
  have hBw : B ≤ w.heap.size := Nat.le_trans hB hw.size
  obtain ⟨op, a, b, ⟨vk, vn, vs⟩, s⟩ := n
  simp only at hs ⊢
  unfold kindN
  simp only
  by_cases h1 : partsV op = -1
  · rw [if_pos h1]
    refine rkind_none op a b vk vn vs s A m c C w ?_
    unfold partsV at h1
    by_cases h12 : op = 1 ∨ op = 2
    · rw [if_pos h12] at h1; cases h1
    rw [if_neg h12] at h1
    by_cases h5 : op = 3 ∨ op = 4 ∨ op = 5
    · rw [if_pos h5] at h1; cases h1
    rw [if_neg h5] at h1
    by_cases h6 : 6 ≤ op ∧ op ≤ 16
    · rw [if_pos h6] at h1; cases h1
    · omega
  rw [if_neg h1]
  by_cases h2 : op = 1
  · subst h2
    rw [if_pos rfl]
    exact rkind_val a b vk vn vs s A m c C w hs
  rw [if_neg h2]
  by_cases h3 : op = 2
  · subst h3
    rw [if_pos rfl]
    obtain ⟨hf, hg⟩ := (hc.below hw) rfl
    simp only at hf hg
    have hf' : ∀ w', Below w.heap.size w w' → Calls Try.prog 40 #[C, .string s] w' fun e w'' => e = .returned (two (F s)) ∧ w' = w'' :=
      fun w' h => hf w' (Below.mono h hBw)
    by_cases h4 : (F s).2 = 0
    · rw [if_pos h4]
      obtain ⟨j, bk, off, len, cap, hj, rfl, hjl, hl2, hbk, hcell⟩ := hg h4
      have e : F s = ((j : Int), 0) := Prod.ext hj h4
      rw [e] at hf'
      exact rkind_colok a b vk vn vs s A m c (G s) j len cap bk off w hjl hl2 hf' (by omega) hcell
    · rw [if_neg h4]
      exact rkind_colbad a b vk vn vs s A m c C (F s).1 (F s).2 w h4 hf'
  rw [if_neg h3]
  have hop : 3 ≤ op ∧ op ≤ 16 := by
    unfold partsV at h1
    rw [if_neg (by omega)] at h1
    by_cases h5 : op = 3 ∨ op = 4 ∨ op = 5
    · omega
    · rw [if_neg h5] at h1
      by_cases h6 : 6 ≤ op ∧ op ≤ 16
      · omega
      · rw [if_neg h6] at h1; exact absurd rfl h1
  by_cases ha : a < 0 ∨ (ks.length : Int) ≤ a
  · rw [if_pos ha]
    exact rkind_a op a b vk vn vs s A m c C w hop (by rw [hl] at ha; exact ha)
  rw [if_neg ha]
  obtain ⟨ia, rfl⟩ : ∃ ia : Nat, a = ia := ⟨a.toNat, by omega⟩
  have ham : ia < m := by omega
  obtain ⟨ad, rfl, hlt⟩ := hr.some_ (by omega)
  have ha2 := hr.ints ham (Below.refl _ _)
  rw [Int.toNat_natCast]
  by_cases h5 : op ≤ 5
  · rw [if_pos h5]
    have : op = 3 ∨ op = 4 ∨ op = 5 := by omega
    rcases this with rfl | rfl | rfl
    · exact rkind_3 3 vk vn b ia vs s ad m c C _ w rfl ham hm hlt ha2
    · exact rkind_4 4 vk vn b ia vs s ad m c C _ w rfl ham hm hlt ha2
    · exact rkind_5 5 vk vn b ia vs s ad m c C _ w rfl ham hm hlt ha2
  rw [if_neg h5]
  by_cases hb : b < 0 ∨ (ks.length : Int) ≤ b
  · rw [if_pos hb]
    exact rkind_b op b vk vn ia vs s _ m c C w (by omega) ham hm (by rw [hl] at hb; exact hb)
  rw [if_neg hb]
  obtain ⟨ib, rfl⟩ : ∃ ib : Nat, b = ib := ⟨b.toNat, by omega⟩
  have hbm : ib < m := by omega
  have hb2 := hr.ints hbm (Below.refl _ _)
  rw [Int.toNat_natCast]
  have : (op = 6 ∨ op = 7) ∨ (8 ≤ op ∧ op ≤ 13) ∨ (op = 14 ∨ op = 15 ∨ op = 16) := by omega
  rcases this with h | h | h
  · exact rkind_67 op vk vn ia ib vs s ad m c C _ _ w h ham hm hlt ha2 hbm hb2
  · exact rkind_cmp op vk vn ia ib vs s ad m c C _ _ w h ham hm hlt ha2 hbm hb2
  · exact rkind_num op vk vn ia ib vs s ad m c C _ _ w h ham hm hlt ha2 hbm hb2
theorem rkindp (n : Nd) (p : Int × Int) (ks : List Int) (m c B : Nat) (A : Option Addr) (C : Value) (F : ByteArray → Int × Int) (G : ByteArray → Int) (w0 w : World) (hp : kindN F G ks n = p) (hw : Below B w0 w) (hB : B ≤ w0.heap.size) (hl : ks.length = m) (hm : m < 1000)
    (hr : Reads w w.heap.size 1 A m (ks.map (Value.int .i64))) (hc : RColOK w0 B C F G n) (hs : n.v.s.size ≤ maxLen) :
    Calls Try.prog 37 #[.agg #[.int .i64 n.op, .int .i64 n.a, .int .i64 n.b, .int .i64 n.v.k, .int .i64 n.v.n, .string n.v.s, .string n.s], .slice A m c, C] w fun e w' => e = .returned (two p) ∧ Below w.heap.size w w' := by
  subst hp; exact rkind_ n ks m c B A C F G w0 w hw hB hl hm hr hc hs
theorem own_int {w : World} {base e n : Nat} {v : Value} {ks : List Int} (h : w.ownsRow base e 1 v n (ks.map (Value.int .i64))) : ∃ A c, v = .slice A n c ∧ Reads w w.heap.size 1 A n (ks.map (Value.int .i64)) := by
  rcases h.2 with ⟨h1, h2⟩ | ⟨g, cap, cur, h1, _⟩
  · subst h1
    subst h2
    exact ⟨_, _, rfl, Reads.of_own h⟩
  · subst h1
    exact ⟨_, _, rfl, Reads.of_own h⟩
set_option maxRecDepth 1000000 in
set_option maxHeartbeats 4000000 in
theorem rKind_ (es : List Nd) (p : Int × Int) (A : Option Addr) (N c B : Nat) (C : Value) (F : ByteArray → Int × Int) (G : ByteArray → Int) (w : World) (hp : KindV F G es = p) (hN : es.length = N) (hN2 : N ≤ 1000) (hB : B ≤ w.heap.size) (hr : Nds w B A es)
    (hc : ∀ n ∈ es, RColOK w B C F G n) (hs : ∀ n ∈ es, n.v.s.size ≤ maxLen) :
    Calls Try.prog 22 #[.slice A N c, C] w fun e w' => e = .returned (two p) ∧ Below w.heap.size w w' := by
  by_cases hn : N < 1 ∨ 60 < N
  · have e : p = (0, 1) := by rw [← hp]; unfold KindV; rw [if_pos (by rw [hN]; exact hn)]
    subst e
    clear hp
    rcases hn with h | h
    · have h1 : decide ((N : Int) < 1) = true := by simp; omega
      have h2 : decide (N < 1) = true := by simp; omega
      clear h
      go_enter Try.func22, Try.ntmps22
      go_wp2
      go_ret2
      exact ⟨rfl, Below.refl _ _⟩
    · have h1 : decide ((N : Int) < 1) = false := by simp; omega
      have h2 : decide (N < 1) = false := by simp; omega
      have h3 : decide (60 < (N : Int)) = true := by simp; omega
      have h4 : decide (60 < N) = true := by simp; omega
      clear h
      go_enter Try.func22, Try.ntmps22
      go_wp2
      go_ret2
      exact ⟨rfl, Below.refl _ _⟩
  have HP := Lib.hid (show kindsV F G es [] = p by rw [← hp]; unfold KindV; rw [if_neg (by rw [hN]; exact hn)])
  have HN := Lib.hid hN
  have HR := Lib.hid hr
  clear hp hN hr
  have h1 : decide ((N : Int) < 1) = false := by simp; omega
  have h2 : decide (N < 1) = false := by simp; omega
  have h3 : decide (60 < (N : Int)) = false := by simp; omega
  have h4 : decide (60 < N) = false := by simp; omega
  have hN60 : N ≤ 60 := by omega
  have hN1 : 1 ≤ N := by omega
  clear hn
  obtain ⟨i0, hi, hz0, hz1, hz2⟩ := info_parts (P := Try.prog) (e := 3) (z := .int .i64 0) (size := 1) (bytes := 8) (by kernel_rfl)
  have hu : Try.prog.underlying 24 = some (.slice 3) := by kernel_rfl
  go_enter Try.func22, Try.ntmps22
  go_wp2
  go_loopw [6, 7] (fun l i wr => ∃ (k : Nat) (ks : List Int), k ≤ N ∧ i = .int .i64 k ∧ ks.length = k ∧ wr.ownsRow w.heap.size 3 1 l k (ks.map (Value.int .i64)) ∧ Below w.heap.size w wr ∧ Hid (kindsV F G (es.drop k) ks = p)) (fun _ i _ => N - (intOf i).toNat)
  case atStart => exact ⟨0, [], Nat.zero_le _, rfl, rfl, World.ownsRow_nil _ _ _ _, Below.refl _ _, Lib.hid HP.out⟩
  case round =>
    obtain ⟨k, ks, hk, rfl, hkl, hown, hb, HKS⟩ := hrel
    have HKL := Lib.hid hkl
    clear hkl
    obtain ⟨Al, cl, rfl, hreads⟩ := own_int hown
    rcases Nat.lt_or_ge k N with hlt | hge
    · have hd : decide ((k : Int) < (N : Int)) = true := by simp; omega
      have hd5 : decide (k < N) = true := by simp; omega
      have hkN : (k : Int) < (N : Int) := by omega
      obtain ⟨b, off, rfl, hlb, hcl⟩ := HR.out (by rw [HN.out]; omega)
      obtain ⟨nd, hnd⟩ : ∃ nd, es[k]? = some nd := ⟨_, List.getElem?_eq_getElem (by rw [HN.out]; exact hlt)⟩
      have HND := Lib.hid hnd
      clear hnd hcl
      have qc := (Nds.below HR.out (Below.mono hb hB)).cells HND.out
      obtain ⟨⟨p1, p2⟩, hp⟩ : ∃ p, kindN F G ks nd = p := ⟨_, rfl⟩
      have HP2 := Lib.hid hp
      clear hp
      have hmem : nd ∈ es := List.mem_of_getElem? HND.out
      have hcn := hc nd hmem
      have hsn := hs nd hmem
      clear hmem
      go_wp2_with fail
      clear qc
      refine (rkindp nd (p1, p2) ks k cl B Al C F G w _ HP2.out (Below.mono hb hB) hB HKL.out (by omega) hreads hcn hsn).mono ?_
      rintro e w3 ⟨rfl, hb4⟩
      unfold two
      have hown3 := own_ext hown hb4
      have hs1 := hb.size
      have hs2 := hb4.size
      have hb5 : Below w.heap.size w w3 := Below.trans hb (Below.mono hb4 hb.size)
      clear hown hreads
      by_cases h4 : p2 = 0
      · subst h4
        have HKS2 := Lib.hid (show kindsV F G (es.drop (k + 1)) (ks ++ [p1]) = p by rw [← kinds_step HND.out HP2.out]; exact HKS.out)
        go_wp2_with (at_builtin; refine wpList_append_own _ rfl _ _ 24 rfl w.heap.size 3 i0 (.int .i64 0) 1 8 hu hi hz0 hz1 hz2 rfl (by decide) _ _ _ rfl (hown3.alloc _) ⟨w3.heap.size, 0, none⟩ 1 1 [.int .i64 p1] rfl rfl ?c1 ?c2 ?c3 ?c4 ?c5 ?_)
        case c1 =>
          intro j u hj
          match j, hj with
          | 0, hj => simp at hj; subst hj; simp [Addr.add]
        case c2 => intro u hu; simp at hu; subst hu; rfl
        case c3 => unfold maxLen; omega
        case c4 => omega
        case c5 => simp; omega
        intro v' w9 hown9 hgrow9 _
        have hb9 : Below w.heap.size w w9 := (hb5.alloc (by omega) _).grown hgrow9 (by simp; omega) (fun g hg => (hown3.lt g hg).1)
        go_wp2
        go_roundw
        case rel => exact ⟨k + 1, ks ++ [p1], by omega, by go_num, by simp [HKL.out], by simpa using hown9, hb9, HKS2⟩
        case measure => simp [intOf]; omega
      · have h5 : (p2 != 0) = true := by simpa using h4
        obtain rfl : p = (0, p2) := by rw [← HKS.out, kinds_stop HND.out HP2.out h4]
        clear h4
        go_wp2
        go_ret2
        exact ⟨rfl, hb5⟩
    · have hd : decide ((k : Int) < (N : Int)) = false := by simp; omega
      have hd5 : decide (k < N) = false := by simp; omega
      obtain rfl : k = N := by omega
      have HKE := Lib.hid (show (ks.getLast?.getD 0, (0 : Int)) = p by
        have := HKS.out
        rw [List.drop_eq_nil_of_le (by rw [HN.out]; omega), kindsV] at this
        exact this)
      obtain ⟨b9, c9, rfl, hb9, hc9⟩ : ∃ b c, Al = some ⟨b, 0, none⟩ ∧ b < wr.heap.size ∧ (Value.slice Al k cl) = .slice (some ⟨b, 0, none⟩) k c := by
        obtain ⟨g, cap, hv, _, hlt⟩ := hown.form (by omega)
        injection hv with h1 h2 h3
        subst h1
        exact ⟨g, cl, rfl, hlt, rfl⟩
      have qe : wr.cell? ⟨b9, k - 1, none⟩ = some (.int .i64 (ks.getLast?.getD 0)) := (hown.cellAt (k - 1) (by omega)).trans (last_get ks (k - 1) (by rw [HKL.out]; omega))
      obtain ⟨z, hz⟩ : ∃ z, ks.getLast?.getD 0 = z := ⟨_, rfl⟩
      rw [hz] at qe
      obtain rfl : p = (z, 0) := by rw [← HKE.out, hz]
      clear hz hown hreads
      go_wp2
      go_ret2
      exact ⟨rfl, hb⟩
end Go.Proofs.Ytfgmlgflfagdjaa.ev
