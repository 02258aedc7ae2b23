/- Contract: Kind. -/
import Derived.Test.YtfgmlgflfagdjaaE7
namespace Go.Proofs.Ytfgmlgflfagdjaa.ev
open Go.ChangeShapes Go.WideShapes Go.ChangeAt Go.RowKit Go.Proofs.Ytfgmlgflfagdjaa.lib Go.Proofs.Ytfgmlgflfagdjaa.val
set_option linter.unusedVariables false

/-- a slice of nodes -/
def Nds (w : World) (B : Nat) (A : Option Addr) (es : List Nd) : Prop :=
  0 < es.length → ∃ b off, A = some ⟨b, off, none⟩ ∧ b < B ∧ ∀ i nd, es[i]? = some nd → ∀ (j : Nat) u, nd.arr[j]? = some u → w.cell? ⟨b, off + i * 7 + j, none⟩ = some u
theorem Nds.below {w w' : World} {B : Nat} {A : Option Addr} {es : List Nd} (h : Nds w B A es) (hb : Below B w w') : Nds w' B A es := fun hn => by
  obtain ⟨b, off, e, hlt, hc⟩ := h hn
  exact ⟨b, off, e, hlt, fun i nd hi j u hu => (hb.cell (by exact hlt)).trans (hc i nd hi j u hu)⟩
theorem Nds.cells {w : World} {B b off i : Nat} {es : List Nd} {nd : Nd} (h : Nds w B (some ⟨b, off, none⟩) es) (hi : es[i]? = some nd) :
    w.cell? ⟨b, off + i * 7, none⟩ = some (.int .i64 nd.op) ∧ w.cell? ⟨b, off + i * 7 + 1, none⟩ = some (.int .i64 nd.a) ∧ w.cell? ⟨b, off + i * 7 + 2, none⟩ = some (.int .i64 nd.b) ∧ w.cell? ⟨b, off + i * 7 + 3, none⟩ = some (.int .i64 nd.v.k) ∧
      w.cell? ⟨b, off + i * 7 + 4, none⟩ = some (.int .i64 nd.v.n) ∧ w.cell? ⟨b, off + i * 7 + 5, none⟩ = some (.string nd.v.s) ∧ w.cell? ⟨b, off + i * 7 + 6, none⟩ = some (.string nd.s) := by
  have hl : i < es.length := (List.getElem?_eq_some_iff.1 hi).1
  obtain ⟨b', off', e, _, hc⟩ := h (by omega)
  injection e with e
  injection e with e1 e2
  subst e1 e2
  exact ⟨hc i nd hi 0 _ rfl, hc i nd hi 1 _ rfl, hc i nd hi 2 _ rfl, hc i nd hi 3 _ rfl, hc i nd hi 4 _ rfl, hc i nd hi 5 _ rfl, hc i nd hi 6 _ rfl⟩

def kindsV (F : ByteArray → Int × Int) (G : ByteArray → Int) : List Nd → List Int → Int × Int
  | [], ks => (ks.getLast?.getD 0, 0)
  | n :: r, ks => if (kindN F G ks n).2 = 0 then kindsV F G r (ks ++ [(kindN F G ks n).1]) else (0, (kindN F G ks n).2)
def KindV (F : ByteArray → Int × Int) (G : ByteArray → Int) (es : List Nd) : Int × Int := if es.length < 1 ∨ 60 < es.length then (0, 1) else kindsV F G es []

theorem Kind_bad (es : List Nd) (A : Option Addr) (c : Nat) (C : Value) (w : World) (h : es.length < 1 ∨ 60 < es.length) :
    Calls Try.prog 20 #[.slice A es.length c, C] w fun e w' => e = .returned (two (0, 1)) ∧ w = w' := by
  rcases h with h | h
  · have h0 : decide ((es.length : Int) < 1) = true := by simp; omega
    go_enter Try.func20, Try.ntmps20
    go_wp2
    go_ret2
    exact ⟨rfl, rfl⟩
  · have h0 : decide ((es.length : Int) < 1) = false := by simp; omega
    have h1 : decide (60 < (es.length : Int)) = true := by simp; omega
    go_enter Try.func20, Try.ntmps20
    go_wp2
    go_ret2
    exact ⟨rfl, rfl⟩

theorem own_ext {w w' : World} {base : Nat} {e : TypeId} {size n : Nat} {v : Value} {xs : List Value} (h : w.ownsRow base e size v n xs) (hb : Below w.heap.size w w') : w'.ownsRow base e size v n xs := by
  refine h.kept (w' := w') (row := none) ⟨hb.os, hb.tape, hb.output, hb.size, fun k hk _ => hb.block k hk⟩ ?_
  cases ho : v.ownBlock with
  | none => exact .inl rfl
  | some b => exact .inr (by simp)
theorem kindr (n : Nd) (ks : List Int) (p : Int × Int) (k c B Bl : Nat) (A : Option Addr) (C : Value) (F : ByteArray → Int × Int) (G : ByteArray → Int) (w0 w : World) (hp : kindN F G ks n = p) (hk : ks.length = k) (hw : Below B w0 w) (hB : B ≤ w0.heap.size) (hl : k < 1000)
    (hr : Reads w Bl 1 A k (ks.map (Value.int .i64))) (hBl : Bl ≤ w.heap.size) (hc : ColOK w0 B C F G n) (hs : n.v.s.size ≤ maxLen) :
    Calls Try.prog 36 #[n.val, .int .i64 k, .slice A k c, C] w fun e w' => e = .returned (two p) ∧ Below w.heap.size w w' := by
  subst hp hk
  exact kind n ks c B Bl A C F G w0 w hw hB hl hr hBl hc hs
theorem drop_at {α : Type} (l : List α) (k : Nat) (x : α) (h : l[k]? = some x) : l.drop k = x :: l.drop (k + 1) := by
  obtain ⟨hl, rfl⟩ := List.getElem?_eq_some_iff.1 h
  exact List.drop_eq_getElem_cons hl
theorem kinds_stop {F : ByteArray → Int × Int} {G : ByteArray → Int} {es : List Nd} {k : Nat} {ks : List Int} {nd : Nd} {a b : Int} (h : es[k]? = some nd) (hp : kindN F G ks nd = (a, b)) (hb : b ≠ 0) : kindsV F G (es.drop k) ks = (0, b) := by
  rw [drop_at es k nd h, kindsV, hp, if_neg hb]
theorem kinds_step {F : ByteArray → Int × Int} {G : ByteArray → Int} {es : List Nd} {k : Nat} {ks : List Int} {nd : Nd} {a : Int} (h : es[k]? = some nd) (hp : kindN F G ks nd = (a, 0)) : kindsV F G (es.drop k) ks = kindsV F G (es.drop (k + 1)) (ks ++ [a]) := by
  rw [drop_at es k nd h, kindsV, hp, if_pos rfl]
theorem last_get (ks : List Int) (k : Nat) (hk : ks.length = k + 1) : (ks.map (Value.int .i64))[k]? = some (.int .i64 (ks.getLast?.getD 0)) := by
  rw [get_map ks k (by omega)]
  congr 2
  have : ks ≠ [] := by intro h; subst h; simp at hk
  rw [List.getLast?_eq_getElem?, hk]
  simp

set_option maxRecDepth 1000000 in
set_option maxHeartbeats 2000000 in
theorem Kind_ok (es : List Nd) (A : Option Addr) (c B : Nat) (C : Value) (F : ByteArray → Int × Int) (G : ByteArray → Int) (w : World) (hn : ¬ (es.length < 1 ∨ 60 < es.length)) (hB : B ≤ w.heap.size) (hr : Nds w B A es)
    (hc : ∀ n ∈ es, ColOK w B C F G n) (hs : ∀ n ∈ es, n.v.s.size ≤ maxLen) :
    Calls Try.prog 20 #[.slice A es.length c, C] w fun e w' => e = .returned (two (kindsV F G es [])) ∧ Below w.heap.size w w' := by
  obtain ⟨N, hN⟩ : ∃ N, es.length = N := ⟨_, rfl⟩
  rw [hN] at hn ⊢
  have HN := Lib.hid hN
  clear hN
  have h0 : decide ((N : Int) < 1) = false := by simp; omega
  have h1 : decide (60 < (N : Int)) = false := by simp; omega
  go_enter Try.func20, Try.ntmps20
  obtain ⟨i0, hi, hz0, hz1, hz2⟩ := info_parts (P := Try.prog) (e := 3) (z := .int .i64 0) (size := 1) (bytes := 8) (by kernel_rfl)
  have hu : Try.prog.underlying 24 = some (.slice 3) := by kernel_rfl
  go_wp2_with (at_make; refine wpList_make_own _ rfl _ _ 24 rfl w.heap.size 3 i0 (.int .i64 0) 1 hu hi hz0 hz1 _ _ _ N rfl rfl (by omega) ?b2 ?b3 (Nat.le_refl _) ?_)
  case b2 => rw [hz2]; omega
  case b3 => unfold maxLen; omega
  intro w1 hown1 hgrow1
  go_wp2
  go_loopw [6, 24] (fun l i wr => ∃ (k : Nat) (ks : List Int), k ≤ N ∧ i = .int .i64 k ∧ l = .slice (some ⟨w.heap.size, 0, none⟩) k N ∧ ks.length = k ∧
      wr.ownsRow w.heap.size 3 1 (.slice (some ⟨w.heap.size, 0, none⟩) k N) k (ks.map (Value.int .i64)) ∧ Below w.heap.size w wr ∧ kindsV F G (es.drop k) ks = kindsV F G es [])
    (fun _ i _ => N - (intOf i).toNat)
  case atStart => exact ⟨0, [], Nat.zero_le _, rfl, rfl, rfl, hown1, (Below.refl _ _).grown hgrow1 (Nat.le_refl _) (fun k h => by cases h), rfl⟩
  case round =>
    obtain ⟨k, ks, hk, rfl, rfl, hkl, hown, hb, hks⟩ := hrel
    have HKS := Lib.hid hks
    have HKL := Lib.hid hkl
    clear hks hkl
    rcases Nat.lt_or_ge k N with hlt | hge
    · have hd : decide ((k : Int) < (N : Int)) = true := by simp; omega
      obtain ⟨b, off, rfl, hlb, hcl⟩ := hr (by rw [HN.out]; omega)
      obtain ⟨nd, hnd⟩ : ∃ nd, es[k]? = some nd := ⟨_, List.getElem?_eq_getElem (by rw [HN.out]; exact hlt)⟩
      have HND := Lib.hid hnd
      clear hnd
      have qc := (Nds.below hr (Below.mono hb hB)).cells HND.out
      go_wp2_with fail
      clear qc
      obtain ⟨⟨p1, p2⟩, hp⟩ : ∃ p, kindN F G ks nd = p := ⟨_, rfl⟩
      have HP := Lib.hid hp
      clear hp
      have hmem : nd ∈ es := List.mem_of_getElem? HND.out
      have hr1 : Reads wr wr.heap.size 1 (some ⟨w.heap.size, 0, none⟩) k (ks.map (Value.int .i64)) := Reads.of_own hown
      obtain ⟨W, hW_, hbW, B1⟩ : ∃ W_, W_ = (wr.alloc (.cells #[.int .i64 nd.op, .int .i64 nd.a, .int .i64 nd.b, .int .i64 nd.v.k, .int .i64 nd.v.n, .string nd.v.s, .string nd.s] 36)) ∧ Below wr.heap.size wr W_ ∧ Blk W_ (wr.heap.size) 36 #[.int .i64 nd.op, .int .i64 nd.a, .int .i64 nd.b, .int .i64 nd.v.k, .int .i64 nd.v.n, .string nd.v.s, .string nd.s] :=
        ⟨_, rfl, ((Below.refl _ _).alloc (Nat.le_refl _) _), (blk_new_at wr (wr.heap.size) _ _ (by simp))⟩
      rw [← hW_]
      clear hW_
      refine (kindr nd ks (p1, p2) k N B wr.heap.size (some ⟨w.heap.size, 0, none⟩) C F G w W HP.out HKL.out (Below.mono (Below.trans hb (Below.mono hbW hb.size)) hB) hB (by omega) (hr1.below hbW) hbW.size (hc nd hmem) (hs nd hmem)).mono ?_
      rintro e w3 ⟨rfl, hb3⟩
      unfold two
      have hb4 : Below wr.heap.size wr w3 := bch0 hbW hb3
      have hown3 := own_ext hown hb4
      clear hown
      by_cases h4 : p2 = 0
      · subst h4
        go_wp2_with (at_builtin; refine wpList_append_fits _ rfl _ _ 24 rfl w.heap.size 3 i0 1 hu hi hz1 w.heap.size k N _ rfl (hown3.alloc _) ⟨w3.heap.size, 0, none⟩ 1 1 [.int .i64 p1] rfl rfl ?c1 ?c2 (by omega) ?_)
        case c1 =>
          intro j u hj
          match j, hj with
          | 0, hj => simp at hj; subst hj; simp [Addr.add]
        case c2 => intro u hu; simp at hu; subst hu; rfl
        intro w5 hown5 hgrow5
        go_wp2
        go_roundw
        case rel =>
          refine ⟨k + 1, ks ++ [p1], by omega, rfl, rfl, by simp [HKL.out], by simpa using hown5, ?_, ?_⟩
          · exact ((Below.trans hb (Below.mono hb4 hb.size)).alloc (Nat.le_trans hb.size hb4.size) _).grown hgrow5 (by simp; exact Nat.le_trans (Nat.le_trans hb.size hb4.size) (Nat.le_succ _)) (fun k hk => by cases hk; exact Nat.le_refl _)
          · rw [← kinds_step HND.out HP.out]; exact HKS.out
        case measure => simp [intOf]; omega
      · have h5 : (p2 == 0) = false := by simpa using h4
        go_wp2
        go_ret2
        exact ⟨by rw [← HKS.out, kinds_stop HND.out HP.out h4]; rfl, Below.trans hb (Below.mono hb4 hb.size)⟩
    · have hd : decide ((k : Int) < (N : Int)) = false := by simp; omega
      obtain rfl : k = N := by omega
      have qe : wr.cell? ⟨w.heap.size, k - 1, none⟩ = some (.int .i64 (ks.getLast?.getD 0)) := (hown.cellAt (k - 1) (by omega)).trans (last_get ks (k - 1) (by rw [HKL.out]; omega))
      go_wp2
      go_ret2
      exact ⟨by rw [← HKS.out, List.drop_eq_nil_of_le (by rw [HN.out]; omega)]; rfl, hb⟩
end Go.Proofs.Ytfgmlgflfagdjaa.ev
