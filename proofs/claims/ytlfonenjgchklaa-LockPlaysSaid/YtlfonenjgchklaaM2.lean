/- Contracts: against, mine's closure, IndexFunc (with either), ContainsFunc, mine, Clone. -/
import Derived.Test.YtlfonenjgchklaaM1
namespace Go.Proofs.Ytlfonenjgchklaa.lk
open Go.ChangeShapes Go.WideShapes Go.ChangeAt Go.RowKit Go.Proofs.Ytlfonenjgchklaa.lib
set_option linter.unusedVariables false

theorem against_ (h o : Hd) (w : World) : Calls Try.prog 24 #[.agg h.arr, .agg o.arr] w fun e w' => e = .returned (.bool (agB h o)) ∧ Below w.heap.size w w' := by
  obtain ⟨hs, ht, hx⟩ := h
  obtain ⟨os, ot, ox⟩ := o
  simp only [Hd.arr]
  obtain ⟨p, hp⟩ : ∃ p, (hs != os) = p := ⟨_, rfl⟩
  obtain ⟨q, hq⟩ : ∃ q, (ht == ot) = q := ⟨_, rfl⟩
  have e : agB ⟨hs, ht, hx⟩ ⟨os, ot, ox⟩ = (p && (q && (hx || ox))) := by simp only [agB, hp, hq]
  rw [e]
  rw [← tl_beq] at hq
  clear e
  go_enter Try.func24, Try.ntmps24
  cases p <;> cases q <;> cases hx <;> cases ox <;> (go_wp2; go_ret; exact ⟨rfl, ((Below.refl _ _).alloc (Nat.le_refl _) _).alloc (by simp) _⟩)

theorem mine1 (h o : Hd) (b : Nat) (w : World) (hb : Blk w b 30 h.arr) :
    Calls Try.prog 36 #[.agg o.arr, .pointer (some ⟨b, 0, none⟩)] w fun e w' => e = .returned (.bool (mineB h o)) ∧ Below w.heap.size w w' := by
  obtain ⟨hs, ht, hx⟩ := h
  obtain ⟨os, ot, ox⟩ := o
  simp only [Hd.arr] at hb ⊢
  obtain ⟨p, hp⟩ : ∃ p, (os == hs) = p := ⟨_, rfl⟩
  obtain ⟨q, hq⟩ : ∃ q, (ot == ht) = q := ⟨_, rfl⟩
  have e : mineB ⟨hs, ht, hx⟩ ⟨os, ot, ox⟩ = (p && q) := by simp only [mineB, hp, hq]
  rw [e]
  rw [← tl_beq] at hq
  clear e
  have q3 := hb.three (Below.refl _ _)
  have hlt := hb.lt
  go_enter Try.func36, Try.ntmps36
  cases p <;> cases q <;> (go_wp2; go_ret; exact ⟨rfl, (Below.refl _ _).alloc (Nat.le_refl _) _⟩)

def idxI (p : Hd → Bool) (l : List Hd) : Int := match l.findIdx? p with | some i => i | none => -1
def IdxP (p : Hd → Bool) (l : List Hd) (w : World) (e : Ending) (w' : World) : Prop := e = .returned (.int .i64 (idxI p l)) ∧ Below w.heap.size w w'
theorem find_none {α : Type} (p : α → Bool) : ∀ (l : List α), (∀ (j : Nat) x, l[j]? = some x → p x = false) → l.findIdx? p = none
  | [], _ => rfl
  | x :: r, h => by
    have h0 := h 0 x rfl
    rw [List.findIdx?_cons, h0]
    have ih := find_none p r (fun j y hy => h (j + 1) y hy)
    rw [ih]; rfl
theorem find_some {α : Type} (p : α → Bool) : ∀ (l : List α) (k : Nat) (y : α), l[k]? = some y → p y = true → (∀ (j : Nat) x, j < k → l[j]? = some x → p x = false) → l.findIdx? p = some k
  | [], k, y, h, _, _ => by cases h
  | x :: r, 0, y, h, hp, _ => by
    injection h with h
    subst h
    rw [List.findIdx?_cons, hp]; rfl
  | x :: r, k + 1, y, h, hp, hj => by
    have h0 := hj 0 x (by omega) rfl
    rw [List.findIdx?_cons, h0]
    have ih := find_some p r k y h hp (fun j z hz hy => hj (j + 1) z (by omega) hy)
    rw [ih]; rfl
set_option maxHeartbeats 1000000 in
theorem indexMine (h : Hd) (b : Nat) (l : List Hd) (A : Option Addr) (n c : Nat) (w : World) (hl : l.length = n) (hn : n ≤ 100000) (hr : Hs w A l) (hb : Blk w b 30 h.arr) :
    Calls Try.prog 35 #[.slice A n c, .func (.func 36) #[] #[.pointer (some ⟨b, 0, none⟩)]] w (IdxP (mineB h) l w) := by
  have HL := Lib.hid hl
  clear hl
  go_enter Try.func35, Try.ntmps35
  go_wp2
  go_loopw [5, 8] (fun _ i w' => ∃ k : Nat, Below w.heap.size w w' ∧ k ≤ n ∧ i = .int .i64 k ∧ Hid (∀ j x, j < k → l[j]? = some x → mineB h x = false)) (fun _ i _ => n - (intOf i).toNat)
  case atStart => exact ⟨0, Below.refl _ _, Nat.zero_le _, rfl, Lib.hid (fun j x h => absurd h (by omega))⟩
  case round =>
    obtain ⟨k, hbw, hk, rfl, HK⟩ := hrel
    rcases Nat.lt_or_ge k n with hlt | hge
    · have hd : decide ((k : Int) < (n : Int)) = true := by simp; omega
      obtain ⟨x, hx⟩ : ∃ x, l[k]? = some x := ⟨_, List.getElem?_eq_getElem (by rw [HL.out]; exact hlt)⟩
      obtain ⟨g, rfl, hg⟩ := hr.some_ (by rw [HL.out]; omega)
      have q := (hr.ext hbw).at_ hx
      have HX := Lib.hid hx
      clear hx
      go_wp2_with fail
      refine (mine1 h x b _ (hb.ext hbw)).mono ?_
      rintro e w1 ⟨rfl, hb1⟩
      obtain ⟨p, hp⟩ : ∃ p, mineB h x = p := ⟨_, rfl⟩
      rw [hp]
      have HP := Lib.hid hp
      clear hp
      cases p with
      | true =>
        go_wp2
        go_ret
        refine ⟨?_, Below.trans hbw (Below.mono hb1 hbw.size)⟩
        unfold idxI; rw [find_some (mineB h) l k x HX.out HP.out HK.out]; rfl
      | false =>
        go_wp2
        go_roundw
        case rel =>
          refine ⟨k + 1, Below.trans hbw (Below.mono hb1 hbw.size), by omega, by go_num, Lib.hid (fun j y hj hy => ?_)⟩
          by_cases hjk : j = k
          · subst hjk
            rw [HX.out] at hy
            injection hy with hy
            rw [← hy]; exact HP.out
          · exact HK.out j y (by omega) hy
        case measure => simp [intOf]; omega
    · have hd : decide ((k : Int) < (n : Int)) = false := by simp; omega
      go_wp2
      go_ret
      refine ⟨?_, hbw⟩
      unfold idxI; rw [find_none (mineB h) l (fun j x hj => HK.out j x (by have := (List.getElem?_eq_some_iff.1 hj).1; have := HL.out; omega) hj)]; rfl
set_option maxHeartbeats 1000000 in
theorem indexAg (h : Hd) (l : List Hd) (A : Option Addr) (n c : Nat) (w : World) (hl : l.length = n) (hn : n ≤ 100000) (hr : Hs w A l) :
    Calls Try.prog 35 #[.slice A n c, .func (.func 24) #[.agg h.arr] #[]] w (IdxP (agB h) l w) := by
  have HL := Lib.hid hl
  clear hl
  go_enter Try.func35, Try.ntmps35
  go_wp2
  go_loopw [5, 8] (fun _ i w' => ∃ k : Nat, Below w.heap.size w w' ∧ k ≤ n ∧ i = .int .i64 k ∧ Hid (∀ j x, j < k → l[j]? = some x → agB h x = false)) (fun _ i _ => n - (intOf i).toNat)
  case atStart => exact ⟨0, Below.refl _ _, Nat.zero_le _, rfl, Lib.hid (fun j x h => absurd h (by omega))⟩
  case round =>
    obtain ⟨k, hbw, hk, rfl, HK⟩ := hrel
    rcases Nat.lt_or_ge k n with hlt | hge
    · have hd : decide ((k : Int) < (n : Int)) = true := by simp; omega
      obtain ⟨x, hx⟩ : ∃ x, l[k]? = some x := ⟨_, List.getElem?_eq_getElem (by rw [HL.out]; exact hlt)⟩
      obtain ⟨g, rfl, hg⟩ := hr.some_ (by rw [HL.out]; omega)
      have q := (hr.ext hbw).at_ hx
      have HX := Lib.hid hx
      clear hx
      go_wp2_with fail
      refine (against_ h x _).mono ?_
      rintro e w1 ⟨rfl, hb1⟩
      obtain ⟨p, hp⟩ : ∃ p, agB h x = p := ⟨_, rfl⟩
      rw [hp]
      have HP := Lib.hid hp
      clear hp
      cases p with
      | true =>
        go_wp2
        go_ret
        refine ⟨?_, Below.trans hbw (Below.mono hb1 hbw.size)⟩
        unfold idxI; rw [find_some (agB h) l k x HX.out HP.out HK.out]; rfl
      | false =>
        go_wp2
        go_roundw
        case rel =>
          refine ⟨k + 1, Below.trans hbw (Below.mono hb1 hbw.size), by omega, by go_num, Lib.hid (fun j y hj hy => ?_)⟩
          by_cases hjk : j = k
          · subst hjk
            rw [HX.out] at hy
            injection hy with hy
            rw [← hy]; exact HP.out
          · exact HK.out j y (by omega) hy
        case measure => simp [intOf]; omega
    · have hd : decide ((k : Int) < (n : Int)) = false := by simp; omega
      go_wp2
      go_ret
      refine ⟨?_, hbw⟩
      unfold idxI; rw [find_none (agB h) l (fun j x hj => HK.out j x (by have := (List.getElem?_eq_some_iff.1 hj).1; have := HL.out; omega) hj)]; rfl

theorem containsAg (h : Hd) (l : List Hd) (A : Option Addr) (n c : Nat) (w : World) (hl : l.length = n) (hn : n ≤ 100000) (hr : Hs w A l) :
    Calls Try.prog 23 #[.slice A n c, .func (.func 24) #[.agg h.arr] #[]] w fun e w' => e = .returned (.bool (l.any (agB h))) ∧ Below w.heap.size w w' := by
  have e : l.any (agB h) = (match l.findIdx? (agB h) with | some i => true | none => false) := by
    clear hr hl
    induction l with
    | nil => rfl
    | cons x r ih =>
      rw [List.any_cons, List.findIdx?_cons, ih]
      cases agB h x with
      | true => rfl
      | false =>
        simp only [Bool.false_or, Bool.false_eq_true, if_false]
        cases r.findIdx? (agB h) <;> rfl
  rw [e]
  clear e
  have H := indexAg h l A n c w hl hn hr
  unfold IdxP idxI at H
  obtain ⟨q, hq⟩ : ∃ q, l.findIdx? (agB h) = q := ⟨_, rfl⟩
  rw [hq] at H ⊢
  clear hq
  go_enter Try.func23, Try.ntmps23
  go_wp2_with fail
  refine H.mono ?_
  rintro e w1 ⟨rfl, hb1⟩
  cases q with
  | some i =>
    go_wp2
    go_ret
    exact ⟨ret_bool (by simp), hb1⟩
  | none =>
    go_wp2
    go_ret
    exact ⟨rfl, hb1⟩
theorem mine_ (h : Hd) (A A' : Option Addr) (n c n' c' : Nat) (l : List Hd) (w : World) (hl : l.length = n) (hn : n ≤ 100000) (hr : Hs w A l) :
    Calls Try.prog 22 #[.agg #[.slice A n c, .slice A' n' c'], .agg h.arr] w (IdxP (mineB h) l w) := by
  go_enter Try.func22, Try.ntmps22
  obtain ⟨hs, ht, hx⟩ := h
  simp only [Hd.arr]
  go_wp2_with fail
  obtain ⟨W, hW_, hbW, B1, B2⟩ : ∃ W_, W_ = ((w.alloc (.cells #[.slice A n c, .slice A' n' c'] 26)).alloc (.cells #[.int .i64 hs, .string ht, .bool hx] 30)) ∧ Below w.heap.size w W_ ∧ Blk W_ (w.heap.size) 26 #[.slice A n c, .slice A' n' c'] ∧ Blk W_ (w.heap.size + 1) 30 #[.int .i64 hs, .string ht, .bool hx] :=
    ⟨_, rfl, (((Below.refl _ _).alloc (Nat.le_refl _) _).alloc (by simp; try omega) _), ((blk_new_at w (w.heap.size) _ _ (by simp)).alloc _), (blk_new_at (w.alloc (.cells #[.slice A n c, .slice A' n' c'] 26)) (w.heap.size + 1) _ _ (by simp))⟩
  rw [← hW_]
  clear hW_
  have q1 := B1.cell 0
  go_wp2_with fail
  refine (indexMine ⟨hs, ht, hx⟩ (w.heap.size + 1) l A n c _ hl hn (hr.ext hbW) B2).mono ?_
  rintro e w1 ⟨rfl, hb1⟩
  go_wp2
  go_ret
  exact ⟨rfl, Below.trans hbW (Below.mono hb1 hbW.size)⟩
def OwnP (l : List Hd) (n : Nat) (w : World) (r : Ending) (w' : World) : Prop := ∃ A c, r = .returned (.slice A n c) ∧ w'.ownsRow w.heap.size 30 3 (.slice A n c) n (cellsH l) ∧ Below w.heap.size w w'
set_option maxHeartbeats 1000000 in
theorem clone_ (l : List Hd) (A : Option Addr) (n c : Nat) (w : World) (hl : l.length = n) (hn : n ≤ 100000) (hr : Hs w A l) :
    Calls Try.prog 25 #[.slice A n c] w (OwnP l n w) := by
  have heq := fun W => Lib.run_eql_slice_nil (P := Try.prog) W 24 30 A n c 0 0 Try.underlying24
  have HL := Lib.hid hl
  clear hl
  rcases hr with ⟨rfl, rfl⟩ | ⟨g, rfl, hlt, hcl⟩
  · have h0 : n = 0 := HL.out.symm
    subst h0
    go_enter Try.func25, Try.ntmps25
    go_wp2
    go_ret
    exact ⟨none, 0, rfl, World.ownsRow_nil _ _ _ _, Below.refl _ _⟩
  · obtain ⟨i0, hi, hz0, hz1, hz2⟩ := info_parts (P := Try.prog) (e := 30) (z := .agg #[.int .i64 0, .string ⟨#[]⟩, .bool false]) (size := 3) (bytes := 32) (by kernel_rfl)
    have HC := Lib.hid hcl
    clear hcl
    go_enter Try.func25, Try.ntmps25
    go_wp2_with (at_builtin; refine wpList_append_own _ rfl (.tmp 5) (.tmp 6) 24 rfl w.heap.size 30 i0 _ 3 32 Try.underlying24 hi hz0 hz1 hz2 rfl (by decide) _ _ _ rfl (World.ownsRow_made w #[] 0 (Nat.le_refl _) (Nat.zero_le _) rfl) ⟨g, 0, none⟩ n c (cellsH l) rfl ?c0 ?c1 ?c2 ?c3 ?c4 ?c5 ?_)
    case c0 => rw [cellsH_len, HL.out]
    case c1 =>
      intro j u hu
      have := HC.out j u hu
      rw [Addr.add_lit, Nat.zero_add]
      exact (((Below.refl w.heap.size w).alloc (Nat.le_refl _) _).cell (p := ⟨g, j, none⟩) hlt).trans this
    case c2 => exact one_cells l
    case c3 => unfold maxLen; omega
    case c4 => omega
    case c5 => simp
    intro v' w3 hown3 hgrow3 _
    obtain ⟨A', c', rfl⟩ := own_slice hown3
    go_wp2
    go_ret
    exact ⟨A', c', by simp, by simpa using hown3, ((Below.refl _ _).alloc (Nat.le_refl _) _).grown hgrow3 (by simp) (fun k hk => by simp [Value.ownBlock] at hk; omega)⟩
end Go.Proofs.Ytlfonenjgchklaa.lk
