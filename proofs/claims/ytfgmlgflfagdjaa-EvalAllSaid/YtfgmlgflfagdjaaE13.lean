/- Contract: Value's walk. -/
import Derived.Test.YtfgmlgflfagdjaaE12
namespace Go.Proofs.Ytfgmlgflfagdjaa.ev
open Go.ChangeShapes Go.WideShapes Go.ChangeAt Go.RowKit Go.Proofs.Ytfgmlgflfagdjaa.lib Go.Proofs.Ytfgmlgflfagdjaa.val
set_option linter.unusedVariables false

set_option maxRecDepth 1000000 in
set_option maxHeartbeats 4000000 in
theorem Value_ok (es : List Nd) (A : Option Addr) (N c B : Nat) (C R : Value) (F : ByteArray → Int × Int) (G : ByteArray → Int) (w : World) (k0 : Int) (hk : KindV F G es = (k0, 0)) (hN : es.length = N) (hB : B ≤ w.heap.size) (hr : Nds w B A es)
    (hc : ∀ n ∈ es, n.op ≠ 2) (hs : ∀ n ∈ es, n.v.s.size ≤ maxLen) (hv : ∀ n ∈ es, ok64 n.v.n) :
    Calls Try.prog 23 #[.slice A N c, C, R] w fun e w' => e = .returned (ValueV (valsV es [])) ∧ Below w.heap.size w w' := by
  have hmf : ∀ (fn : Fn) (first cap : Array Value) (w : World), (Instr.makeFunc fn first cap).run Try.prog w = .ok (.func fn first cap) w := fun _ _ _ _ => rfl
  obtain ⟨⟨hn1, hn60⟩, hfine⟩ := Kind_fine hk (fun n h => ⟨hc n h, hv n h⟩)
  rw [hN] at hn1 hn60
  obtain ⟨i0, hi, hz0, hz1, hz2⟩ := info_parts (P := Try.prog) (e := 30) (z := .agg #[.int .i64 0, .int .i64 0, .string ⟨#[]⟩]) (size := 3) (bytes := 32) (by kernel_rfl)
  have hu : Try.prog.underlying 25 = some (.slice 30) := by kernel_rfl
  have HK := Lib.hid hk
  have HN := Lib.hid hN
  clear hk hN
  go_enter_defers Try.func23, Try.ntmps23
  go_wp2_with fail
  obtain ⟨W, hW_, hbW, B1, B2⟩ : ∃ W_, W_ = ((w.alloc (.cells #[.int .i64 0, .int .i64 0, .string ⟨#[]⟩] 30)).alloc (.cells #[.int .i64 0] 41)) ∧ Below w.heap.size w W_ ∧ Blk W_ (w.heap.size) 30 #[.int .i64 0, .int .i64 0, .string ⟨#[]⟩] ∧ Blk W_ (w.heap.size + 1) 41 #[.int .i64 0] :=
    ⟨_, rfl, (((Below.refl _ _).alloc (Nat.le_refl _) _).alloc (by simp; try omega) _), ((blk_new_at w (w.heap.size) _ _ (by simp)).alloc _), (blk_new_at (w.alloc (.cells #[.int .i64 0, .int .i64 0, .string ⟨#[]⟩] 30)) (w.heap.size + 1) _ _ (by simp))⟩
  rw [← hW_]
  clear hW_
  have hWs : w.heap.size + 2 ≤ W.heap.size := B2.lt
  refine (Kindr es _ A N c B C F G w W HK.out HN.out hB (Below.mono hbW hB) hr hc hs).mono ?_
  rintro e w3 ⟨rfl, hb3⟩
  unfold two
  go_wp2
  go_loopw [10, 26] (fun l i wr => ∃ (k : Nat) (vs : List V), k ≤ N ∧ i = .int .i64 k ∧ vs.length = k ∧ wr.ownsRow (w.heap.size + 2) 30 3 l k (cellsV vs) ∧
      Below w.heap.size w wr ∧ Blk wr w.heap.size 30 #[.int .i64 0, .int .i64 0, .string ⟨#[]⟩] ∧ Blk wr (w.heap.size + 1) 41 #[.int .i64 0] ∧ w.heap.size + 2 ≤ wr.heap.size ∧
      (∀ x ∈ vs, ok64 x.n) ∧ valsV (es.drop k) vs = valsV es [])
    (fun _ i _ => N - (intOf i).toNat)
  case atStart => exact ⟨0, [], Nat.zero_le _, rfl, rfl, World.ownsRow_nil _ _ _ _, bch0 hbW hb3, B1.ext hb3, B2.ext hb3, Nat.le_trans hWs hb3.size, fun x h => absurd h (by simp), rfl⟩
  case round =>
    obtain ⟨k, vs, hk, rfl, hkl, hown, hb, E1, E2, hsz, hok, hks⟩ := hrel
    have HKS := Lib.hid hks
    have HKL := Lib.hid hkl
    clear hks hkl
    obtain ⟨Al, cl, rfl, hvals, hAl⟩ := own_vals hown HKL.out
    rcases Nat.lt_or_ge k N with hlt | hge
    · have hd : decide ((k : Int) < (N : Int)) = true := by simp; omega
      obtain ⟨b, off, rfl, hlb, hcl⟩ := hr (by rw [HN.out]; omega)
      obtain ⟨nd, hnd⟩ : ∃ nd, es[k]? = some nd := ⟨_, List.getElem?_eq_getElem (by rw [HN.out]; exact hlt)⟩
      have HND := Lib.hid hnd
      clear hnd
      have qc := (Nds.below hr (Below.mono hb hB)).cells HND.out
      go_wp2_with fail
      clear qc
      obtain ⟨o, ho⟩ : ∃ o, nodeV vs nd = o := ⟨_, rfl⟩
      have HO := Lib.hid ho
      clear ho
      obtain ⟨W5, hW_, hbW5, B5⟩ : ∃ W_, W_ = (wr.alloc (.cells #[.int .i64 nd.op, .int .i64 nd.a, .int .i64 nd.b, .int .i64 nd.v.k, .int .i64 nd.v.n, .string nd.v.s, .string nd.s] 36)) ∧ Below wr.heap.size wr W_ ∧ Blk W_ (wr.heap.size) 36 #[.int .i64 nd.op, .int .i64 nd.a, .int .i64 nd.b, .int .i64 nd.v.k, .int .i64 nd.v.n, .string nd.v.s, .string nd.s] :=
        ⟨_, rfl, ((Below.refl _ _).alloc (Nat.le_refl _) _), (blk_new_at wr (wr.heap.size) _ _ (by simp))⟩
      rw [← hW_]
      clear hW_
      refine (nodes nd o vs k k cl wr.heap.size Al C R W5 HO.out (hfine k nd HND.out) HKL.out (by omega) (hvals.below hbW5) hbW5.size hok).mono ?_
      rintro e w6 ⟨he, hb6⟩
      have hb7 : Below wr.heap.size wr w6 := bch0 hbW5 hb6
      have hown6 := own_ext hown hb7
      have E16 := E1.ext hb7
      have E26 := E2.ext hb7
      have hb8 : Below w.heap.size w w6 := bch0 hb hb7
      have hs8 : w.heap.size + 2 ≤ w6.heap.size := Nat.le_trans hsz hb7.size
      clear hown E1 E2
      cases o with
      | none =>
        unfold nodeE at he
        subst he
        have hval : valsV es [] = none := by rw [← HKS.out]; exact vals_stop HND.out HO.out
        have HV := Lib.hid hval
        clear hval
        go_wp2
        refine leaves_cons (f := 38) (args := #[.pointer (some ⟨w.heap.size, 0, none⟩), .pointer (some ⟨w.heap.size + 1, 0, none⟩)]) (by simp) (by simp [go_sem]) ?_
        refine (catch_panicking w.heap.size (w.heap.size + 1) 11 _ _ _ _ [] _ E16 E26 (by omega)).mono ?_
        rintro e u' w7 ⟨rfl, rfl, k1, k2, hbb⟩
        have q1 := k1.three (Below.refl _ _)
        have q2 : w7.cell? ⟨w.heap.size + 1, 0, none⟩ = some (.int .i64 11) := k2.cell 0
        have hb9 : Below w.heap.size w w7 := Below.trans hb8 (hbb _ (by omega) (by omega))
        simp [Leaves, settle, results, Try.results23, go_sem, q1, q2, hb9, ValueV]
        rw [HV.out]
      | some v =>
        unfold nodeE at he
        subst he
        go_wp2_with (at_builtin; refine wpList_append_own _ rfl _ _ 25 rfl (w.heap.size + 2) 30 i0 (.agg #[.int .i64 0, .int .i64 0, .string ⟨#[]⟩]) 3 32 hu hi hz0 hz1 hz2 rfl (by decide) _ _ _ rfl (hown6.alloc _) ⟨w6.heap.size, 0, none⟩ 1 1 [.int .i64 v.k, .int .i64 v.n, .string v.s] rfl rfl ?c1 ?c2 ?c3 ?c4 ?c5 ?_)
        case c1 =>
          intro j u hj
          match j, hj with
          | 0, hj => simp at hj; subst hj; simp [Addr.add]
          | 1, hj => simp at hj; subst hj; simp [Addr.add]
          | 2, hj => simp at hj; subst hj; simp [Addr.add]
        case c2 => intro u hu; simp at hu; rcases hu with rfl | rfl | rfl <;> rfl
        case c3 => unfold maxLen; omega
        case c4 => omega
        case c5 => simp; omega
        intro v' w9 hown9 hgrow9 _
        have hrow : ∀ g, (Value.slice Al k cl).ownBlock = some g → w.heap.size + 2 ≤ g := fun g hg => (hown6.lt g hg).1
        have E19 : Blk w9 w.heap.size 30 #[.int .i64 0, .int .i64 0, .string ⟨#[]⟩] := (E16.alloc _).grown hgrow9 (fun h => by have := hrow _ h.symm; omega)
        have E29 : Blk w9 (w.heap.size + 1) 41 #[.int .i64 0] := (E26.alloc _).grown hgrow9 (fun h => by have := hrow _ h.symm; omega)
        have hb9 : Below w.heap.size w w9 := (hb8.alloc (by omega) _).grown hgrow9 (by simp; omega) (fun g hg => by have := hrow g hg; omega)
        have hs9 : w.heap.size + 2 ≤ w9.heap.size := by have := hgrow9.size; simp at this; omega
        have hok9 : ∀ x ∈ vs ++ [v], ok64 x.n := by
          intro x hx
          rcases List.mem_append.1 hx with hx | hx
          · exact hok x hx
          · simp at hx; subst hx; exact node_ok HO.out (by rw [HKL.out]; exact hfine k nd HND.out) hok
        go_wp2
        go_roundw
        case rel => exact ⟨k + 1, vs ++ [v], by omega, rfl, by simp [HKL.out], by rw [append_cells]; exact hown9, hb9, E19, E29, hs9, hok9, by rw [← vals_step HND.out HO.out]; exact HKS.out⟩
        case measure => simp [intOf]; omega
    · have hd : decide ((k : Int) < (N : Int)) = false := by simp; omega
      obtain rfl : k = N := by omega
      obtain ⟨g, rfl, hg⟩ := hAl (by omega)
      have qe := hvals.at_ (last_val vs (k - 1) (by rw [HKL.out]; omega))
      simp only [Nat.zero_add] at qe
      have hval : valsV es [] = some vs := by rw [← HKS.out, List.drop_eq_nil_of_le (by rw [HN.out]; omega)]; rfl
      have HV := Lib.hid hval
      clear hval
      have q1 := E1.three (Below.refl _ _)
      have f1 := E1.free3
      have q2 : wr.cell? ⟨w.heap.size + 1, 0, none⟩ = some (.int .i64 0) := E2.cell 0
      have f2 := E2.frozen 0
      go_wp2
      clear q1 f1 q2 f2 qe
      obtain ⟨wE, hwE, H1, H2, hbE⟩ := two_set E1 E2 (by omega) (.int .i64 (vs.getLast?.getD nul).k) (.int .i64 (vs.getLast?.getD nul).n) (.string (vs.getLast?.getD nul).s) (.int .i64 0)
      rw [← hwE]
      refine leaves_cons (f := 38) (args := #[.pointer (some ⟨w.heap.size, 0, none⟩), .pointer (some ⟨w.heap.size + 1, 0, none⟩)]) (by simp) (by simp [go_sem]) ?_
      refine (catch_idle w.heap.size (w.heap.size + 1) _).mono ?_
      rintro e u' w7 ⟨rfl, rfl, rfl⟩
      have q1 := H1.three (Below.refl _ _)
      have q2 : w7.cell? ⟨w.heap.size + 1, 0, none⟩ = some (.int .i64 0) := H2.cell 0
      have hb9 : Below w.heap.size w w7 := Below.trans hb (hbE _ (by omega) (by omega))
      simp [Leaves, settle, results, Try.results23, go_sem, q1, q2, hb9, ValueV]
      rw [HV.out]
end Go.Proofs.Ytfgmlgflfagdjaa.ev
