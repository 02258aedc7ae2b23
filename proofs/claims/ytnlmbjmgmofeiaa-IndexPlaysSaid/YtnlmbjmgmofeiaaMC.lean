/- Contract: an index's Add. Printed by gen8.py. -/
import Derived.Test.YtnlmbjmgmofeiaaMB
import Derived.Test.YtnlmbjmgmofeiaaT
namespace Go.Proofs.Ytnlmbjmgmofeiaa.ix
open Go.ChangeShapes Go.WideShapes Go.ChangeAt Go.RowKit Go.Proofs.Ytnlmbjmgmofeiaa.lib Go.Proofs.Ytnlmbjmgmofeiaa.val Go.Proofs.Ytnlmbjmgmofeiaa.tb
set_option linter.unusedVariables false

/-- w' is w, but for the block g, the block o, and what is new -/
structure Kept (w w' : World) (g : Nat) (o : Option Nat) : Prop where
  os : w'.os = w.os
  tape : w'.tape = w.tape
  output : w'.output = w.output
  size : w.heap.size ≤ w'.heap.size
  block : ∀ b, b < w.heap.size → b ≠ g → some b ≠ o → w'.heap[b]? = w.heap[b]?
theorem Kept.of_below {w w' : World} {g : Nat} {o : Option Nat} (h : Below w.heap.size w w') : Kept w w' g o := ⟨h.os, h.tape, h.output, h.size, fun b hb _ _ => h.block b hb⟩
theorem Kept.of_grown {w w' : World} {g : Nat} {o : Option Nat} (h : w.grownBy w' o) : Kept w w' g o := ⟨h.os, h.tape, h.output, h.size, fun b hb _ ho => h.block b hb ho⟩
theorem Kept.of_set {w w' : World} {g : Nat} {o : Option Nat} (h : w.grownBy w' (some g)) : Kept w w' g o := ⟨h.os, h.tape, h.output, h.size, fun b hb hg _ => h.block b hb (by simpa using hg)⟩
theorem Kept.trans {a b c : World} {g : Nat} {o o' : Option Nat} (h : Kept a b g o) (k : Kept b c g o') (ho : ∀ n, o' = some n → o = some n ∨ a.heap.size ≤ n) : Kept a c g o :=
  ⟨k.os.trans h.os, k.tape.trans h.tape, k.output.trans h.output, Nat.le_trans h.size k.size, fun n hn hg hno => (k.block n (Nat.lt_of_lt_of_le hn h.size) hg (fun e => by rcases ho n e.symm with h1 | h1; exact hno h1.symm; omega)).trans (h.block n hn hg hno)⟩
theorem Kept.below {w w' : World} {g H : Nat} {o : Option Nat} (h : Kept w w' g o) (hH : H ≤ w.heap.size) (hg : H ≤ g) (ho : ∀ n, o = some n → H ≤ n) : Below H w w' :=
  ⟨h.os, h.tape, h.output, h.size, fun b hb => h.block b (by omega) (by omega) (fun e => by have := ho b e.symm; omega)⟩
/-- an index in the block g, its entries' row not below B -/
structure IxA (w : World) (g B col key : Nat) (ws : List Ew) (A : Option Addr) (c : Nat) : Prop where
  blk : Blk w g 75 #[.int .i64 col, .int .i64 key, .slice A ws.length c, .int .i64 (ws.length : Int)]
  own : w.ownsRow B 78 7 (.slice A ws.length c) ws.length (flatK encW ws)
  all : ∀ x ∈ ws, EwOk w x
  srt : Srt (ws.map (·.e))
  gB : g < B
  hB : B ≤ w.heap.size
theorem IxA.ext {w w' : World} {g B col key : Nat} {ws : List Ew} {A : Option Addr} {c : Nat} (h : IxA w g B col key ws A c) (hb : Below w.heap.size w w') : IxA w' g B col key ws A c :=
  ⟨h.blk.ext hb, own_ext h.own hb, fun x hx => (h.all x hx).ext hb, h.srt, h.gB, Nat.le_trans h.hB hb.size⟩
theorem IxA.row {w : World} {g B col key : Nat} {ws : List Ew} {A : Option Addr} {c : Nat} (h : IxA w g B col key ws A c) : Row w 0 A ws.length c (flatK encW ws) := (Row.of_own h.own).base (Nat.zero_le _)
theorem EwOk.grown {w w' : World} {x : Ew} {B n c : Nat} {A : Option Addr} {xs : List Value} (h : EwOk w x) (ho : w.ownsRow B 78 7 (.slice A n c) n xs) (hg : w.grownBy w' (Value.slice A n c).ownBlock) : EwOk w' x := ⟨h.ok, h.own.kept hg (own_ne h.own ho (by decide))⟩
theorem EwOk.set {w w' : World} {x : Ew} {g : Nat} {cs : Array Value} (h : EwOk w x) (hB : Blk w g 75 cs) (hg : w.grownBy w' (some g)) : EwOk w' x := ⟨h.ok, h.own.kept hg (own_ne_blk h.own hB (by decide))⟩
theorem map_ins (ws : List Ew) (x : Ew) (i : Nat) : (ws.take i ++ x :: ws.drop i).map (·.e) = (ws.map (·.e)).take i ++ x.e :: (ws.map (·.e)).drop i := by simp [List.map_take, List.map_drop]
theorem map_del (ws : List Ew) (i : Nat) : (ws.take i ++ ws.drop (i + 1)).map (·.e) = (ws.map (·.e)).take i ++ (ws.map (·.e)).drop (i + 1) := by simp [List.map_take, List.map_drop]
set_option maxRecDepth 1000000 in
set_option maxHeartbeats 8000000 in
theorem add_ (ws : List Ew) (r : List V) (e : En) (g B col key : Nat) (A : Option Addr) (c lo : Nat) (Ar : Option Addr) (m cr : Nat) (w : World) (hx : IxA w g B col key ws A c) (hr : Vs w lo Ar m cr r) (hm : m ≤ 100000) (hv : r[col]? = some e.v) (hk : r[key]? = some e.k) (he : EnOk e) (hn : ws.length ≤ 5000) :
    Calls Try.prog 29 #[.pointer (some ⟨g, 0, none⟩), .slice Ar m cr] w fun e' w' => ∃ ws' A' c', e' = .returned (.tuple #[]) ∧ IxA w' g B col key ws' A' c' ∧ ws'.map (·.e) = addN (ws.map (·.e)) e ∧ Kept w w' g (Value.slice A ws.length c).ownBlock := by
  have hxo := hx.own
  have hgB := hx.gB
  have hhB := hx.hB
  have hgl := hx.blk.lt
  have HALL := Lib.hid hx.all
  have HS := Lib.hid hx.srt
  have HX := Lib.hid hx
  obtain ⟨n, hln⟩ : ∃ n, ws.length = n := ⟨_, rfl⟩
  have hblk := hx.blk
  have hpos := n_at_le e (ws.map (·.e))
  rw [List.length_map] at hpos
  rw [hln] at hxo hblk hn hpos ⊢
  have HLN := Lib.hid hln
  obtain ⟨at_, hat⟩ : ∃ a, posN e (ws.map (·.e)) = a := ⟨_, rfl⟩
  obtain ⟨is_, his⟩ : ∃ b, isN e (ws.map (·.e)) = b := ⟨_, rfl⟩
  have HAT := Lib.hid hat
  have HIS := Lib.hid his
  rw [hat] at hpos
  have Hent := Lib.hid (fun w' (h : Below w.heap.size w w') => entry_ g col key (.slice A n c) (.int .i64 (n : Int)) r e lo Ar m cr w' (hblk.ext h) (hr.ext h) hm hv hk he)
  clear hx hv hk hr he hln hat his
  go_enter Try.func29, Try.ntmps29
  go_wp2_with fail
  refine (Hent.out _ (Below.refl _ _)).mono ?_
  rintro e1 w1 ⟨x, rfl, hxe, hxw, hb1⟩
  unfold Ew.agg
  have hHX := Lib.hid hxe
  clear hxe Hent
  go_wp2_with fail
  obtain ⟨W1, hW_, hb2, B4⟩ : ∃ W_, W_ = (w1.alloc (.cells #[.int .i64 x.e.v.k, .int .i64 x.e.v.n, .string x.e.v.s, .int .i64 x.e.k.k, .int .i64 x.e.k.n, .string x.e.k.s, .slice (some ⟨x.g, 0, none⟩) x.n x.c] 78)) ∧ Below w1.heap.size w1 W_ ∧ Blk W_ (w1.heap.size) 78 #[.int .i64 x.e.v.k, .int .i64 x.e.v.n, .string x.e.v.s, .int .i64 x.e.k.k, .int .i64 x.e.k.n, .string x.e.k.s, .slice (some ⟨x.g, 0, none⟩) x.n x.c] :=
    ⟨_, rfl, ((Below.refl _ _).alloc (Nat.le_refl _) _), (blk_new_at w1 (w1.heap.size) _ _ (by simp))⟩
  rw [← hW_]
  clear hW_
  have hbx := Below.trans hb1 (Below.mono hb2 hb1.size)
  have BG := hblk.ext hbx
  have hxw := hxw.ext hb2
  have hg4 : w.heap.size ≤ w1.heap.size := hb1.size
  obtain ⟨g4, hg4e⟩ : ∃ g, w1.heap.size = g := ⟨_, rfl⟩
  rw [hg4e] at B4 hg4 ⊢
  clear hblk hb1 hb2 hg4e
  have D4 := fun w' (h : Below W1.heap.size W1.drew w') => seven B4 (Below.trans (Below.refl _ _).drew h)
  have DG := fun w' (h : Below W1.heap.size W1.drew w') => four BG (Below.trans (Below.refl _ _).drew h)
  refine wp_region_one [(0, true), (1, true), (2, true), (3, true), (4, true), (5, false), (6, true), (7, true), (8, true), (9, true), (10, true)] (by kernel_rfl) (by kernel_rfl) (by kernel_rfl) (by decide) ?_
  repeat ((with_reducible show wpPerm _ _ _ _ ((_, true) :: _) _ _); (first | (refine wpPerm_on (v := ?_) rfl rfl (wanted_free rfl) (fun w' hS => ?_) ?_; rotate_left; (focus (go_simp; (try with_reducible rfl); done)); try simp only [List.setIfInBounds_toArray, List.set_cons_zero, List.set_cons_succ]) | (refine wpPerm_on (v := ?_) rfl rfl (wanted_yes rfl rfl rfl) (fun w' hS => ?_) ?_; rotate_left; (focus (go_simp; (try with_reducible rfl); done)); try simp only [List.setIfInBounds_toArray, List.set_cons_zero, List.set_cons_succ]) | (refine wpPerm_off rfl rfl (wanted_no rfl rfl rfl) ?_; try simp only [List.setIfInBounds_toArray, List.set_cons_zero, List.set_cons_succ]) | (refine wpPerm_off rfl rfl (wanted_undef rfl rfl rfl) ?_; try simp only [List.setIfInBounds_toArray, List.set_cons_zero, List.set_cons_succ])))
  refine wpPerm_do rfl (wanted_free rfl) (fun K hK => ?_); go_simp
  have hdr := (Below.refl W1.heap.size W1).drew
  have hbd := Below.trans hbx (Below.mono hdr hbx.size)
  refine (ebs_ ws x 0 A n c _ (by have := (HX.out.ext hbd).row; rwa [HLN.out] at this) HLN.out (fun y hy => (HALL.out y hy).ext hbd) (hxw.ext hdr) HS.out (by omega)).mono ?_
  rw [hHX.out, HAT.out, HIS.out]
  rintro e2 w2 ⟨rfl, hb2⟩
  refine hK.out _ _ hb2 ?_
  clear hK K
  repeat ((with_reducible show wpPerm _ _ _ _ ((_, true) :: _) _ _); (first | (refine wpPerm_on (v := ?_) rfl rfl (wanted_free rfl) (fun w' hS => ?_) ?_; rotate_left; (focus (go_simp; (try with_reducible rfl); done)); try simp only [List.setIfInBounds_toArray, List.set_cons_zero, List.set_cons_succ]) | (refine wpPerm_on (v := ?_) rfl rfl (wanted_yes rfl rfl rfl) (fun w' hS => ?_) ?_; rotate_left; (focus (go_simp; (try with_reducible rfl); done)); try simp only [List.setIfInBounds_toArray, List.set_cons_zero, List.set_cons_succ]) | (refine wpPerm_off rfl rfl (wanted_no rfl rfl rfl) ?_; try simp only [List.setIfInBounds_toArray, List.set_cons_zero, List.set_cons_succ]) | (refine wpPerm_off rfl rfl (wanted_undef rfl rfl rfl) ?_; try simp only [List.setIfInBounds_toArray, List.set_cons_zero, List.set_cons_succ])))
  refine wpPerm_done ?_
  clear D4 DG
  have hb12 := Below.trans hdr hb2
  have hbx := Below.trans hbx (Below.mono hb12 hbx.size)
  have BG := BG.ext hb12
  have B4 : Blk w2 g4 78 #[.int .i64 x.e.v.k, .int .i64 x.e.v.n, .string x.e.v.s, .int .i64 x.e.k.k, .int .i64 x.e.k.n, .string x.e.k.s, .slice (some ⟨x.g, 0, none⟩) x.n x.c] := B4.ext hb12
  have hxw := hxw.ext hb12
  have hxo := own_ext hxo hbx
  clear hdr hbd hb2 hb12
  cases is_ with
  | true =>
    go_wp2
    have hmap : ws.map (·.e) = addN (ws.map (·.e)) e := by unfold addN; rw [HIS.out, if_pos rfl]
    go_end0
    exact ⟨ws, A, c, rfl, HX.out.ext hbx, hmap, Kept.of_below hbx⟩
  | false =>
    go_wp2_with fail
    have S4 := fun w' (h : Blk w' g4 78 #[.int .i64 x.e.v.k, .int .i64 x.e.v.n, .string x.e.v.s, .int .i64 x.e.k.k, .int .i64 x.e.k.n, .string x.e.k.s, .slice (some ⟨x.g, 0, none⟩) x.n x.c]) => seven h (Below.refl _ _)
    refine wp_region_tree (S := fun w' => Blk w' g4 78 #[.int .i64 x.e.v.k, .int .i64 x.e.v.n, .string x.e.v.s, .int .i64 x.e.k.k, .int .i64 x.e.k.n, .string x.e.k.s, .slice (some ⟨x.g, 0, none⟩) x.n x.c]) (.take 0 (.take 1 (.take 2 (.take 3 (.take 5 (.take 6 (.two 4 7 (.one 7 (.one 8 (.take 9 (.take 10 (.one 11 .nil))))) (.one 4 (.one 8 (.take 9 (.take 10 (.one 11 .nil))))))))))))
      (by kernel_rfl) (by kernel_rfl) (by kernel_rfl) (by decide) (by intro c a d v w h; cases d <;> exact h) B4 ?_
    repeat ((with_reducible show wpTree _ _ _ _ (.take _ _) _ _); (first | (refine wpTree_on (v := ?_) rfl rfl (wanted_free rfl) (fun w' hS => ?_) ?_; rotate_left; (focus (go_simp; (try with_reducible rfl); done)); try simp only [List.setIfInBounds_toArray, List.set_cons_zero, List.set_cons_succ]) | (refine wpTree_on (v := ?_) rfl rfl (wanted_yes rfl rfl rfl) (fun w' hS => ?_) ?_; rotate_left; (focus (go_simp; (try with_reducible rfl); done)); try simp only [List.setIfInBounds_toArray, List.set_cons_zero, List.set_cons_succ]) | (refine wpTree_off rfl rfl (wanted_no rfl rfl rfl) ?_; try simp only [List.setIfInBounds_toArray, List.set_cons_zero, List.set_cons_succ]) | (refine wpTree_off rfl rfl (wanted_undef rfl rfl rfl) ?_; try simp only [List.setIfInBounds_toArray, List.set_cons_zero, List.set_cons_succ])))
    clear S4
    have hdr := (Below.refl w2.heap.size w2).drew
    have hbx3 := Below.trans hbx (Below.mono hdr hbx.size)
    have BG := BG.ext hdr
    have B4 := B4.ext hdr
    have hxw := hxw.ext hdr
    have hxo := own_ext hxo hdr
    have hg4l := B4.lt
    clear hbx hdr
    generalize w2.drew = w3 at *
    have hlt := hxo.lt
    have hneA0 : ∀ k, (Value.slice A n c).ownBlock = some k → k < w.heap.size := fun k h => by
      have h2 := HX.out.own.lt k (by rw [HLN.out]; exact h)
      exact h2.2
    have hne4 : ∀ k, (Value.slice A n c).ownBlock = some k → g4 ≠ k := fun k h => by have := hneA0 k h; omega
    refine wpTree_both rfl (wanted_free rfl) rfl (wanted_free rfl) (fun K hK => ?_) (fun K hK => ?_)
    · have q := four BG (Below.refl _ _)
      go_simp
      refine hK.out _ _ B4 ?_
      clear hK K q
      refine wpTree_do rfl (wanted_free rfl) (fun K hK => ?_); go_simp
      refine hK.out _ _ (B4.ext ((Below.refl _ _).alloc (Nat.le_refl _) _)) ?_
      clear hK K
      have hal := (Below.refl w3.heap.size w3).alloc (Nat.le_refl _) (.cells #[.int .i64 x.e.v.k, .int .i64 x.e.v.n, .string x.e.v.s, .int .i64 x.e.k.k, .int .i64 x.e.k.n, .string x.e.k.s, .slice (some ⟨x.g, 0, none⟩) x.n x.c] 78)
      have hBV : Blk (w3.alloc (.cells #[.int .i64 x.e.v.k, .int .i64 x.e.v.n, .string x.e.v.s, .int .i64 x.e.k.k, .int .i64 x.e.k.n, .string x.e.k.s, .slice (some ⟨x.g, 0, none⟩) x.n x.c] 78)) w3.heap.size 78 (encW x).toArray := Blk.new _ _ _
      have hneA : ∀ g', A = some ⟨g', 0, none⟩ → w3.heap.size ≠ g' := fun g' h => by have := (hlt g' (by rw [h]; rfl)).2; omega
      have BG := BG.ext hal
      have B4 := B4.ext hal
      have hxw := hxw.ext hal
      have hxo := own_ext hxo hal
      have hbx3 := Below.trans hbx3 (Below.mono hal hbx3.size)
      have hlt := hxo.lt
      clear hal
      generalize hwe : w3.alloc (.cells #[.int .i64 x.e.v.k, .int .i64 x.e.v.n, .string x.e.v.s, .int .i64 x.e.k.k, .int .i64 x.e.k.n, .string x.e.k.s, .slice (some ⟨x.g, 0, none⟩) x.n x.c] 78) = wv at *
      clear hwe
      generalize w3.heap.size = gv at *
      refine wpTree_do rfl (wanted_free rfl) (fun K hK => ?_); go_simp
      refine (insert_ ws x B A n c at_ gv _ hxo HLN.out hBV hneA (by omega) (by omega) (Nat.le_trans hhB hbx3.size)).mono ?_
      rintro e3 w4 ⟨A', c', rfl, hown4, hgr4⟩
      have B4 := B4.grown hgr4 (fun e => absurd rfl (hne4 _ e.symm))
      refine hK.out _ _ B4 ?_
      clear hK K
      repeat ((with_reducible show wpTree _ _ _ _ (.take _ _) _ _); (first | (refine wpTree_on (v := ?_) rfl rfl (wanted_free rfl) (fun w' hS => ?_) ?_; rotate_left; (focus (go_simp; (try with_reducible rfl); done)); try simp only [List.setIfInBounds_toArray, List.set_cons_zero, List.set_cons_succ]) | (refine wpTree_on (v := ?_) rfl rfl (wanted_yes rfl rfl rfl) (fun w' hS => ?_) ?_; rotate_left; (focus (go_simp; (try with_reducible rfl); done)); try simp only [List.setIfInBounds_toArray, List.set_cons_zero, List.set_cons_succ]) | (refine wpTree_off rfl rfl (wanted_no rfl rfl rfl) ?_; try simp only [List.setIfInBounds_toArray, List.set_cons_zero, List.set_cons_succ]) | (refine wpTree_off rfl rfl (wanted_undef rfl rfl rfl) ?_; try simp only [List.setIfInBounds_toArray, List.set_cons_zero, List.set_cons_succ])))
      have BG := BG.grown hgr4 (fun e => by have := (hlt _ e.symm).1; omega)
      have f2 := BG.frozen 2
      have q2 := BG.cell 2
      refine wpTree_do rfl (wanted_free rfl) (fun K hK => ?_); go_simp
      clear f2 q2
      obtain ⟨w5, hw5, BG', hl5, hgr5⟩ := Blk.set1 (i := 2) BG (.slice A' (n + 1) c')
      rw [← hw5]
      clear hw5
      have BGs := BG
      have BG : Blk w5 g 75 #[.int .i64 col, .int .i64 key, .slice A' (n + 1) c', .int .i64 (n : Int)] := BG'
      have B4 := B4.grown hgr5 (by simp; omega)
      refine hK.out _ _ B4 ?_
      clear hK K
      refine wpTree_end ?_
      have hK1 : Kept w w5 g (Value.slice A n c).ownBlock := Kept.trans (Kept.trans (Kept.of_below hbx3) (Kept.of_grown hgr4) (fun n h => .inl h)) (Kept.of_set (o := none) hgr5) (fun n h => by cases h)
      have hall5 : ∀ y ∈ ws, EwOk w5 y := fun y hy => (((HALL.out y hy).ext hbx3).grown hxo hgr4).set BGs hgr5
      have hxw5 := (hxw.grown hxo hgr4).set BGs hgr5
      have HO5 := Lib.hid (hown4.kept hgr5 (own_ne_blk hown4 BGs (by decide)))
      have HK5 := Lib.hid hK1
      have HA5 := Lib.hid hall5
      have HX5 := Lib.hid hxw5
      clear hown4 hgr4 hgr5 BG' BGs hK1 hall5 hxw5 hl5 B4 hBV
      have q3 := BG.cell 3
      go_wp2_with fail
      clear q3
      refine (add64_ ⟨g, 3, none⟩ (n : Int) 1 _ (BG.cell 3) (BG.frozen 3) (by omega) (by omega)).mono ?_
      rintro e4 w6 ⟨rfl, hw6⟩
      obtain ⟨w6', hw6', BG6, hl6, hgr6⟩ := Blk.set1 (i := 3) BG (.int .i64 ((n : Int) + 1))
      obtain rfl : w6 = w6' := by rw [hw6, hw6']
      clear hw6 hw6' hl6
      have hHK := HK5.out
      go_wp2
      have hlen : (ws.take at_ ++ x :: ws.drop at_).length = n + 1 := by simp [HLN.out]; omega
      have hmap : (ws.take at_ ++ x :: ws.drop at_).map (·.e) = addN (ws.map (·.e)) e := by
        unfold addN
        rw [map_ins, HIS.out, if_neg (by simp), HAT.out, hHX.out]
      have hfin : IxA w6 g B col key (ws.take at_ ++ x :: ws.drop at_) A' c' := ⟨by rw [hlen]; exact BG6, by rw [hlen]; exact HO5.out.kept hgr6 (own_ne_blk HO5.out BG (by decide)), fun y hy => by
          rcases List.mem_append.1 hy with h | h
          · exact (HA5.out y (List.mem_of_mem_take h)).set BG hgr6
          · rcases List.mem_cons.1 h with rfl | h
            · exact HX5.out.set BG hgr6
            · exact (HA5.out y (List.mem_of_mem_drop h)).set BG hgr6, by rw [hmap]; exact addN_srt HS.out e, hgB, Nat.le_trans hhB (Nat.le_trans hHK.size hgr6.size)⟩
      have hKf : Kept w w6 g (Value.slice A n c).ownBlock := Kept.trans hHK (Kept.of_set (o := none) hgr6) (fun n h => by cases h)
      go_end0
      exact ⟨_, A', c', rfl, hfin, hmap, hKf⟩
    · go_simp
      refine hK.out _ _ (B4.ext ((Below.refl _ _).alloc (Nat.le_refl _) _)) ?_
      clear hK K
      have hal := (Below.refl w3.heap.size w3).alloc (Nat.le_refl _) (.cells #[.int .i64 x.e.v.k, .int .i64 x.e.v.n, .string x.e.v.s, .int .i64 x.e.k.k, .int .i64 x.e.k.n, .string x.e.k.s, .slice (some ⟨x.g, 0, none⟩) x.n x.c] 78)
      have hBV : Blk (w3.alloc (.cells #[.int .i64 x.e.v.k, .int .i64 x.e.v.n, .string x.e.v.s, .int .i64 x.e.k.k, .int .i64 x.e.k.n, .string x.e.k.s, .slice (some ⟨x.g, 0, none⟩) x.n x.c] 78)) w3.heap.size 78 (encW x).toArray := Blk.new _ _ _
      have hneA : ∀ g', A = some ⟨g', 0, none⟩ → w3.heap.size ≠ g' := fun g' h => by have := (hlt g' (by rw [h]; rfl)).2; omega
      have BG := BG.ext hal
      have B4 := B4.ext hal
      have hxw := hxw.ext hal
      have hxo := own_ext hxo hal
      have hbx3 := Below.trans hbx3 (Below.mono hal hbx3.size)
      have hlt := hxo.lt
      clear hal
      generalize hwe : w3.alloc (.cells #[.int .i64 x.e.v.k, .int .i64 x.e.v.n, .string x.e.v.s, .int .i64 x.e.k.k, .int .i64 x.e.k.n, .string x.e.k.s, .slice (some ⟨x.g, 0, none⟩) x.n x.c] 78) = wv at *
      clear hwe
      generalize w3.heap.size = gv at *
      have q := four BG (Below.refl _ _)
      refine wpTree_do rfl (wanted_free rfl) (fun K hK => ?_); go_simp
      refine hK.out _ _ B4 ?_
      clear hK K q
      refine wpTree_do rfl (wanted_free rfl) (fun K hK => ?_); go_simp
      refine (insert_ ws x B A n c at_ gv _ hxo HLN.out hBV hneA (by omega) (by omega) (Nat.le_trans hhB hbx3.size)).mono ?_
      rintro e3 w4 ⟨A', c', rfl, hown4, hgr4⟩
      have B4 := B4.grown hgr4 (fun e => absurd rfl (hne4 _ e.symm))
      refine hK.out _ _ B4 ?_
      clear hK K
      repeat ((with_reducible show wpTree _ _ _ _ (.take _ _) _ _); (first | (refine wpTree_on (v := ?_) rfl rfl (wanted_free rfl) (fun w' hS => ?_) ?_; rotate_left; (focus (go_simp; (try with_reducible rfl); done)); try simp only [List.setIfInBounds_toArray, List.set_cons_zero, List.set_cons_succ]) | (refine wpTree_on (v := ?_) rfl rfl (wanted_yes rfl rfl rfl) (fun w' hS => ?_) ?_; rotate_left; (focus (go_simp; (try with_reducible rfl); done)); try simp only [List.setIfInBounds_toArray, List.set_cons_zero, List.set_cons_succ]) | (refine wpTree_off rfl rfl (wanted_no rfl rfl rfl) ?_; try simp only [List.setIfInBounds_toArray, List.set_cons_zero, List.set_cons_succ]) | (refine wpTree_off rfl rfl (wanted_undef rfl rfl rfl) ?_; try simp only [List.setIfInBounds_toArray, List.set_cons_zero, List.set_cons_succ])))
      have BG := BG.grown hgr4 (fun e => by have := (hlt _ e.symm).1; omega)
      have f2 := BG.frozen 2
      have q2 := BG.cell 2
      refine wpTree_do rfl (wanted_free rfl) (fun K hK => ?_); go_simp
      clear f2 q2
      obtain ⟨w5, hw5, BG', hl5, hgr5⟩ := Blk.set1 (i := 2) BG (.slice A' (n + 1) c')
      rw [← hw5]
      clear hw5
      have BGs := BG
      have BG : Blk w5 g 75 #[.int .i64 col, .int .i64 key, .slice A' (n + 1) c', .int .i64 (n : Int)] := BG'
      have B4 := B4.grown hgr5 (by simp; omega)
      refine hK.out _ _ B4 ?_
      clear hK K
      refine wpTree_end ?_
      have hK1 : Kept w w5 g (Value.slice A n c).ownBlock := Kept.trans (Kept.trans (Kept.of_below hbx3) (Kept.of_grown hgr4) (fun n h => .inl h)) (Kept.of_set (o := none) hgr5) (fun n h => by cases h)
      have hall5 : ∀ y ∈ ws, EwOk w5 y := fun y hy => (((HALL.out y hy).ext hbx3).grown hxo hgr4).set BGs hgr5
      have hxw5 := (hxw.grown hxo hgr4).set BGs hgr5
      have HO5 := Lib.hid (hown4.kept hgr5 (own_ne_blk hown4 BGs (by decide)))
      have HK5 := Lib.hid hK1
      have HA5 := Lib.hid hall5
      have HX5 := Lib.hid hxw5
      clear hown4 hgr4 hgr5 BG' BGs hK1 hall5 hxw5 hl5 B4 hBV
      have q3 := BG.cell 3
      go_wp2_with fail
      clear q3
      refine (add64_ ⟨g, 3, none⟩ (n : Int) 1 _ (BG.cell 3) (BG.frozen 3) (by omega) (by omega)).mono ?_
      rintro e4 w6 ⟨rfl, hw6⟩
      obtain ⟨w6', hw6', BG6, hl6, hgr6⟩ := Blk.set1 (i := 3) BG (.int .i64 ((n : Int) + 1))
      obtain rfl : w6 = w6' := by rw [hw6, hw6']
      clear hw6 hw6' hl6
      have hHK := HK5.out
      go_wp2
      have hlen : (ws.take at_ ++ x :: ws.drop at_).length = n + 1 := by simp [HLN.out]; omega
      have hmap : (ws.take at_ ++ x :: ws.drop at_).map (·.e) = addN (ws.map (·.e)) e := by
        unfold addN
        rw [map_ins, HIS.out, if_neg (by simp), HAT.out, hHX.out]
      have hfin : IxA w6 g B col key (ws.take at_ ++ x :: ws.drop at_) A' c' := ⟨by rw [hlen]; exact BG6, by rw [hlen]; exact HO5.out.kept hgr6 (own_ne_blk HO5.out BG (by decide)), fun y hy => by
          rcases List.mem_append.1 hy with h | h
          · exact (HA5.out y (List.mem_of_mem_take h)).set BG hgr6
          · rcases List.mem_cons.1 h with rfl | h
            · exact HX5.out.set BG hgr6
            · exact (HA5.out y (List.mem_of_mem_drop h)).set BG hgr6, by rw [hmap]; exact addN_srt HS.out e, hgB, Nat.le_trans hhB (Nat.le_trans hHK.size hgr6.size)⟩
      have hKf : Kept w w6 g (Value.slice A n c).ownBlock := Kept.trans hHK (Kept.of_set (o := none) hgr6) (fun n h => by cases h)
      go_end0
      exact ⟨_, A', c', rfl, hfin, hmap, hKf⟩
end Go.Proofs.Ytnlmbjmgmofeiaa.ix

/- Contract: an index's Drop. Printed by gen8.py. -/
namespace Go.Proofs.Ytnlmbjmgmofeiaa.ix
open Go.ChangeShapes Go.WideShapes Go.ChangeAt Go.RowKit Go.Proofs.Ytnlmbjmgmofeiaa.lib Go.Proofs.Ytnlmbjmgmofeiaa.val Go.Proofs.Ytnlmbjmgmofeiaa.tb
set_option linter.unusedVariables false

set_option maxRecDepth 1000000 in
set_option maxHeartbeats 8000000 in
theorem drop_ (ws : List Ew) (r : List V) (e : En) (g B col key : Nat) (A : Option Addr) (c lo : Nat) (Ar : Option Addr) (m cr : Nat) (w : World) (hx : IxA w g B col key ws A c) (hr : Vs w lo Ar m cr r) (hm : m ≤ 100000) (hv : r[col]? = some e.v) (hk : r[key]? = some e.k) (he : EnOk e) (hn : ws.length ≤ 5000) :
    Calls Try.prog 26 #[.pointer (some ⟨g, 0, none⟩), .slice Ar m cr] w fun e' w' => ∃ ws' A' c', e' = .returned (.tuple #[]) ∧ IxA w' g B col key ws' A' c' ∧ ws'.map (·.e) = dropN (ws.map (·.e)) e ∧ Kept w w' g (Value.slice A ws.length c).ownBlock := by
  have hxo := hx.own
  have hgB := hx.gB
  have hhB := hx.hB
  have hgl := hx.blk.lt
  have HALL := Lib.hid hx.all
  have HS := Lib.hid hx.srt
  have HX := Lib.hid hx
  obtain ⟨n, hln⟩ : ∃ n, ws.length = n := ⟨_, rfl⟩
  have hblk := hx.blk
  have hpos := n_at_le e (ws.map (·.e))
  rw [List.length_map] at hpos
  rw [hln] at hxo hblk hn hpos ⊢
  have HLN := Lib.hid hln
  obtain ⟨at_, hat⟩ : ∃ a, posN e (ws.map (·.e)) = a := ⟨_, rfl⟩
  obtain ⟨is_, his⟩ : ∃ b, isN e (ws.map (·.e)) = b := ⟨_, rfl⟩
  have HAT := Lib.hid hat
  have HIS := Lib.hid his
  rw [hat] at hpos
  have Hent := Lib.hid (fun w' (h : Below w.heap.size w w') => entry_ g col key (.slice A n c) (.int .i64 (n : Int)) r e lo Ar m cr w' (hblk.ext h) (hr.ext h) hm hv hk he)
  clear hx hv hk hr he hln hat his
  go_enter Try.func26, Try.ntmps26
  go_wp2_with fail
  refine (Hent.out _ (Below.refl _ _)).mono ?_
  rintro e1 w1 ⟨x, rfl, hxe, hxw, hb1⟩
  unfold Ew.agg
  have hHX := Lib.hid hxe
  clear hxe Hent
  go_wp2_with fail
  obtain ⟨W1, hW_, hb2, B4⟩ : ∃ W_, W_ = (w1.alloc (.cells #[.int .i64 x.e.v.k, .int .i64 x.e.v.n, .string x.e.v.s, .int .i64 x.e.k.k, .int .i64 x.e.k.n, .string x.e.k.s, .slice (some ⟨x.g, 0, none⟩) x.n x.c] 78)) ∧ Below w1.heap.size w1 W_ ∧ Blk W_ (w1.heap.size) 78 #[.int .i64 x.e.v.k, .int .i64 x.e.v.n, .string x.e.v.s, .int .i64 x.e.k.k, .int .i64 x.e.k.n, .string x.e.k.s, .slice (some ⟨x.g, 0, none⟩) x.n x.c] :=
    ⟨_, rfl, ((Below.refl _ _).alloc (Nat.le_refl _) _), (blk_new_at w1 (w1.heap.size) _ _ (by simp))⟩
  rw [← hW_]
  clear hW_
  have hbx := Below.trans hb1 (Below.mono hb2 hb1.size)
  have BG := hblk.ext hbx
  have hxw := hxw.ext hb2
  have hg4 : w.heap.size ≤ w1.heap.size := hb1.size
  obtain ⟨g4, hg4e⟩ : ∃ g, w1.heap.size = g := ⟨_, rfl⟩
  rw [hg4e] at B4 hg4 ⊢
  clear hblk hb1 hb2 hg4e
  have D4 := fun w' (h : Below W1.heap.size W1.drew w') => seven B4 (Below.trans (Below.refl _ _).drew h)
  have DG := fun w' (h : Below W1.heap.size W1.drew w') => four BG (Below.trans (Below.refl _ _).drew h)
  refine wp_region_one [(0, true), (1, true), (2, true), (3, true), (4, true), (5, false), (6, true), (7, true), (8, true), (9, true), (10, true)] (by kernel_rfl) (by kernel_rfl) (by kernel_rfl) (by decide) ?_
  repeat ((with_reducible show wpPerm _ _ _ _ ((_, true) :: _) _ _); (first | (refine wpPerm_on (v := ?_) rfl rfl (wanted_free rfl) (fun w' hS => ?_) ?_; rotate_left; (focus (go_simp; (try with_reducible rfl); done)); try simp only [List.setIfInBounds_toArray, List.set_cons_zero, List.set_cons_succ]) | (refine wpPerm_on (v := ?_) rfl rfl (wanted_yes rfl rfl rfl) (fun w' hS => ?_) ?_; rotate_left; (focus (go_simp; (try with_reducible rfl); done)); try simp only [List.setIfInBounds_toArray, List.set_cons_zero, List.set_cons_succ]) | (refine wpPerm_off rfl rfl (wanted_no rfl rfl rfl) ?_; try simp only [List.setIfInBounds_toArray, List.set_cons_zero, List.set_cons_succ]) | (refine wpPerm_off rfl rfl (wanted_undef rfl rfl rfl) ?_; try simp only [List.setIfInBounds_toArray, List.set_cons_zero, List.set_cons_succ])))
  refine wpPerm_do rfl (wanted_free rfl) (fun K hK => ?_); go_simp
  have hdr := (Below.refl W1.heap.size W1).drew
  have hbd := Below.trans hbx (Below.mono hdr hbx.size)
  refine (ebs_ ws x 0 A n c _ (by have := (HX.out.ext hbd).row; rwa [HLN.out] at this) HLN.out (fun y hy => (HALL.out y hy).ext hbd) (hxw.ext hdr) HS.out (by omega)).mono ?_
  rw [hHX.out, HAT.out, HIS.out]
  rintro e2 w2 ⟨rfl, hb2⟩
  refine hK.out _ _ hb2 ?_
  clear hK K
  repeat ((with_reducible show wpPerm _ _ _ _ ((_, true) :: _) _ _); (first | (refine wpPerm_on (v := ?_) rfl rfl (wanted_free rfl) (fun w' hS => ?_) ?_; rotate_left; (focus (go_simp; (try with_reducible rfl); done)); try simp only [List.setIfInBounds_toArray, List.set_cons_zero, List.set_cons_succ]) | (refine wpPerm_on (v := ?_) rfl rfl (wanted_yes rfl rfl rfl) (fun w' hS => ?_) ?_; rotate_left; (focus (go_simp; (try with_reducible rfl); done)); try simp only [List.setIfInBounds_toArray, List.set_cons_zero, List.set_cons_succ]) | (refine wpPerm_off rfl rfl (wanted_no rfl rfl rfl) ?_; try simp only [List.setIfInBounds_toArray, List.set_cons_zero, List.set_cons_succ]) | (refine wpPerm_off rfl rfl (wanted_undef rfl rfl rfl) ?_; try simp only [List.setIfInBounds_toArray, List.set_cons_zero, List.set_cons_succ])))
  refine wpPerm_done ?_
  clear D4 DG
  have hb12 := Below.trans hdr hb2
  have hbx := Below.trans hbx (Below.mono hb12 hbx.size)
  have BG := BG.ext hb12
  have B4 : Blk w2 g4 78 #[.int .i64 x.e.v.k, .int .i64 x.e.v.n, .string x.e.v.s, .int .i64 x.e.k.k, .int .i64 x.e.k.n, .string x.e.k.s, .slice (some ⟨x.g, 0, none⟩) x.n x.c] := B4.ext hb12
  have hxw := hxw.ext hb12
  have hxo := own_ext hxo hbx
  clear hdr hbd hb2 hb12
  cases is_ with
  | false =>
    go_wp2
    have hmap : ws.map (·.e) = dropN (ws.map (·.e)) e := by unfold dropN; rw [HIS.out, if_neg (by simp)]
    go_end0
    exact ⟨ws, A, c, rfl, HX.out.ext hbx, hmap, Kept.of_below hbx⟩
  | true =>
    have hatn : at_ < n := by
      obtain ⟨y, hy, _⟩ := n_isL_at HIS.out
      have := (List.getElem?_eq_some_iff.1 hy).1
      rw [HAT.out, List.length_map, HLN.out] at this
      exact this
    obtain ⟨n0, rfl⟩ : ∃ n0, n = n0 + 1 := ⟨n - 1, by omega⟩
    obtain ⟨gA, rfl, _, _⟩ := own_some1 hxo (by omega)
    have hw1 : IntKind.i64.wrap ((at_ : Int) + 1) = (at_ : Int) + 1 := IntWalk.i64_in _ ⟨by omega, by omega⟩
    have q := four BG (Below.refl _ _)
    go_wp2_with fail
    clear q
    refine (delete_ ws B gA n0 c at_ _ hxo HLN.out (by omega) (by omega)).mono ?_
    rintro e3 w4 ⟨rfl, hown4, hgr4⟩
    have hlt := hxo.lt
    have hgA := hlt gA rfl
    have BG := BG.grown hgr4 (by simp; omega)
    have f2 := BG.frozen 2
    have q2 := BG.cell 2
    have q0 := four BG (Below.refl _ _)
    go_upto_region 4 with fail
    clear f2 q2 q0
    obtain ⟨w5, hw5, BG', hl5, hgr5⟩ := Blk.set1 (i := 2) BG (.slice (some ⟨gA, 0, none⟩) n0 c)
    rw [← hw5]
    clear hw5
    have BGs := BG
    have BG : Blk w5 g 75 #[.int .i64 col, .int .i64 key, .slice (some ⟨gA, 0, none⟩) n0 c, .int .i64 ((n0 + 1 : Nat) : Int)] := BG'
    have hK1 : Kept w w5 g (some gA) := Kept.trans (Kept.trans (Kept.of_below hbx) (Kept.of_grown hgr4) (fun n h => .inl h)) (Kept.of_set (o := none) hgr5) (fun n h => by cases h)
    have hgr4' : w2.grownBy w4 (Value.slice (some ⟨gA, 0, none⟩) (n0 + 1) c).ownBlock := hgr4
    have hall5 : ∀ y ∈ ws, EwOk w5 y := fun y hy => (((HALL.out y hy).ext hbx).grown hxo hgr4').set BGs hgr5
    have HO5 := Lib.hid (hown4.kept hgr5 (own_ne_blk hown4 BGs (by decide)))
    have HK5 := Lib.hid hK1
    have HA5 := Lib.hid hall5
    clear hown4 hgr4 hgr4' hgr5 BG' BGs hK1 hall5 hl5 B4
    have q3 := BG.cell 3
    go_wp2_with fail
    clear q3
    refine (add64_ ⟨g, 3, none⟩ ((n0 + 1 : Nat) : Int) (-1) _ (BG.cell 3) (BG.frozen 3) (by omega) (by omega)).mono ?_
    rintro e4 w6 ⟨rfl, hw6⟩
    rw [show ((n0 + 1 : Nat) : Int) + -1 = (n0 : Int) by omega] at hw6
    obtain ⟨w6', hw6', BG6, hl6, hgr6⟩ := Blk.set1 (i := 3) BG (.int .i64 (n0 : Int))
    obtain rfl : w6 = w6' := by rw [hw6, hw6']
    clear hw6 hw6' hl6
    have hHK := HK5.out
    go_wp2
    have hlen : (ws.take at_ ++ ws.drop (at_ + 1)).length = n0 := by simp [HLN.out]; omega
    have hmap : (ws.take at_ ++ ws.drop (at_ + 1)).map (·.e) = dropN (ws.map (·.e)) e := by
      unfold dropN
      rw [map_del, HIS.out, if_pos rfl, HAT.out]
    have hfin : IxA w6 g B col key (ws.take at_ ++ ws.drop (at_ + 1)) (some ⟨gA, 0, none⟩) c := ⟨by rw [hlen]; exact BG6, by rw [hlen]; exact HO5.out.kept hgr6 (own_ne_blk HO5.out BG (by decide)), fun y hy => by
        rcases List.mem_append.1 hy with h | h
        · exact (HA5.out y (List.mem_of_mem_take h)).set BG hgr6
        · exact (HA5.out y (List.mem_of_mem_drop h)).set BG hgr6, by rw [hmap]; exact dropN_srt HS.out e, hgB, Nat.le_trans hhB (Nat.le_trans hHK.size hgr6.size)⟩
    have hKf : Kept w w6 g (some gA) := Kept.trans hHK (Kept.of_set (o := none) hgr6) (fun n h => by cases h)
    go_end0
    exact ⟨_, _, c, rfl, hfin, hmap, hKf⟩
end Go.Proofs.Ytnlmbjmgmofeiaa.ix

/- Contracts: Len, each. -/
namespace Go.Proofs.Ytnlmbjmgmofeiaa.ix
open Go.ChangeShapes Go.WideShapes Go.ChangeAt Go.RowKit Go.Proofs.Ytnlmbjmgmofeiaa.lib Go.Proofs.Ytnlmbjmgmofeiaa.val Go.Proofs.Ytnlmbjmgmofeiaa.tb
set_option linter.unusedVariables false

theorem len_ (ws : List Ew) (g B col key : Nat) (A : Option Addr) (c : Nat) (w : World) (hx : IxA w g B col key ws A c) :
    Calls Try.prog 19 #[.pointer (some ⟨g, 0, none⟩)] w fun e w' => e = .returned (.int .i64 (ws.length : Int)) ∧ w = w' := by
  go_enter Try.func19, Try.ntmps19
  go_wp2_with fail
  refine (load64_ ⟨g, 3, none⟩ (ws.length : Int) _ (hx.blk.cell 3)).mono ?_
  rintro e w1 ⟨rfl, rfl⟩
  go_wp2
  go_ret
  exact ⟨rfl, rfl⟩
/-- what is done with each entry whose value is not below v, as long as it is told to go on: I i: i entries are gone past; F: the end; of the blocks below H only go is written -/
structure DoOk (ws : List Ew) (v : V) (f : Nat) (caps : Array Value) (A : Option Addr) (c go H : Nat) (I : Nat → World → Prop) (F : World → Prop) : Prop where
  ext : ∀ i w w', I i w → Below w.heap.size w w' → I i w'
  row : ∀ i w, I i w → Row w 0 A ws.length c (flatK encW ws)
  skip : ∀ i x w, ws[i]? = some x → cmpV x.e.v v < 0 → I i w → I (i + 1) w
  step : ∀ i x w, ws[i]? = some x → ¬ cmpV x.e.v v < 0 → I i w → H ≤ w.heap.size → Calls Try.prog f (#[x.agg] ++ caps) w fun e w' => ∃ b, e = .returned (.bool b) ∧ (b = true → I (i + 1) w') ∧ (b = false → F w') ∧ w.heap.size ≤ w'.heap.size ∧ ∀ k, k < H → k ≠ go → w'.heap[k]? = w.heap[k]?
  fin : ∀ w, I ws.length w → F w
set_option maxRecDepth 1000000 in
set_option maxHeartbeats 8000000 in
theorem each_ (ws : List Ew) (v : V) (f : Nat) (c0 c1 : Value) (g go : Nat) (x0 x1 x3 : Value) (A : Option Addr) (c : Nat) (I : Nat → Nat → World → Prop) (F : World → Prop) (w : World) (hg : Blk w g 75 #[x0, x1, .slice A ws.length c, x3])
    (hd : ∀ H, w.heap.size ≤ H → DoOk ws v f #[c0, c1] A c go H (I H) F) (hI : ∀ H w', Below w.heap.size w w' → H ≤ w'.heap.size → I H 0 w') (hgo : go < w.heap.size) (hn : ws.length ≤ 5000) (hent : ∀ args w, (callFunc f args).run Try.prog w = .ok (.enter f args) w) :
    Calls Try.prog 35 #[.pointer (some ⟨g, 0, none⟩), .agg #[.int .i64 v.k, .int .i64 v.n, .string v.s], .func (.func f) #[] #[c0, c1]] w fun e w' => e = .returned (.tuple #[]) ∧ F w' := by
  obtain ⟨n, hln⟩ : ∃ n, ws.length = n := ⟨_, rfl⟩
  rw [hln] at hg hn
  have HLN := Lib.hid hln
  have HD := Lib.hid hd
  clear hln hd
  obtain ⟨v0, v1, v2⟩ := v
  simp only
  obtain ⟨v, hvd⟩ : ∃ v : V, v = ⟨v0, v1, v2⟩ := ⟨_, rfl⟩
  rw [← hvd] at HD
  have HV := Lib.hid hvd
  clear hvd
  go_enter Try.func35, Try.ntmps35
  go_upto_region 1 with fail
  obtain ⟨W, hW_, hbW, BV⟩ : ∃ W_, W_ = (w.alloc (.cells #[.int .i64 v0, .int .i64 v1, .string v2] 41)) ∧ Below w.heap.size w W_ ∧ Blk W_ (w.heap.size) 41 #[.int .i64 v0, .int .i64 v1, .string v2] :=
    ⟨_, rfl, ((Below.refl _ _).alloc (Nat.le_refl _) _), (blk_new_at w (w.heap.size) _ _ (by simp))⟩
  rw [← hW_]
  clear hW_
  have BG := hg.ext hbW
  have q := four BG (Below.refl _ _)
  have hBVl := BV.lt
  obtain ⟨I1, hI1⟩ : ∃ I1, I W.heap.size = I1 := ⟨_, rfl⟩
  have hd := HD.out W.heap.size hbW.size
  have h0 := hI W.heap.size W hbW (Nat.le_refl _)
  rw [hI1] at hd h0
  have HD := Lib.hid hd
  obtain ⟨vb, hvb⟩ : ∃ vb, w.heap.size = vb := ⟨_, rfl⟩
  rw [hvb] at BV hBVl hgo ⊢
  have hvgo : vb ≠ go := by omega
  clear hd hI hI1
  go_wp2_with fail
  clear q
  go_loopw [13] (fun i w' => ∃ k : Nat, i = .int .i64 k ∧ k ≤ n ∧ I1 k w' ∧ Blk w' vb 41 #[.int .i64 v0, .int .i64 v1, .string v2] ∧ W.heap.size ≤ w'.heap.size) (fun i _ => n - (intOf i).toNat)
  case atStart => exact ⟨0, rfl, Nat.zero_le _, h0, BV, Nat.le_refl _⟩
  case round =>
    obtain ⟨k, rfl, hk, hIk, BV, hWr⟩ := hrel
    rcases Nat.lt_or_ge k n with hlt | hge
    case inr =>
      have hd : decide ((k : Int) < (n : Int)) = false := by simp; omega
      obtain rfl : k = n := by omega
      have HF := Lib.hid (HD.out.fin wr (by rw [HLN.out]; exact hIk))
      go_wp2
      first | go_end0 | refine bodyPost_ret (results_none rfl _ _ _) rfl ?_
      exact ⟨rfl, HF.out⟩
    have hd : decide ((k : Int) < (n : Int)) = true := by simp; omega
    have hkn : (k : Int) < (n : Int) := by omega
    obtain ⟨x, hx⟩ : ∃ x, ws[k]? = some x := ⟨_, List.getElem?_eq_getElem (by rw [HLN.out]; exact hlt)⟩
    have hrow := HD.out.row k wr hIk
    rw [HLN.out] at hrow
    obtain ⟨b, o, rfl, _, _, hb⟩ := hrow.some_ (by omega)
    have q7 := row7 hrow hx
    have HX := Lib.hid hx
    clear hx hrow
    go_upto_region 4 with fail
    clear q7
    obtain ⟨W1, hW_, hb1, BE⟩ : ∃ W_, W_ = (wr.alloc (.cells #[.int .i64 x.e.v.k, .int .i64 x.e.v.n, .string x.e.v.s, .int .i64 x.e.k.k, .int .i64 x.e.k.n, .string x.e.k.s, .slice (some ⟨x.g, 0, none⟩) x.n x.c] 78)) ∧ Below wr.heap.size wr W_ ∧ Blk W_ (wr.heap.size) 78 #[.int .i64 x.e.v.k, .int .i64 x.e.v.n, .string x.e.v.s, .int .i64 x.e.k.k, .int .i64 x.e.k.n, .string x.e.k.s, .slice (some ⟨x.g, 0, none⟩) x.n x.c] :=
      ⟨_, rfl, ((Below.refl _ _).alloc (Nat.le_refl _) _), (blk_new_at wr (wr.heap.size) _ _ (by simp))⟩
    rw [← hW_]
    clear hW_
    have hIk := HD.out.ext _ _ _ hIk hb1
    have BV := BV.ext hb1
    have hWr := Nat.le_trans hWr hb1.size
    clear hb1
    have qe := seven BE (Below.refl _ _)
    have qv := BV.three (Below.refl _ _)
    go_wp2_with fail
    clear qe qv
    refine (compare x.e.v.k x.e.v.n x.e.v.s v0 v1 v2 _).mono ?_
    rintro e1 w2 ⟨rfl, hb2⟩
    have hcmp : (or3 (ord x.e.v.k v0) (ord x.e.v.n v1) (Lib.compareBytes x.e.v.s.data.toList v2.data.toList)) = cmpV x.e.v v := by rw [HV.out]; rfl
    rw [hcmp]
    have hIk := HD.out.ext _ _ _ hIk hb2
    have BV := BV.ext hb2
    have BE := BE.ext hb2
    have hWr := Nat.le_trans hWr hb2.size
    clear hb2 hcmp
    by_cases hge : cmpV x.e.v v < 0
    case pos =>
      have hdc : decide (0 ≤ cmpV x.e.v v) = false := by simp; omega
      have HS := Lib.hid (HD.out.skip k x w2 HX.out hge hIk)
      clear hge
      go_wp2
      go_roundw
      case rel => exact ⟨k + 1, by go_num, by omega, HS.out, BV, hWr⟩
      case measure => simp [intOf]; omega
    have hdc : decide (0 ≤ cmpV x.e.v v) = true := by simp; omega
    have HS := Lib.hid (HD.out.step k x w2 HX.out hge hIk hWr)
    clear hge
    have qe := seven BE (Below.refl _ _)
    go_wp2_with fail
    clear qe
    refine (HS.out).mono ?_
    rintro e2 w3 ⟨d, rfl, ht, hf, hz3, hkeep⟩
    have BV : Blk w3 vb 41 #[.int .i64 v0, .int .i64 v1, .string v2] := (hkeep vb hBVl hvgo).trans BV
    have hWr := Nat.le_trans hWr hz3
    clear hkeep
    cases d with
    | true =>
      have HT := Lib.hid (ht rfl)
      clear ht hf
      go_wp2
      go_roundw
      case rel => exact ⟨k + 1, by go_num, by omega, HT.out, BV, hWr⟩
      case measure => simp [intOf]; omega
    | false =>
      have HF := Lib.hid (hf rfl)
      clear ht hf
      go_wp2
      first | go_end0 | refine bodyPost_ret (results_none rfl _ _ _) rfl ?_
      exact ⟨rfl, HF.out⟩
end Go.Proofs.Ytnlmbjmgmofeiaa.ix
