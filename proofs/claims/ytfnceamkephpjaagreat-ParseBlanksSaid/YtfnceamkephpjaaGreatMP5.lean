/- Schema's speller: its words, read once. Printed by gen5.py. -/
import Derived.Test.YtfnceamkephpjaaGreatMP2
namespace Go.Proofs.YtfnceamkephpjaaGreat.pg
open Go.ChangeShapes Go.WideShapes Go.ChangeAt Go.RowKit Go.Proofs.YtfnceamkephpjaaGreat.lib Go.Proofs.YtfnceamkephpjaaGreat.lx
set_option linter.unusedVariables false

def wordsM : List (List UInt8 × Value) := reserved.map fun s => (s, .bool true)
theorem res_new : ∀ k, k < 41 → ∀ s, reserved[k]? = some s → (reserved.take k).find? (fun x => x == s) = none := by
  have h : (List.range 41).all (fun k => ((reserved.take k).find? (fun x => x == (reserved[k]?).getD [])).isNone) = true := by decide +kernel
  intro k hk s hs
  have := List.all_eq_true.1 h k (List.mem_range.2 hk)
  rw [hs] at this
  simpa using this
theorem map_find (l : List (List UInt8)) (s : List UInt8) : (l.map fun s => (s, Value.bool true)).find? (fun x => x.1 == s) = (l.find? (fun x => x == s)).map fun s => (s, Value.bool true) := by
  induction l with
  | nil => rfl
  | cons a l ih =>
    by_cases h : a = s
    · simp [h]
    · simp only [List.map_cons]
      rw [List.find?_cons_of_neg (by simpa using h), List.find?_cons_of_neg (by simpa using h), ih]
theorem zeroB (w : World) : (zeroValue 4).run Tryz.prog w = .ok (.bool false) w := by kernel_rfl
theorem words_look (l : List UInt8) : mlook wordsM l (.bool false) = (.bool (reserved.contains l), reserved.contains l) := by
  unfold mlook wordsM
  rw [map_find]
  cases h : reserved.find? (fun x => x == l) with
  | none =>
    have : reserved.contains l = false := by
      rw [Bool.eq_false_iff]
      intro hc
      rw [List.contains_iff_mem] at hc
      have := List.find?_eq_none.1 h l hc
      simp at this
    simp only [Option.map_none, this]
  | some y =>
    have hy := List.find?_some h
    have hm := List.mem_of_find?_eq_some h
    have : reserved.contains l = true := by
      rw [List.contains_iff_mem]
      have : y = l := by simpa using hy
      rwa [this] at hm
    simp only [Option.map_some, this]
theorem four {w : World} {g : Nat} {t : TypeId} {x0 x1 x2 x3 : Value} (h : Blk w g t #[x0, x1, x2, x3]) {w' : World} (hb : Below w.heap.size w w') :
    w'.cell? ⟨g, 0, none⟩ = some x0 ∧ w'.cell? ⟨g, 1, none⟩ = some x1 ∧ w'.cell? ⟨g, 2, none⟩ = some x2 ∧ w'.cell? ⟨g, 3, none⟩ = some x3 :=
  ⟨(h.ext hb).cell 0, (h.ext hb).cell 1, (h.ext hb).cell 2, (h.ext hb).cell 3⟩
set_option maxRecDepth 1000000 in
theorem language_ (w : World) : Calls Tryz.prog 100 #[] w fun e w' => ∃ g, e = .returned (.slice (some ⟨g, 0, none⟩) 41 41) ∧ w.heap.size ≤ g ∧ Row w' 0 (some ⟨g, 0, none⟩) 41 41 (reserved.map fun s => Value.string ⟨s.toArray⟩) ∧ Below w.heap.size w w' := by
  go_enter Tryz.func100, Tryz.ntmps100
  go_wp2
  go_ret
  exact ⟨_, rfl, Nat.le_refl _, Row.of_blk (Blk.new w _ _) (Nat.zero_le _) 41 41 (Nat.le_refl _), (Below.refl _ _).alloc (Nat.le_refl _) _⟩
set_option maxRecDepth 100000 in
theorem read_ {w : World} {q : Nat} {s : Int} (h : Blk w q 123 #[.int .u32 0, .int .i32 s, .int .u32 0, .map none]) :
    Calls Tryz.prog 91 #[.pointer (some ⟨q, 0, none⟩)] w fun e w' => ∃ m, e = .returned (.tuple #[]) ∧ Blk w' q 123 #[.int .u32 0, .int .i32 s, .int .u32 0, .map (some m)] ∧ MapAt w' m wordsM ∧ w.grownBy w' (some q) := by
  have hq := h.lt
  have hmm := @run_makeMap Tryz.prog
  have q1 := (four h ((Below.refl w.heap.size w).alloc (Nat.le_refl _) (.map #[] 0))).2.2.2
  have f3 := (h.ext ((Below.refl w.heap.size w).alloc (Nat.le_refl _) (.map #[] 0))).frozen 3
  have H := Lib.hid h
  clear h
  go_enter Tryz.func91, Tryz.ntmps91
  go_upto_region 1 with fail
  have hqm : q ≠ w.heap.size := by omega
  have H1 : Blk (w.setCell ⟨q, 3, none⟩ (.map (some w.heap.size))) q 123 #[.int .u32 0, .int .i32 s, .int .u32 0, .map (some w.heap.size)] := by simpa using H.out.set_ 3 (.map (some w.heap.size))
  have hg1 := grown_set w ⟨q, 3, none⟩ (.map (some w.heap.size))
  have HM1 := MapAt.new (w.setCell ⟨q, 3, none⟩ (.map (some w.heap.size)))
  have hz : (w.setCell ⟨q, 3, none⟩ (.map (some w.heap.size))).heap.size = w.heap.size := by simp [World.setCell]
  rw [hz] at HM1
  obtain ⟨m, hm⟩ : ∃ m, w.heap.size = m := ⟨_, rfl⟩
  rw [hm] at HM1 H1 hg1 hqm ⊢
  have hb1 := (Below.refl _ (w.setCell ⟨q, 3, none⟩ (.map (some m)))).alloc (Nat.le_refl _) (.map #[] 0)
  have H2 := H1.ext hb1
  have hg2 := hg1.trans (grown_of hb1 (some q))
  have HM2 := HM1
  generalize hw2 : (w.setCell ⟨q, 3, none⟩ (.map (some m))).alloc (.map #[] 0) = w2 at *
  have HW := Lib.hid (show w.heap.size ≤ m by omega)
  clear hw2 q1 f3 hmm hm hq H1 HM1 hg1 hb1 hz H
  go_wp2_with fail
  refine (language_ _).mono ?_
  rintro e w3 ⟨gl, rfl, hgl, hrow, hb3⟩
  have hml := HM2.lt
  have hql := H2.lt
  have HM3 := HM2.ext hb3
  have H3 := H2.ext hb3
  have hg3 := hg2.trans (grown_of hb3 (some q))
  have hne1 : gl ≠ m := by omega
  have hne2 : gl ≠ q := by omega
  clear HM2 H2 hb3 hgl hg2 hml hql
  go_wp2_with fail
  go_loopw [10] (fun i wr => ∃ k : Nat, i = .int .i64 k ∧ k ≤ 41 ∧ Blk wr q 123 #[.int .u32 0, .int .i32 s, .int .u32 0, .map (some m)] ∧ MapAt wr m ((reserved.take k).map fun s => (s, .bool true)) ∧ w3.grownBy wr (some m)) (fun i _ => 41 - (intOf i).toNat)
  case atStart => exact ⟨0, rfl, Nat.zero_le _, H3, HM3, World.grownBy.refl _ _⟩
  case round =>
    obtain ⟨k, rfl, hk, hB, hMk, hgk⟩ := hrel
    rcases Nat.lt_or_ge k 41 with hlt | hge
    case inr =>
      have hd : decide ((k : Int) < 41) = false := by simp; omega
      have e : reserved.take k = reserved := List.take_of_length_le (show reserved.length ≤ k from hge)
      rw [e] at hMk
      have HF := Lib.hid hMk
      have HB := Lib.hid hB
      have HG := Lib.hid (show w.grownBy wr (some q) from grown_new hg3 hgk HW.out)
      clear hge e hMk hB hgk
      go_wp2
      first | go_end0 | refine bodyPost_ret (results_none rfl _ _ _) rfl ?_
      exact ⟨m, rfl, HB.out, HF.out, HG.out⟩
    have hd : decide ((k : Int) < 41) = true := by simp; omega
    have hk41 : (k : Int) < 41 := by omega
    obtain ⟨r, hr⟩ : ∃ r, reserved[k]? = some r := ⟨_, List.getElem?_eq_getElem (show k < reserved.length from hlt)⟩
    have hc := (hrow.grown hgk (fun b off e => by injection e with e; injection e with e _; rw [← e]; simpa using hne1)).at_ (i := k) (u := .string ⟨r.toArray⟩) (by rw [List.getElem?_map, hr]; rfl)
    simp only [Nat.zero_add] at hc
    have hfind : ((reserved.take k).map fun s => (s, Value.bool true)).find? (fun x => x.1 == r) = none := by rw [map_find, res_new k hlt r hr]; rfl
    have ht : ((reserved.take (k + 1)).map fun s => (s, Value.bool true)) = ((reserved.take k).map fun s => (s, Value.bool true)) ++ [(r, .bool true)] := by rw [List.take_add_one, hr, Option.toList_some, List.map_append]; rfl
    have qb := four hB (Below.refl _ _)
    have HT := Lib.hid ht
    have HFD := Lib.hid hfind
    have HB := Lib.hid hB
    have HMK := Lib.hid hMk
    have HGK := Lib.hid hgk
    clear ht hr hfind hB hMk hgk
    go_wp2_with (at_mapUpdate; refine wpList_put_lit rfl _ _ _ 121 (.inr rfl) 9 4 Tryz.underlying121 Tryz.underlying9 m _ rfl HMK.out r (.bool true) rfl rfl HFD.out ?_; intro w4 hM4 hg4)
    have HM4 := Lib.hid (show MapAt w4 m ((reserved.take (k + 1)).map fun s => (s, .bool true)) by rw [HT.out]; exact hM4)
    have HB4 := Lib.hid (HB.out.grown hg4 (by simp; omega))
    have HG4 := Lib.hid (HGK.out.trans hg4)
    clear hM4 hg4 qb hc
    go_wp2
    go_roundw
    case rel => exact ⟨k + 1, by go_num, by omega, HB4.out, HM4.out, HG4.out⟩
    case measure => simp [intOf]; omega
end Go.Proofs.YtfnceamkephpjaaGreat.pg

/- Schema's speller: once. Printed by gen6.py. -/
namespace Go.Proofs.YtfnceamkephpjaaGreat.pg
open Go.ChangeShapes Go.WideShapes Go.ChangeAt Go.RowKit Go.Proofs.YtfnceamkephpjaaGreat.lib Go.Proofs.YtfnceamkephpjaaGreat.lx
set_option linter.unusedVariables false

set_option maxRecDepth 100000 in
set_option maxHeartbeats 1600000 in
theorem slow_ {w : World} {q : Nat} (h : Blk w q 123 #[.int .u32 0, .int .i32 0, .int .u32 0, .map none]) :
    Calls Tryz.prog 60 #[.pointer (some ⟨q, 0, none⟩), .func (.func 91) #[.pointer (some ⟨q, 0, none⟩)] #[]] w fun r w' => ∃ m, r = .returned (.tuple #[]) ∧ Blk w' q 123 #[.int .u32 1, .int .i32 0, .int .u32 0, .map (some m)] ∧ MapAt w' m wordsM ∧ w.grownBy w' (some q) := by
  have h1 : Blk (w.setCell ⟨q, 1, none⟩ (.int .i32 1)) q 123 #[.int .u32 0, .int .i32 1, .int .u32 0, .map none] := by simpa using h.set_ 1 (.int .i32 1)
  have hg1 := grown_set w ⟨q, 1, none⟩ (.int .i32 1)
  have hc := (four h (Below.refl _ _)).2.1
  have hf := h.frozen 1
  have hl := run_call_load (P := Tryz.prog) Tryz.func68 (by kernel_rfl) (by kernel_rfl) (by kernel_rfl) .u32 (by kernel_rfl) (w := w.setCell ⟨q, 1, none⟩ (.int .i32 1)) (a := ⟨q, 0, none⟩) (x := 0) (four h1 (Below.refl _ _)).1
  have hnot : ∀ (x : Bool) (w : World), (Op.unary .not (.bool x)).run Tryz.prog w = .ok (.bool (!x)) w := fun _ _ => rfl
  have H1 := Lib.hid h1
  have HG1 := Lib.hid hg1
  clear h h1 hg1
  go_enter_defers Tryz.func60, Tryz.ntmps60
  go_wp2_with (go_at_call 69; refine (lock_free ⟨q, 1, none⟩ _ hc hf).mono ?_; rintro e w' ⟨rfl, rfl⟩)
  go_wp2_with (first | (go_at_call 59; go_in) | (refine (read_ H1.out).mono ?_; rintro e w2 ⟨m, rfl, h2, hM2, hg2⟩) | go_in)
  have HG2 := Lib.hid (HG1.out.trans hg2)
  have q2 := four h2 (Below.refl _ _)
  have z0 := h2.frozen 0
  have B3 : Blk (w2.drew.setCell ⟨q, 0, none⟩ (.int .u32 1)) q 123 #[.int .u32 1, .int .i32 1, .int .u32 0, .map (some m)] := by simpa using (Blk.drew h2).set_ 0 (.int .u32 1)
  have B4 : Blk ((w2.drew.setCell ⟨q, 0, none⟩ (.int .u32 1)).setCell ⟨q, 1, none⟩ (.int .i32 0)) q 123 #[.int .u32 1, .int .i32 0, .int .u32 0, .map (some m)] := by simpa using B3.set_ 1 (.int .i32 0)
  have q3 := four B3 (Below.refl _ _)
  have z1 := B3.frozen 1
  have hne : some m ≠ some q := by
    intro e
    injection e with e
    exact hM2.notCells _ _ (by rw [e]; exact h2)
  have HM2 : MapAt w2.drew m wordsM := hM2
  have HM4 := (HM2.grown (grown_set _ ⟨q, 0, none⟩ (.int .u32 1)) hne).grown (grown_set _ ⟨q, 1, none⟩ (.int .i32 0)) hne
  have HG4 := ((HG2.out.trans (grown_of ((Below.refl _ w2).drew) _)).trans (grown_set _ ⟨q, 0, none⟩ (.int .u32 1))).trans (grown_set _ ⟨q, 1, none⟩ (.int .i32 0))
  refine leaves_cons (f := 71) (args := #[.pointer (some ⟨q, 0, none⟩), .bool true]) (by simp) (by simp [go_sem]) ?_
  refine (store_deferred ⟨q, 0, none⟩ (.int .u32 0) .returning _ q2.1 z0).mono ?_
  rintro e u' w'' ⟨rfl, rfl, rfl⟩
  refine leaves_cons (f := 70) (args := #[.pointer (some ⟨q, 1, none⟩)]) (by simp [settle]) (by simp [go_sem]) ?_
  refine (unlock_deferred ⟨q, 1, none⟩ _ _ q3.2.1 z1).mono ?_
  rintro e u' w'' ⟨rfl, rfl, rfl⟩
  have R := Lib.hid (show ∃ m, Ending.returned (.tuple #[]) = .returned (.tuple #[]) ∧ Blk ((w2.drew.setCell ⟨q, 0, none⟩ (.int .u32 1)).setCell ⟨q, 1, none⟩ (.int .i32 0)) q 123 #[.int .u32 1, .int .i32 0, .int .u32 0, .map (some m)] ∧ MapAt ((w2.drew.setCell ⟨q, 0, none⟩ (.int .u32 1)).setCell ⟨q, 1, none⟩ (.int .i32 0)) m wordsM ∧ w.grownBy ((w2.drew.setCell ⟨q, 0, none⟩ (.int .u32 1)).setCell ⟨q, 1, none⟩ (.int .i32 0)) (some q) from ⟨m, rfl, B4, HM4, HG4⟩)
  simp only [Leaves, settle, results, Tryz.results60]
  exact ⟨.tuple #[], by first | rfl | simp, R.out⟩
set_option maxRecDepth 100000 in
set_option maxHeartbeats 1600000 in
theorem once_ {w : World} {q : Nat} (h : Blk w q 123 #[.int .u32 0, .int .i32 0, .int .u32 0, .map none]) :
    Calls Tryz.prog 36 #[.pointer (some ⟨q, 0, none⟩), .func (.func 91) #[.pointer (some ⟨q, 0, none⟩)] #[]] w fun r w' => ∃ m, r = .returned (.tuple #[]) ∧ Blk w' q 123 #[.int .u32 1, .int .i32 0, .int .u32 0, .map (some m)] ∧ MapAt w' m wordsM ∧ w.grownBy w' (some q) := by
  have H := Lib.hid h
  have hl := run_call_load (P := Tryz.prog) Tryz.func68 (by kernel_rfl) (by kernel_rfl) (by kernel_rfl) .u32 (by kernel_rfl) (w := w) (a := ⟨q, 0, none⟩) (x := 0) (four h (Below.refl _ _)).1
  have hnot : ∀ (x : Bool) (w : World), (Op.unary .not (.bool x)).run Tryz.prog w = .ok (.bool (!x)) w := fun _ _ => rfl
  clear h
  go_enter Tryz.func36, Tryz.ntmps36
  go_wp2_with (first | (go_at_call 60; refine (slow_ H.out).mono ?_; rintro e w2 ⟨m, rfl, h2, hM2, hg2⟩) | (go_at_call 59; go_in))
  have R := Lib.hid (And.intro h2 (And.intro hM2 hg2))
  clear h2 hM2 hg2
  go_wp2
  first | go_end0 | refine bodyPost_ret (results_none rfl _ _ _) rfl ?_
  exact ⟨m, rfl, R.out.1, R.out.2.1, R.out.2.2⟩
set_option maxRecDepth 100000 in
set_option maxHeartbeats 1600000 in
theorem again_ {w : World} {q m : Nat} (h : Blk w q 123 #[.int .u32 1, .int .i32 0, .int .u32 0, .map (some m)]) :
    Calls Tryz.prog 36 #[.pointer (some ⟨q, 0, none⟩), .func (.func 91) #[.pointer (some ⟨q, 0, none⟩)] #[]] w fun r w' => r = .returned (.tuple #[]) ∧ w = w' := by
  have hl := run_call_load (P := Tryz.prog) Tryz.func68 (by kernel_rfl) (by kernel_rfl) (by kernel_rfl) .u32 (by kernel_rfl) (w := w) (a := ⟨q, 0, none⟩) (x := 1) (four h (Below.refl _ _)).1
  have hnot : ∀ (x : Bool) (w : World), (Op.unary .not (.bool x)).run Tryz.prog w = .ok (.bool (!x)) w := fun _ _ => rfl
  clear h
  go_enter Tryz.func36, Tryz.ntmps36
  go_wp2_with (go_at_call 59; go_in)
  first | go_end0 | refine bodyPost_ret (results_none rfl _ _ _) rfl ?_
  exact ⟨rfl, rfl⟩
end Go.Proofs.YtfnceamkephpjaaGreat.pg

/- Schema's speller: name. Printed by gen7.py. -/
namespace Go.Proofs.YtfnceamkephpjaaGreat.pg
open Go.ChangeShapes Go.WideShapes Go.ChangeAt Go.RowKit Go.Proofs.YtfnceamkephpjaaGreat.lib Go.Proofs.YtfnceamkephpjaaGreat.lx
set_option linter.unusedVariables false

/-- a string's bytes -/
structure StrB (s : ByteArray) (l : List UInt8) : Prop where
  eq : s = ⟨l.toArray⟩
theorem StrB.size {s : ByteArray} {l : List UInt8} (h : StrB s l) : s.size = l.length := by rw [h.eq]; exact size_mk l
theorem StrB.get {s : ByteArray} {l : List UInt8} (h : StrB s l) (k : Nat) (hk : k < s.size) (hl : k < l.length) : s[k] = l[k] := by
  obtain ⟨rfl⟩ := h
  rfl
theorem nameOk_no {l : List UInt8} (k : Nat) (hk : k < l.length) (h : nameB l[k] = false) : nameOk l = false := by
  unfold nameOk
  have : l.all nameB = false := by
    rw [Bool.eq_false_iff]
    intro h2
    rw [List.all_eq_true] at h2
    have := h2 l[k] (List.getElem_mem hk)
    rw [h] at this
    cases this
  rw [this]
  simp
/-- the speller: fresh, or its words are read -/
def Sp (w : World) (q : Nat) : Prop := Blk w q 123 #[.int .u32 0, .int .i32 0, .int .u32 0, .map none] ∨ ∃ m, Blk w q 123 #[.int .u32 1, .int .i32 0, .int .u32 0, .map (some m)] ∧ MapAt w m wordsM
theorem Sp.lt {w : World} {q : Nat} (h : Sp w q) : q < w.heap.size := by
  rcases h with h | ⟨m, h, _⟩
  · exact h.lt
  · exact h.lt
theorem Sp.ext {w w' : World} {q : Nat} (h : Sp w q) (hb : Below w.heap.size w w') : Sp w' q := by
  rcases h with h | ⟨m, h, hM⟩
  · exact .inl (h.ext hb)
  · exact .inr ⟨m, h.ext hb, hM.ext hb⟩
set_option maxRecDepth 100000 in
theorem do_ {w : World} {q : Nat} (h : Sp w q) :
    Calls Tryz.prog 36 #[.pointer (some ⟨q, 0, none⟩), .func (.func 91) #[.pointer (some ⟨q, 0, none⟩)] #[]] w fun r w' => ∃ m, r = .returned (.tuple #[]) ∧ Blk w' q 123 #[.int .u32 1, .int .i32 0, .int .u32 0, .map (some m)] ∧ MapAt w' m wordsM ∧ w.grownBy w' (some q) := by
  rcases h with h | ⟨m, h, hM⟩
  · exact once_ h
  · refine (again_ h).mono ?_
    rintro e w' ⟨rfl, rfl⟩
    exact ⟨m, rfl, h, hM, World.grownBy.refl _ _⟩
set_option maxRecDepth 1000000 in
set_option maxHeartbeats 4000000 in
theorem sname_ (l : List UInt8) (hl : l.length ≤ 1000) {w : World} {q : Nat} (h : Sp w q) :
    Calls Tryz.prog 81 #[.pointer (some ⟨q, 0, none⟩), .string ⟨l.toArray⟩] w fun e w' => e = .returned (.bool (nameOk l)) ∧ Sp w' q ∧ w.grownBy w' (some q) := by
  obtain ⟨s, hs⟩ : ∃ s : ByteArray, s = ⟨l.toArray⟩ := ⟨_, rfl⟩
  rw [← hs]
  have HS := Lib.hid (StrB.mk hs)
  have hz := HS.out.size
  have HZ := Lib.hid hz
  have HSP := Lib.hid h
  have hmf : ∀ (fn : Fn) (first cap : Array Value) (w : World), (Instr.makeFunc fn first cap).run Tryz.prog w = .ok (.func fn first cap) w := fun _ _ _ _ => rfl
  have hsb : s.size ≤ 1000 := by omega
  obtain ⟨ok, hok⟩ : ∃ b, nameOk l = b := ⟨_, rfl⟩
  rw [hok]
  have HOK := Lib.hid hok
  clear hs hz hok h
  go_enter Tryz.func81, Tryz.ntmps81
  rcases Nat.lt_or_ge s.size 1 with h1 | h1
  case inl =>
    have d1 : decide ((s.size : Int) < 1) = true := by simp; omega
    obtain rfl : ok = false := by rw [← HOK.out]; unfold nameOk; rw [decide_eq_false (show ¬ 1 ≤ l.length by have := HZ.out; omega)]; rfl
    clear h1
    go_wp2
    go_ret
    exact ⟨rfl, HSP.out, World.grownBy.refl _ _⟩
  have d1 : decide ((s.size : Int) < 1) = false := by simp; omega
  rcases Nat.lt_or_ge 12 s.size with h2 | h2
  case inl =>
    have d2 : decide ((12 : Int) < (s.size : Int)) = true := by simp; omega
    obtain rfl : ok = false := by rw [← HOK.out]; unfold nameOk; rw [decide_eq_false (show ¬ l.length ≤ 12 by have := HZ.out; omega)]; simp
    clear h2
    go_wp2
    go_ret
    exact ⟨rfl, HSP.out, World.grownBy.refl _ _⟩
  have d2 : decide ((12 : Int) < (s.size : Int)) = false := by simp; omega
  have h0 : (0 : Int) < (s.size : Int) := by omega
  have h00 : 0 < s.size := by omega
  have hl0 : 0 < l.length := by have := HZ.out; omega
  have hg0 := HS.out.get 0 h00 hl0
  obtain ⟨c, hc⟩ : ∃ c, (s[0]'h00).toNat = c := ⟨_, rfl⟩
  have HC := Lib.hid (show (l.headD 0).toNat = c by
    have : l.headD 0 = l[0] := by
      cases l with
      | nil => simp at hl0
      | cons a t => rfl
    rw [this, ← hg0]; exact hc)
  clear hg0
  rcases Nat.lt_or_ge c 97 with h3 | h3
  case inl =>
    have a1 : decide ((c : Int) < 97) = true := by simp; omega
    obtain rfl : ok = false := by
      rw [← HOK.out]; unfold nameOk letB
      rw [HC.out, decide_eq_false (show ¬ 97 ≤ c by omega)]; simp
    clear h3
    go_wp2
    go_ret
    exact ⟨rfl, HSP.out, World.grownBy.refl _ _⟩
  have a1 : decide ((c : Int) < 97) = false := by simp; omega
  rcases Nat.lt_or_ge 122 c with h4 | h4
  case inl =>
    have a2 : decide ((122 : Int) < (c : Int)) = true := by simp; omega
    obtain rfl : ok = false := by
      rw [← HOK.out]; unfold nameOk letB
      rw [HC.out, decide_eq_false (show ¬ c ≤ 122 by omega)]; simp
    clear h4
    go_wp2
    go_ret
    exact ⟨rfl, HSP.out, World.grownBy.refl _ _⟩
  have a2 : decide ((122 : Int) < (c : Int)) = false := by simp; omega
  have HL := Lib.hid (show letB (l.headD 0) = true by unfold letB; rw [HC.out]; simp; omega)
  go_wp2_with fail
  clear a1 a2 d1 d2 h0 hc h3 h4 HC
  go_loopw [27] (fun i w' => ∃ k : Nat, i = .int .i64 k ∧ k ≤ s.size ∧ Hid (∀ j (hj : j < l.length), j < k → nameB l[j] = true) ∧ w' = w) (fun i _ => s.size - (intOf i).toNat)
  case atStart => exact ⟨0, rfl, Nat.zero_le _, Lib.hid (fun j hj h => by omega), rfl⟩
  case round =>
    obtain ⟨k, rfl, hk, HNO, rfl⟩ := hrel
    rcases Nat.lt_or_ge k s.size with hlt | hge
    case inl =>
      have hd : decide (k < s.size) = true := by simp; omega
      have hd2 : decide ((k : Int) < (s.size : Int)) = true := by simp; omega
      have hl2 : k < l.length := by rw [← HZ.out]; exact hlt
      have hg := HS.out.get k hlt hl2
      obtain ⟨c, hc⟩ : ∃ c, (s[k]'hlt).toNat = c := ⟨_, rfl⟩
      have HC := Lib.hid (show l[k].toNat = c by rw [← hg]; exact hc)
      clear hg
      rcases Nat.lt_or_ge c 97 with h1 | h1
      case inr =>
        rcases Nat.lt_or_ge 122 c with h2 | h2
        case inr =>
          have a1 : decide ((c : Int) < 97) = false := by simp; omega
          have a2 : decide ((122 : Int) < (c : Int)) = false := by simp; omega
          have HOKK := Lib.hid (show nameB l[k] = true by
            unfold nameB letB
            rw [HC.out]
            simp
            omega)
          clear h1 h2
          go_wp2
          go_roundw
          case rel => exact ⟨k + 1, by go_num, by omega, Lib.hid (fun j hj h => by
            by_cases hjk : j = k
            · subst hjk; exact HOKK.out
            · exact HNO.out j hj (by omega)), by trivial⟩
          case measure => simp [intOf]; omega
        have a1 : decide ((c : Int) < 97) = false := by simp; omega
        have a2 : decide ((122 : Int) < (c : Int)) = true := by simp; omega
        have a4 : decide ((c : Int) < 48) = false := by simp; omega
        have a5 : decide ((57 : Int) < (c : Int)) = true := by simp; omega
        have a6 : ((c : Int) != 95) = true := by simp; omega
        have HNN := Lib.hid (show nameB l[k] = false by
          unfold nameB letB digB
          have e : (l[k] == 95) = false := by rw [beq_eq_false_iff_ne]; intro e; have := congrArg UInt8.toNat e; rw [HC.out] at this; simp at this; omega
          rw [HC.out, e]
          simp
          omega)
        obtain rfl : ok = false := by rw [← HOK.out]; exact nameOk_no k hl2 HNN.out
        clear h1 h2
        go_wp2
        go_ret
        exact ⟨rfl, HSP.out, World.grownBy.refl _ _⟩
      have a1 : decide ((c : Int) < 97) = true := by simp; omega
      rcases Nat.lt_or_ge c 48 with h3 | h3
      case inl =>
        have a4 : decide ((c : Int) < 48) = true := by simp; omega
        have a6 : ((c : Int) != 95) = true := by simp; omega
        have HNN := Lib.hid (show nameB l[k] = false by
          unfold nameB letB digB
          have e : (l[k] == 95) = false := by rw [beq_eq_false_iff_ne]; intro e; have := congrArg UInt8.toNat e; rw [HC.out] at this; simp at this; omega
          rw [HC.out, e]
          simp
          omega)
        obtain rfl : ok = false := by rw [← HOK.out]; exact nameOk_no k hl2 HNN.out
        clear h1 h3
        go_wp2
        go_ret
        exact ⟨rfl, HSP.out, World.grownBy.refl _ _⟩
      have a4 : decide ((c : Int) < 48) = false := by simp; omega
      rcases Nat.lt_or_ge 57 c with h5 | h5
      case inr =>
        have a5 : decide ((57 : Int) < (c : Int)) = false := by simp; omega
        have HOKK := Lib.hid (show nameB l[k] = true by
          unfold nameB letB digB
          rw [HC.out]
          simp
          omega)
        clear h1 h3 h5
        go_wp2
        go_roundw
        case rel => exact ⟨k + 1, by go_num, by omega, Lib.hid (fun j hj h => by
          by_cases hjk : j = k
          · subst hjk; exact HOKK.out
          · exact HNO.out j hj (by omega)), by trivial⟩
        case measure => simp [intOf]; omega
      have a5 : decide ((57 : Int) < (c : Int)) = true := by simp; omega
      by_cases h9 : c = 95
      · have a6 : ((c : Int) != 95) = false := by subst h9; rfl
        have HOKK := Lib.hid (show nameB l[k] = true by
          unfold nameB
          have e : (l[k] == 95) = true := by rw [beq_iff_eq]; exact UInt8.toNat_inj.1 (by rw [HC.out, h9]; rfl)
          rw [e]
          simp)
        clear h1 h3 h5 h9
        go_wp2
        go_roundw
        case rel => exact ⟨k + 1, by go_num, by omega, Lib.hid (fun j hj h => by
          by_cases hjk : j = k
          · subst hjk; exact HOKK.out
          · exact HNO.out j hj (by omega)), by trivial⟩
        case measure => simp [intOf]; omega
      have a6 : ((c : Int) != 95) = true := by simp; omega
      have HNN := Lib.hid (show nameB l[k] = false by
        unfold nameB letB digB
        have e : (l[k] == 95) = false := by rw [beq_eq_false_iff_ne]; intro e; have := congrArg UInt8.toNat e; rw [HC.out] at this; simp at this; omega
        rw [HC.out, e]
        simp
        omega)
      obtain rfl : ok = false := by rw [← HOK.out]; exact nameOk_no k hl2 HNN.out
      clear h1 h3 h5 h9
      go_wp2
      go_ret
      exact ⟨rfl, HSP.out, World.grownBy.refl _ _⟩
    have hd : decide (k < s.size) = false := by simp; omega
    have hd2 : decide ((k : Int) < (s.size : Int)) = false := by simp; omega
    have HALL := Lib.hid (show l.all nameB = true by
      rw [List.all_eq_true]
      intro x hx
      obtain ⟨j, hj, rfl⟩ := List.getElem_of_mem hx
      exact HNO.out j hj (by have := HZ.out; omega))
    have HN := Lib.hid (show nameOk l = !(reserved.contains l) by
      unfold nameOk
      rw [HALL.out, HL.out, decide_eq_true (show 1 ≤ l.length by omega), decide_eq_true (show l.length ≤ 12 by have := HZ.out; omega)]
      simp)
    obtain ⟨cb, hcb⟩ : ∃ cb, reserved.contains l = cb := ⟨_, rfl⟩
    obtain rfl : ok = !cb := by rw [← HOK.out, HN.out, hcb]
    have HCB := Lib.hid hcb
    clear HNO hge hcb
    go_wp2_with fail
    refine (do_ HSP.out).mono ?_
    rintro e w1 ⟨m, rfl, hB1, hM1, hg1⟩
    have q1 := four hB1 (Below.refl _ _)
    have HM1 := Lib.hid hM1
    have HR := Lib.hid (And.intro (show Sp w1 q from .inr ⟨m, hB1, hM1⟩) hg1)
    clear hB1 hM1 hg1
    go_wp2_with (at_lookup; refine wpList_look_lit rfl _ _ 121 false rfl 9 4 Tryz.underlying121 Tryz.underlying9 (.bool false) zeroB m wordsM rfl HM1.out l s HS.out.eq rfl ?_; rw [words_look, HCB.out])
    go_ret
    exact ⟨rfl, HR.out.1, HR.out.2⟩
end Go.Proofs.YtfnceamkephpjaaGreat.pg
