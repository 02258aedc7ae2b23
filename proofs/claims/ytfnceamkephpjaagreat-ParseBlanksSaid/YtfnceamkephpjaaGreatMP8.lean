/- schema.Find. Printed by gen8.py. -/
import Derived.Test.YtfnceamkephpjaaGreatMP5
import Derived.Lib.MinMax
namespace Go.Proofs.YtfnceamkephpjaaGreat.pg
open Go.ChangeShapes Go.WideShapes Go.ChangeAt Go.RowKit Go.Proofs.YtfnceamkephpjaaGreat.lib Go.Proofs.YtfnceamkephpjaaGreat.lx
set_option linter.unusedVariables false

/-- a column -/
structure Cl where
  nm : List UInt8
  k : Int
  nul : Bool
def encC (x : Cl) : List Value := [.string ⟨x.nm.toArray⟩, .int .i64 x.k, .bool x.nul]
theorem kC (x : Cl) : (encC x).length = 3 := rfl
/-- a column's number -/
def idxC (cols : List Cl) (nm : List UInt8) : Int := match cols.findIdx? (fun x => x.nm == nm) with
  | some i => (i : Int)
  | none => -1
def findC (cols : List Cl) (nm : List UInt8) : Int × Bool := match cols.findIdx? (fun x => x.nm == nm) with
  | some i => ((i : Int), true)
  | none => (0, false)
theorem idx_none {cols : List Cl} {nm : List UInt8} (h : ∀ j (hj : j < cols.length), cols[j].nm ≠ nm) : idxC cols nm = -1 := by
  unfold idxC
  have : cols.findIdx? (fun x => x.nm == nm) = none := by
    rw [List.findIdx?_eq_none_iff]
    intro x hx
    obtain ⟨j, hj, rfl⟩ := List.getElem_of_mem hx
    simpa using h j hj
  rw [this]
theorem idx_some {cols : List Cl} {nm : List UInt8} {k : Nat} {x : Cl} (hx : cols[k]? = some x) (hn : x.nm = nm) (h : ∀ j (hj : j < cols.length), j < k → cols[j].nm ≠ nm) : idxC cols nm = k := by
  unfold idxC
  obtain ⟨hk, e⟩ := List.getElem?_eq_some_iff.1 hx
  have : cols.findIdx? (fun x => x.nm == nm) = some k := by
    rw [List.findIdx?_eq_some_iff_getElem]
    refine ⟨hk, by rw [e]; simpa using hn, fun j hj => ?_⟩
    simpa using h j (by omega) hj
  rw [this]
set_option maxRecDepth 100000 in
theorem index_ (nm : List UInt8) (cols : List Cl) (A : Option Addr) (c px : Nat) {w : World} (hp : w.cell? ⟨px, 0, none⟩ = some (.string ⟨nm.toArray⟩)) (hpl : px < w.heap.size) (hr : Row w 0 A cols.length c (flatK encC cols)) (hl : cols.length ≤ 1000) :
    Calls Tryz.prog 64 #[.slice A cols.length c, .func (.func 65) #[] #[.pointer (some ⟨px, 0, none⟩)]] w fun e w' => e = .returned (.int .i64 (idxC cols nm)) ∧ Below w.heap.size w w' := by
  obtain ⟨n, hn⟩ : ∃ n, cols.length = n := ⟨_, rfl⟩
  obtain ⟨R, hR⟩ : ∃ R, idxC cols nm = R := ⟨_, rfl⟩
  rw [hR]
  have HR := Lib.hid hR
  have HN := Lib.hid hn
  have HRW := Lib.hid hr
  have HP := Lib.hid hp
  rw [hn] at hl ⊢
  clear hR hn hr hp
  go_enter Tryz.func64, Tryz.ntmps64
  go_wp2_with fail
  go_loopw [8] (fun i wr => ∃ k : Nat, i = .int .i64 k ∧ k ≤ n ∧ Hid (∀ j (hj : j < cols.length), j < k → cols[j].nm ≠ nm) ∧ Below w.heap.size w wr) (fun i _ => n - (intOf i).toNat)
  case atStart => exact ⟨0, rfl, Nat.zero_le _, Lib.hid (fun j hj h => by omega), Below.refl _ _⟩
  case round =>
    obtain ⟨k, rfl, hk, HNO, hb⟩ := hrel
    have HB := Lib.hid hb
    rcases Nat.lt_or_ge k n with hlt | hge
    case inr =>
      have hd : decide ((k : Int) < (n : Int)) = false := by simp; omega
      have hd2 : decide (k < n) = false := by simp; omega
      obtain rfl : R = -1 := by rw [← HR.out]; exact idx_none (fun j hj => HNO.out j hj (by have := HN.out; omega))
      clear hge hb
      go_wp2
      go_ret
      exact ⟨rfl, HB.out⟩
    have hd : decide ((k : Int) < (n : Int)) = true := by simp; omega
    have hd2 : decide (k < n) = true := by simp; omega
    have hkm : (k : Int) < (n : Int) := by omega
    obtain ⟨x, hx⟩ : ∃ x, cols[k]? = some x := ⟨_, List.getElem?_eq_getElem (by have := HN.out; omega)⟩
    obtain ⟨b, off, rfl, _, _, hbl⟩ := HRW.out.some_ (by have := HN.out; omega)
    have hrow := HRW.out.ext hb
    have key : ∀ (j : Nat) u, (encC x)[j]? = some u → wr.cell? ⟨b, off + k * 3 + j, none⟩ = some u := fun j u hu => by
      rw [Nat.add_assoc]
      exact hrow.at_ (flatK_at encC 3 kC cols k x j u hx hu)
    have c0 := key 0 _ rfl
    have c1 := key 1 _ rfl
    have c2 := key 2 _ rfl
    simp only [Nat.add_zero] at c0
    have cp : wr.cell? ⟨px, 0, none⟩ = some (.string ⟨nm.toArray⟩) := (hb.cell (by exact hpl)).trans HP.out
    have hpr : px < wr.heap.size := Nat.lt_of_lt_of_le hpl hb.size
    have HX := Lib.hid hx
    clear hx hrow key hb
    by_cases he : x.nm = nm
    case pos =>
      have hst : (x.nm.toArray == nm.toArray) = true := by simpa using he
      have hsl : (x.nm == nm) = true := by simpa using he
      obtain rfl : R = (k : Int) := by rw [← HR.out]; exact idx_some HX.out he HNO.out
      subst he
      clear hst hsl
      go_wp2
      go_ret
      exact ⟨rfl, HB.out.alloc HB.out.size _⟩
    have hst : (x.nm.toArray == nm.toArray) = false := by simpa using he
    have hsl : (x.nm == nm) = false := by simpa using he
    have HE := Lib.hid he
    clear he
    go_wp2
    go_roundw
    case rel => exact ⟨k + 1, by go_num, by omega, Lib.hid (fun j hj h => by
      by_cases hjk : j = k
      · subst hjk
        obtain ⟨_, e⟩ := List.getElem?_eq_some_iff.1 HX.out
        rw [e]; exact HE.out
      · exact HNO.out j hj (by omega)), HB.out.alloc HB.out.size _⟩
    case measure => simp [intOf]; omega
theorem find_idx (cols : List Cl) (nm : List UInt8) : findC cols nm = (max (idxC cols nm) 0, decide (0 ≤ idxC cols nm)) := by
  unfold findC idxC
  split
  · next i h =>
    have : (0 : Int) ≤ (i : Int) := Int.natCast_nonneg i
    simp
  · rfl
theorem idx_bd (cols : List Cl) (nm : List UInt8) (h : cols.length ≤ 1000) : -1 ≤ idxC cols nm ∧ idxC cols nm ≤ 1000 := by
  unfold idxC
  split
  · next i hi =>
    have := List.findIdx?_eq_some_iff_getElem.1 hi
    obtain ⟨h1, _⟩ := this
    omega
  · omega
set_option maxRecDepth 100000 in
theorem find_ (nm tn : List UInt8) (cols : List Cl) (A : Option Addr) (c : Nat) (key : Int) (only : Bool) {w : World} (hr : Row w 0 A cols.length c (flatK encC cols)) (hl : cols.length ≤ 1000) :
    Calls Tryz.prog 49 #[.agg #[.string ⟨tn.toArray⟩, .slice A cols.length c, .int .i64 key, .bool only], .string ⟨nm.toArray⟩] w fun e w' => e = .returned (.tuple #[.int .i64 (findC cols nm).1, .bool (findC cols nm).2]) ∧ Below w.heap.size w w' := by
  have HRW := Lib.hid hr
  obtain ⟨n, hn⟩ : ∃ n, cols.length = n := ⟨_, rfl⟩
  have hbd := idx_bd cols nm hl
  have HI := Lib.hid (fun (w' : World) (px : Nat) (h1 : w'.cell? ⟨px, 0, none⟩ = some (.string ⟨nm.toArray⟩)) (h2 : px < w'.heap.size) (h3 : Row w' 0 A cols.length c (flatK encC cols)) => index_ nm cols A c px h1 h2 h3 hl)
  have HFI := find_idx cols nm
  obtain ⟨R, hR⟩ : ∃ R, idxC cols nm = R := ⟨_, rfl⟩
  have HI := HI.out
  rw [hR] at HFI hbd HI
  rw [hn] at HI ⊢
  rw [HFI]
  have HI := Lib.hid HI
  have HN := Lib.hid hn
  have hmf : ∀ (fn : Fn) (first cap : Array Value) (w : World), (Instr.makeFunc fn first cap).run Tryz.prog w = .ok (.func fn first cap) w := fun _ _ _ _ => rfl
  clear hR hn hr HFI
  go_enter Tryz.func49, Tryz.ntmps49
  go_upto_region 1 with fail
  obtain ⟨W1, hW_, hb1, BS, BP⟩ : ∃ W_, W_ = ((w.alloc (.cells #[.string ⟨tn.toArray⟩, .slice A n c, .int .i64 key, .bool only] 28)).alloc (.cells #[.string ⟨nm.toArray⟩] 9)) ∧ Below w.heap.size w W_ ∧ Blk W_ (w.heap.size) 28 #[.string ⟨tn.toArray⟩, .slice A n c, .int .i64 key, .bool only] ∧ Blk W_ (w.heap.size + 1) 9 #[.string ⟨nm.toArray⟩] :=
    ⟨_, rfl, (((Below.refl _ _).alloc (Nat.le_refl _) _).alloc (by simp; try omega) _), ((blk_new_at w (w.heap.size) _ _ (by simp)).alloc _), (blk_new_at (w.alloc (.cells #[.string ⟨tn.toArray⟩, .slice A n c, .int .i64 key, .bool only] 28)) (w.heap.size + 1) _ _ (by simp))⟩
  rw [← hW_]
  clear hW_
  have hrow := HRW.out.ext hb1
  rw [HN.out] at hrow
  have q1 := (four BS (Below.refl _ _)).2.1
  have HC := Lib.hid (HI.out W1 _ (BP.cell 0) BP.lt hrow)
  have HB1 := Lib.hid hb1
  clear BS BP hrow hb1
  go_wp2_with fail
  refine (HC.out).mono ?_
  rintro e w2 ⟨rfl, hb2⟩
  have HB2 := Lib.hid (bch0 HB1.out hb2)
  clear hb2 q1
  go_wp2
  exact bodyPost_ret (v := .tuple #[.int .i64 (max R 0), .bool (decide (0 ≤ R))]) (by simp [results, Tryz.results49, go_sem]; try rfl) rfl ⟨rfl, HB2.out⟩
end Go.Proofs.YtfnceamkephpjaaGreat.pg

/- isName: schema.Check of a schema with one column. Printed by gen9.py. -/
namespace Go.Proofs.YtfnceamkephpjaaGreat.pg
open Go.ChangeShapes Go.WideShapes Go.ChangeAt Go.RowKit Go.Proofs.YtfnceamkephpjaaGreat.lib Go.Proofs.YtfnceamkephpjaaGreat.lx
set_option linter.unusedVariables false

def colA : Cl := ⟨[97], 2, false⟩
theorem okA : nameOk [97] = true := by decide +kernel
set_option maxRecDepth 1000000 in
set_option maxHeartbeats 4000000 in
theorem check_ (l : List UInt8) (hl : l.length ≤ 1000) (bc c : Nat) {w : World} (hc : Blk w bc 85 #[.string ⟨#[97]⟩, .int .i64 2, .bool false]) (hcc : 1 ≤ c) :
    Calls Tryz.prog 74 #[.agg #[.string ⟨l.toArray⟩, .slice (some ⟨bc, 0, none⟩) 1 c, .int .i64 0, .bool false]] w fun e w' => e = .returned (.int .i64 (if nameOk l = true then 0 else 12)) ∧ Below w.heap.size w w' := by
  obtain ⟨ok, hok⟩ : ∃ ok, nameOk l = ok := ⟨_, rfl⟩
  rw [hok]
  have HOK := Lib.hid hok
  have HC := Lib.hid hc
  clear hok hc
  go_enter Tryz.func74, Tryz.ntmps74
  go_upto_region 2 with fail
  obtain ⟨W1, hW_, hb1, BS, BP⟩ : ∃ W_, W_ = ((w.alloc (.cells #[.string ⟨l.toArray⟩, .slice (some ⟨bc, 0, none⟩) 1 c, .int .i64 0, .bool false] 28)).alloc (.cells #[.int .u32 0, .int .i32 0, .int .u32 0, .map none] 123)) ∧ Below w.heap.size w W_ ∧ Blk W_ (w.heap.size) 28 #[.string ⟨l.toArray⟩, .slice (some ⟨bc, 0, none⟩) 1 c, .int .i64 0, .bool false] ∧ Blk W_ (w.heap.size + 1) 123 #[.int .u32 0, .int .i32 0, .int .u32 0, .map none] :=
    ⟨_, rfl, (((Below.refl _ _).alloc (Nat.le_refl _) _).alloc (by simp; try omega) _), ((blk_new_at w (w.heap.size) _ _ (by simp)).alloc _), (blk_new_at (w.alloc (.cells #[.string ⟨l.toArray⟩, .slice (some ⟨bc, 0, none⟩) 1 c, .int .i64 0, .bool false] 28)) (w.heap.size + 1) _ _ (by simp))⟩
  rw [← hW_]
  clear hW_
  have qs := four BS (Below.refl _ _)
  have HSP := Lib.hid (sname_ l hl (show Sp W1 (w.heap.size + 1) from .inl BP))
  have HBS := Lib.hid BS
  have HC1 := Lib.hid (HC.out.ext hb1)
  have HB1 := Lib.hid hb1
  have hsz := BP.lt
  have hbc : bc < w.heap.size := HC.out.lt
  clear BS BP hb1
  go_wp2_with fail
  refine (HSP.out).mono ?_
  rw [HOK.out]
  rintro e w2 ⟨rfl, hsp, hg2⟩
  have BS2 := HBS.out.grown hg2 (by simp)
  have HC2 := Lib.hid (HC1.out.grown hg2 (by simp; omega))
  have HB2 := Lib.hid (HB1.out.grown hg2 (by omega) (by simp))
  clear qs
  have qs := four BS2 (Below.refl _ _)
  have HBS2 := Lib.hid BS2
  have HSP2 := Lib.hid hsp
  have hsz2 : w.heap.size + 1 < w2.heap.size := hsp.lt
  clear BS2 hsp hg2
  cases ok with
  | false =>
    go_wp2
    go_ret
    exact ⟨rfl, HB2.out⟩
  | true =>
    go_wp2_with fail
    go_loopw [25] (fun i wr => (i = .int .i64 0 ∧ w2 = wr) ∨ (i = .int .i64 1 ∧ Below w.heap.size w wr ∧ Blk wr w.heap.size 28 #[.string ⟨l.toArray⟩, .slice (some ⟨bc, 0, none⟩) 1 c, .int .i64 0, .bool false] ∧ Blk wr bc 85 #[.string ⟨#[97]⟩, .int .i64 2, .bool false])) (fun i _ => 1 - (intOf i).toNat)
    case atStart => exact .inl ⟨rfl, rfl⟩
    case round =>
      rcases hrel with ⟨rfl, rfl⟩ | ⟨rfl, hb, hs, hcl⟩
      · have qc := HC2.out.three (Below.refl _ _)
        go_upto_region 9 with fail
        obtain ⟨W4, hW_, hb4, BC⟩ : ∃ W_, W_ = (w2.alloc (.cells #[.string ⟨#[97]⟩, .int .i64 2, .bool false] 85)) ∧ Below w2.heap.size w2 W_ ∧ Blk W_ (w2.heap.size) 85 #[.string ⟨#[97]⟩, .int .i64 2, .bool false] :=
          ⟨_, rfl, ((Below.refl _ _).alloc (Nat.le_refl _) _), (blk_new_at w2 (w2.heap.size) _ _ (by simp))⟩
        rw [← hW_]
        clear hW_
        have HB4 := Lib.hid (Below.trans HB2.out (Below.mono hb4 HB2.out.size))
        have BS4 := HBS2.out.ext hb4
        have HC4 := Lib.hid (HC2.out.ext hb4)
        have HSP4 := Lib.hid (HSP2.out.ext hb4)
        have hrow : Row W4 0 (some ⟨bc, 0, none⟩) [colA].length c (flatK encC [colA]) := Row.of_blk HC4.out (Nat.zero_le _) 1 c hcc
        have HF := Lib.hid (find_ [97] l [colA] (some ⟨bc, 0, none⟩) c 0 false hrow (by decide))
        have qc := BC.three (Below.refl _ _)
        clear qs
        have qs := four BS4 (Below.refl _ _)
        have HBC := Lib.hid BC
        have HBS4 := Lib.hid BS4
        have hsz4 : w2.heap.size < W4.heap.size := BC.lt
        clear BC BS4 hrow hb4
        go_wp2_with fail
        refine (HF.out).mono ?_
        rintro e w5 ⟨rfl, hb5⟩
        have HB5 := Lib.hid (Below.trans HB4.out (Below.mono hb5 HB4.out.size))
        have BS5 := HBS4.out.ext hb5
        have BC5 := HBC.out.ext hb5
        have HC5 := Lib.hid (HC4.out.ext hb5)
        have HSP5 := Lib.hid (HSP4.out.ext hb5)
        have HSN := Lib.hid (sname_ [97] (by decide) HSP5.out)
        have HSN := HSN.out
        rw [okA] at HSN
        have HSN := Lib.hid HSN
        clear qs qc
        have qs := four BS5 (Below.refl _ _)
        have qc := BC5.three (Below.refl _ _)
        have hsz5 : w2.heap.size < w5.heap.size := BC5.lt
        have HBS5 := Lib.hid BS5
        have HBC5 := Lib.hid BC5
        clear BS5 BC5 hb5
        unfold findC
        go_wp2_with fail
        refine (HSN.out).mono ?_
        rintro e w6 ⟨rfl, hsp6, hg6⟩
        have HB6 := Lib.hid (HB5.out.grown hg6 HB5.out.size (by simp))
        have BS6 := HBS5.out.grown hg6 (by simp)
        have BC6 := HBC5.out.grown hg6 (by simp; omega)
        have HC6 := Lib.hid (HC5.out.grown hg6 (by simp; omega))
        clear qs qc
        have qs := four BS6 (Below.refl _ _)
        have qc := BC6.three (Below.refl _ _)
        have HBS6 := Lib.hid BS6
        clear BS6 BC6 hsp6 hg6
        go_wp2
        go_roundw
        case rel => exact .inr ⟨rfl, HB6.out, HBS6.out, HC6.out⟩
        case measure => simp [intOf]
      · clear qs
        have qs := four hs (Below.refl _ _)
        have qc := hcl.three (Below.refl _ _)
        have HB := Lib.hid hb
        clear hs hcl hb
        go_wp2
        go_ret
        exact ⟨rfl, HB.out⟩
set_option maxRecDepth 1000000 in
theorem isname_ (l : List UInt8) (hl : l.length ≤ 1000) (w : World) :
    Calls Tryz.prog 63 #[.string ⟨l.toArray⟩] w fun e w' => e = .returned (.bool (nameOk l)) ∧ Below w.heap.size w w' := by
  obtain ⟨ok, hok⟩ : ∃ ok, nameOk l = ok := ⟨_, rfl⟩
  have HC := Lib.hid (fun (w' : World) (bc : Nat) (h : Blk w' bc 85 #[.string ⟨#[97]⟩, .int .i64 2, .bool false]) => check_ l hl bc 1 h (Nat.le_refl _))
  have HC := HC.out
  rw [hok] at HC ⊢
  have HC := Lib.hid HC
  clear hok
  go_enter Tryz.func63, Tryz.ntmps63
  go_wp2_with fail
  obtain ⟨W1, hW_, hb1, BC⟩ : ∃ W_, W_ = (w.alloc (.cells #[.string ⟨#[97]⟩, .int .i64 2, .bool false] 85)) ∧ Below w.heap.size w W_ ∧ Blk W_ (w.heap.size) 85 #[.string ⟨#[97]⟩, .int .i64 2, .bool false] :=
    ⟨_, rfl, ((Below.refl _ _).alloc (Nat.le_refl _) _), (blk_new_at w (w.heap.size) _ _ (by simp))⟩
  rw [← hW_]
  clear hW_
  have HB1 := Lib.hid hb1
  have HCC := Lib.hid (HC.out W1 _ BC)
  clear hb1 BC
  refine (HCC.out).mono ?_
  rintro e w2 ⟨rfl, hb2⟩
  have HB2 := Lib.hid (bch0 HB1.out hb2)
  clear hb2
  cases ok with
  | false =>
    go_wp2
    go_ret
    exact ⟨rfl, HB2.out⟩
  | true =>
    go_wp2
    go_ret
    exact ⟨rfl, HB2.out⟩
end Go.Proofs.YtfnceamkephpjaaGreat.pg

/- The program's parser: name, column. Printed by gen10.py. -/
namespace Go.Proofs.YtfnceamkephpjaaGreat.pg
open Go.ChangeShapes Go.WideShapes Go.ChangeAt Go.RowKit Go.Proofs.YtfnceamkephpjaaGreat.lib Go.Proofs.YtfnceamkephpjaaGreat.lx
set_option linter.unusedVariables false

theorem nameP_len {W : List Wd} {p : Pp} : (nameP W p).1.length ≤ 12 := by
  unfold nameP
  split
  · next h =>
    unfold nameIs nameOk at h
    simp only [Bool.and_eq_true, decide_eq_true_eq] at h
    exact h.2.2.1
  · exact Nat.zero_le _
theorem app_mk (a b : List UInt8) : (⟨a.toArray⟩ : ByteArray) ++ ⟨b.toArray⟩ = ⟨(a ++ b).toArray⟩ := by
  apply ByteArray.ext
  simp
set_option maxRecDepth 100000 in
theorem pname_ {w : World} {g : Nat} {W : List Wd} {b : Nat} {p : Pp} (h : Pr w g W b p) :
    Calls Tryz.prog 46 #[.pointer (some ⟨g, 0, none⟩)] w fun e w' => e = .returned (.string ⟨(nameP W p).1.toArray⟩) ∧ Pr w' g W b (nameP W p).2 ∧ w.grownBy w' (some g) := by
  have H := Lib.hid h
  have hxl := cur_len h
  obtain ⟨x, hx⟩ : ∃ x, cur W p = x := ⟨_, rfl⟩
  have HQ := Lib.hid (show nameIs W p = (decide (x.k = 1) && nameOk x.s) by rw [← hx]; rfl)
  have HP := Lib.hid (show nameP W p = if nameIs W p = true then (x.s, stepP p) else ([], failP 6 p) by rw [← hx]; rfl)
  obtain ⟨R, hR⟩ : ∃ R, nameP W p = R := ⟨_, rfl⟩
  rw [hR]
  have HR := Lib.hid (HP.out.symm.trans hR)
  have HX := Lib.hid hx
  rw [hx] at hxl
  clear h hx hR HP
  go_enter Tryz.func46, Tryz.ntmps46
  go_wp2_with fail
  refine (pword_ H.out).mono ?_
  rintro e w2 ⟨rfl, hb2⟩
  rw [HX.out]
  unfold wordV
  go_upto_region 2 with fail
  obtain ⟨W3, hW_, hb3, BX⟩ : ∃ W_, W_ = (w2.alloc (.cells #[.int .i64 x.k, .int .i64 x.n, .string ⟨x.s.toArray⟩] 57)) ∧ Below w2.heap.size w2 W_ ∧ Blk W_ (w2.heap.size) 57 #[.int .i64 x.k, .int .i64 x.n, .string ⟨x.s.toArray⟩] :=
    ⟨_, rfl, ((Below.refl _ _).alloc (Nat.le_refl _) _), (blk_new_at w2 (w2.heap.size) _ _ (by simp))⟩
  rw [← hW_]
  clear hW_
  have HB3 := Lib.hid (show Below w.heap.size w W3 from bch0 hb2 hb3)
  have H3 := Lib.hid (H.out.ext HB3.out)
  obtain ⟨v, hv⟩ : ∃ v, w2.heap.size = v := ⟨_, rfl⟩
  rw [hv] at BX ⊢
  have qx := BX.three (Below.refl _ _)
  have HBX := Lib.hid BX
  clear hb2 hb3 H hv BX
  by_cases hk : x.k = 1
  case neg =>
    have k1 : (x.k != 1) = true := by simpa using hk
    obtain rfl : ([], failP 6 p) = R := by rw [← HR.out, HQ.out, decide_eq_false hk]; simp
    clear hk
    have HF := Lib.hid (pfail_ 6 H3.out)
    go_wp2_with fail
    refine (HF.out).mono ?_
    rintro e w4 ⟨rfl, h4, hg4⟩
    have H4 := Lib.hid h4
    have HG4 := Lib.hid ((grown_of HB3.out _).trans hg4)
    clear h4 hg4
    go_wp2
    go_ret
    exact ⟨rfl, H4.out, HG4.out⟩
  have k1 : (x.k != 1) = false := by simpa using hk
  have HK := Lib.hid hk
  have HI := Lib.hid (isname_ x.s hxl W3)
  obtain ⟨ok, hok⟩ : ∃ ok, nameOk x.s = ok := ⟨_, rfl⟩
  replace HI := HI.out
  rw [hok] at HI
  have HOK := Lib.hid hok
  replace HI := Lib.hid HI
  clear hk hok
  go_wp2_with fail
  refine (HI.out).mono ?_
  rintro e w5 ⟨rfl, hb5⟩
  have HB5 := Lib.hid (bch0 HB3.out hb5)
  have H5 := Lib.hid (H3.out.ext hb5)
  clear qx
  clear hb5
  cases ok with
  | false =>
    obtain rfl : ([], failP 6 p) = R := by rw [← HR.out, HQ.out, HOK.out]; simp
    have HF := Lib.hid (pfail_ 6 H5.out)
    go_wp2_with fail
    refine (HF.out).mono ?_
    rintro e w4 ⟨rfl, h4, hg4⟩
    have H4 := Lib.hid h4
    have HG4 := Lib.hid ((grown_of HB5.out _).trans hg4)
    clear h4 hg4
    go_wp2
    go_ret
    exact ⟨rfl, H4.out, HG4.out⟩
  | true =>
    obtain rfl : (x.s, stepP p) = R := by rw [← HR.out, HQ.out, HOK.out, decide_eq_true HK.out]; simp
    have HNX := Lib.hid (pnext_ H5.out)
    have hnx : nextP W p = stepP p := by unfold nextP; rw [HX.out, HK.out]; rfl
    replace HNX := HNX.out
    rw [hnx, HX.out] at HNX
    replace HNX := Lib.hid HNX
    have fe2 := wfield2
    clear hnx
    go_wp2_with fail
    refine (HNX.out).mono ?_
    rintro e w6 ⟨rfl, h6, hg6⟩
    have H6 := Lib.hid h6
    have HG6 := Lib.hid ((grown_of HB5.out _).trans hg6)
    clear h6 hg6
    unfold wordV
    go_wp2
    go_ret
    exact ⟨rfl, H6.out, HG6.out⟩
set_option maxRecDepth 100000 in
theorem pcol_ {w : World} {g : Nat} {W : List Wd} {b : Nat} {p : Pp} (h : Pr w g W b p) :
    Calls Tryz.prog 56 #[.pointer (some ⟨g, 0, none⟩)] w fun e w' => e = .returned (.string ⟨(colP W p).1.toArray⟩) ∧ Pr w' g W b (colP W p).2 ∧ w.grownBy w' (some g) := by
  have HN := Lib.hid (pname_ h)
  have HC := Lib.hid (show colP W p = match nameP W p with
  | (s, q) => if okIs W [46] q = true then (match nameP W (stepP q) with | (t, r) => (s ++ ([46] ++ t), r)) else (s, q) from rfl)
  have hl := nameP_len (W := W) (p := p)
  obtain ⟨R, hR⟩ : ∃ R, colP W p = R := ⟨_, rfl⟩
  rw [hR]
  replace HC := HC.out
  replace HN := HN.out
  rw [hR] at HC
  obtain ⟨⟨s, q⟩, hq⟩ : ∃ X, nameP W p = X := ⟨_, rfl⟩
  rw [hq] at HC HN hl
  simp only at HC HN hl
  replace HC := Lib.hid HC
  replace HN := Lib.hid HN
  clear h hq hR
  go_enter Tryz.func56, Tryz.ntmps56
  go_wp2_with fail
  refine (HN.out).mono ?_
  rintro e w2 ⟨rfl, h2, hg2⟩
  have HI := Lib.hid (pis_ [46] h2)
  replace HI := HI.out
  unfold isP at HI
  have HG2 := Lib.hid hg2
  obtain ⟨ok, hok⟩ : ∃ ok, okIs W [46] q = ok := ⟨_, rfl⟩
  replace HC := HC.out
  rw [hok] at HI HC
  replace HI := Lib.hid HI
  replace HC := Lib.hid HC
  clear h2 hg2 hok
  go_wp2_with fail
  refine (HI.out).mono ?_
  rintro e w3 ⟨rfl, h3, hg3⟩
  have HG3 := Lib.hid (HG2.out.trans hg3)
  clear hg3
  cases ok with
  | false =>
    obtain rfl : R = (s, q) := by rw [HC.out, if_neg (by simp)]
    have H3 := Lib.hid (show Pr w3 g W b q from h3)
    clear h3
    go_wp2
    go_ret
    exact ⟨rfl, H3.out, HG3.out⟩
  | true =>
    have hc := HC.out
    rw [if_pos rfl] at hc
    have HM := Lib.hid (pname_ (show Pr w3 g W b (stepP q) from h3))
    have hl2 := nameP_len (W := W) (p := stepP q)
    obtain ⟨⟨t, r⟩, hr⟩ : ∃ X, nameP W (stepP q) = X := ⟨_, rfl⟩
    replace HM := HM.out
    rw [hr] at hc HM hl2
    simp only at hc HM hl2
    subst hc
    replace HM := Lib.hid HM
    obtain ⟨u, hu⟩ : ∃ u : ByteArray, ⟨t.toArray⟩ = u := ⟨_, rfl⟩
    obtain ⟨v, hv⟩ : ∃ v : ByteArray, ⟨s.toArray⟩ = v := ⟨_, rfl⟩
    have z1 : u.size ≤ 12 := by rw [← hu]; simpa [size_mk] using hl2
    have z2 : v.size ≤ 12 := by rw [← hv]; simpa [size_mk] using hl
    have z3 : ((⟨#[46]⟩ : ByteArray) ++ u).size ≤ 13 := by rw [ByteArray.size_append, show (⟨#[46]⟩ : ByteArray).size = 1 from rfl]; omega
    have z4 : (v ++ ((⟨#[46]⟩ : ByteArray) ++ u)).size ≤ 25 := by rw [ByteArray.size_append]; omega
    have HE := Lib.hid (show v ++ ((⟨#[46]⟩ : ByteArray) ++ u) = ⟨(s ++ ([46] ++ t)).toArray⟩ by rw [← hu, ← hv, show (⟨#[46]⟩ : ByteArray) = ⟨[46].toArray⟩ from rfl, app_mk, app_mk])
    replace HM := HM.out
    rw [hu] at HM
    replace HM := Lib.hid HM
    clear h3 hr hu hl hl2
    rw [hv]
    clear hv
    go_wp2_with fail
    refine (HM.out).mono ?_
    rintro e w4 ⟨rfl, h4, hg4⟩
    have H4 := Lib.hid h4
    have HG4 := Lib.hid (HG3.out.trans hg4)
    clear h4 hg4
    go_wp2
    go_ret
    exact ⟨by rw [HE.out]; rfl, H4.out, HG4.out⟩
end Go.Proofs.YtfnceamkephpjaaGreat.pg
