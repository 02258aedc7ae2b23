/- The walk of EvalLong. -/
import Derived.Test.YtfgmlgflfagdjaaMO1
import Derived.Test.YtfgmlgflfagdjaaArg
namespace Go.Proofs.Ytfgmlgflfagdjaa.ev
open Go.ChangeShapes Go.WideShapes Go.ChangeAt Go.RowKit Go.Proofs.Ytfgmlgflfagdjaa.lib Go.Proofs.Ytfgmlgflfagdjaa.val
set_option linter.unusedVariables false

def numV (k : Int) : V := ⟨2, k, ByteArray.empty⟩
/-- the nodes of one more number -/
def more (acc : List Nd) (k : Int) : List Nd := if acc = [] then [nv (numV k)] else acc ++ [nv (numV k), nb 14 ((acc.length - 1 : Nat) : Int) (acc.length : Int)]
def nodesL (ks : List Int) : List Nd := ks.foldl more []
theorem nodesL_snoc (ks : List Int) (k : Int) : nodesL (ks ++ [k]) = more (nodesL ks) k := by unfold nodesL; rw [List.foldl_append]; rfl
abbrev F0 : ByteArray → Int × Int := fun _ => (0, 0)
abbrev G0 : ByteArray → Int := fun _ => 0
/-- what is true of the nodes of some numbers: the kinds, the values, whose last is s -/
structure LongOk (es : List Nd) (vs : List V) (s : Int) : Prop where
  len : vs.length = es.length
  pos : 1 ≤ es.length
  kinds : ∀ r, kindsV F0 G0 (es ++ r) [] = kindsV F0 G0 r (List.replicate es.length 2)
  vals : ∀ r, valsV (es ++ r) [] = valsV r vs
  last : vs[es.length - 1]? = some (numV s)
  fine : ∀ n ∈ es, n.op ≠ 2 ∧ n.v.s.size ≤ maxLen ∧ (ok64 n.v.n)
theorem fine_nv (k : Int) (hk : ok64 k) : (nv (numV k)).op ≠ 2 ∧ (nv (numV k)).v.s.size ≤ maxLen ∧ ok64 (nv (numV k)).v.n := ⟨show (1 : Int) ≠ 2 by decide, show ByteArray.empty.size ≤ maxLen by decide, hk⟩
theorem long_one (k : Int) (hk : ok64 k) : LongOk [nv (numV k)] [numV k] k := by
  refine ⟨rfl, by simp, fun r => ?_, fun r => ?_, rfl, fun n hn => ?_⟩
  · rw [List.cons_append, List.nil_append, kindsV]
    rw [show kindN F0 G0 [] (nv (numV k)) = (2, 0) from kind_int F0 G0 [] k]
    rfl
  · rw [List.cons_append, List.nil_append, valsV]
    rfl
  · rw [List.mem_singleton.1 hn]; exact fine_nv k hk
theorem long_more {es : List Nd} {vs : List V} {s k : Int} (h : LongOk es vs s) (hk : ok64 k) (hs : ok64 (s + k)) : LongOk (more es k) (vs ++ [numV k, numV (s + k)]) (s + k) := by
  have hne : es ≠ [] := by intro e; have := h.pos; rw [e] at this; simp at this
  have hm : more es k = es ++ [nv (numV k), nb 14 ((es.length - 1 : Nat) : Int) (es.length : Int)] := by unfold more; rw [if_neg hne]
  rw [hm]
  have hl : (es ++ [nv (numV k), nb 14 ((es.length - 1 : Nat) : Int) (es.length : Int)]).length = es.length + 2 := by simp
  have hpos := h.pos
  refine ⟨by rw [hl, List.length_append, h.len]; rfl, by omega, fun r => ?_, fun r => ?_, ?_, fun n hn => ?_⟩
  · rw [List.append_assoc, h.kinds, List.cons_append, List.cons_append, List.nil_append, kindsV]
    rw [show kindN F0 G0 (List.replicate es.length 2) (nv (numV k)) = (2, 0) from kind_int F0 G0 _ k]
    rw [if_pos rfl, kindsV]
    have hkn : kindN F0 G0 (List.replicate es.length 2 ++ [(2 : Int)]) (nb 14 ((es.length - 1 : Nat) : Int) (es.length : Int)) = (2, 0) := by
      have e : List.replicate es.length (2 : Int) ++ [2] = List.replicate (es.length + 1) 2 := by rw [List.replicate_succ']
      rw [e]
      unfold kindN nb
      rw [if_neg (show ¬ partsV 14 = -1 by decide), if_neg (show ¬ (14 : Int) = 1 by decide), if_neg (show ¬ (14 : Int) = 2 by decide)]
      simp only [List.length_replicate]
      rw [if_neg (by omega), if_neg (by decide), if_neg (by omega)]
      have g : ∀ j : Nat, j < es.length + 1 → (List.replicate (es.length + 1) (2 : Int)).getD j 0 = 2 := by
        intro j hj
        rw [List.getD_eq_getElem?_getD, List.getElem?_replicate, if_pos hj]
        rfl
      rw [Int.toNat_natCast, Int.toNat_natCast, g _ (by omega), g _ (by omega)]
      rfl
    rw [hkn, if_pos rfl]
    congr 1
    rw [hl, List.replicate_succ', List.replicate_succ']
  · rw [List.append_assoc, h.vals, List.cons_append, List.cons_append, List.nil_append, valsV]
    rw [show nodeV vs (nv (numV k)) = some (numV k) from rfl]
    simp only [Option.bind_some]
    rw [valsV]
    have hnv : nodeV (vs ++ [numV k]) (nb 14 ((es.length - 1 : Nat) : Int) (es.length : Int)) = some (numV (s + k)) := by
      unfold nodeV nb
      rw [if_neg (show ¬ (14 : Int) = 1 by decide), if_neg (show ¬ (14 : Int) ≤ 5 by decide)]
      simp only [Int.toNat_natCast]
      have h1 : (vs ++ [numV k]).getD (es.length - 1) nul = numV s := by
        rw [List.getD_eq_getElem?_getD, List.getElem?_append_left (by rw [h.len]; omega), h.last]
        rfl
      have h2 : (vs ++ [numV k]).getD es.length nul = numV k := by
        rw [List.getD_eq_getElem?_getD, List.getElem?_append_right (by rw [h.len]; omega), h.len, Nat.sub_self]
        rfl
      rw [h1, h2]
      unfold pairV
      rw [if_neg (by decide), if_neg (by decide), if_neg (by decide), if_neg (by simp [numV]), if_neg (by decide)]
      have e : nres 14 (numV s).n (numV k).n = s + k := rfl
      rw [e, if_pos hs]
      rfl
    rw [hnv]
    simp only [Option.bind_some]
    congr 1
    simp
  · rw [hl, show es.length + 2 - 1 = es.length + 1 by omega, List.getElem?_append_right (by rw [h.len]; omega), h.len, show es.length + 1 - es.length = 1 by omega]
    rfl
  · rcases List.mem_append.1 hn with hn | hn
    · exact h.fine n hn
    · simp at hn
      rcases hn with rfl | rfl
      · exact fine_nv k hk
      · exact ⟨show (14 : Int) ≠ 2 by decide, show ByteArray.empty.size ≤ maxLen by decide, show ok64 0 by unfold ok64; omega⟩
theorem long_ev {es : List Nd} {vs : List V} {s : Int} (h : LongOk es vs s) (hl : es.length ≤ 60) : EvV es = .tuple #[.agg #[.int .i64 2, .int .i64 s, .string ⟨#[]⟩], .int .i64 0] := by
  have hpos := h.pos
  have hk : KindV F0 G0 es = (2, 0) := by
    unfold KindV
    rw [if_neg (by omega)]
    have := h.kinds []
    rw [List.append_nil] at this
    rw [this, kindsV, List.getLast?_replicate, if_neg (by omega)]
    rfl
  have hv : valsV es [] = some vs := by
    have := h.vals []
    rw [List.append_nil] at this
    rw [this]; rfl
  have hlast : vs.getLast? = some (numV s) := by
    rw [List.getLast?_eq_getElem?, h.len]; exact h.last
  unfold EvV
  rw [hk, if_pos rfl, hv]
  unfold ValueV
  simp only [hlast]
  rfl

theorem own_ext7 {w w' : World} {base : Nat} {e : TypeId} {size n : Nat} {v : Value} {xs : List Value} (h : w.ownsRow base e size v n xs) (hb : Below w.heap.size w w') : w'.ownsRow base e size v n xs := own_ext h hb
theorem cellsN_snoc (es : List Nd) (n : Nd) : cellsN (es ++ [n]) = cellsN es ++ n.arr.toList := by simp [cellsN]
theorem own_sl {w : World} {base size n : Nat} {e : TypeId} {v : Value} {xs : List Value} (h : w.ownsRow base e size v n xs) : ∃ A c, v = .slice A n c := by
  rcases h.2 with ⟨rfl, rfl⟩ | ⟨g, cap, cur, rfl, _⟩
  · exact ⟨_, _, rfl⟩
  · exact ⟨_, _, rfl⟩
theorem Nds.of_own {w : World} {base n c : Nat} {e : TypeId} {A : Option Addr} {es : List Nd} (h : w.ownsRow base e 7 (.slice A n c) n (cellsN es)) (hn : 0 < n) : Nds w w.heap.size A es := fun _ => by
  obtain ⟨g, cap, hv, _, hlt⟩ := h.form hn
  have hA : A = some ⟨g, 0, none⟩ := by injection hv
  subst hA
  refine ⟨g, 0, rfl, hlt, fun i nd hi j u hu => ?_⟩
  have := h.cells (g := g) rfl _ u (cellsN_at es i nd hi j u hu)
  rw [Addr.add_lit] at this
  rw [Nat.zero_add]
  simpa using this
theorem seven_at {w : World} {g : Nat} {t : TypeId} {x0 x1 x2 x3 x4 x5 x6 : Value} (h : Blk w g t #[x0, x1, x2, x3, x4, x5, x6]) : ∀ j u, [x0, x1, x2, x3, x4, x5, x6][j]? = some u → w.cell? ((⟨g, 0, none⟩ : Addr).add j) = some u := by
  intro j u hj
  rw [Addr.add_lit, Nat.zero_add, h.cell]
  rw [← Array.getElem?_toList]
  exact hj
/-- the nodes so far -/
def LongR (k : Nat) (es : List Nd) (s : Int) : Prop := (k = 0 ∧ es = [] ∧ s = 0) ∨ (1 ≤ k ∧ es.length = 2 * k - 1 ∧ ∃ vs, LongOk es vs s)
theorem LongR.len {k : Nat} {es : List Nd} {s : Int} (h : LongR k es s) : es.length ≤ 2 * k ∧ (1 ≤ k → es.length = 2 * k - 1) ∧ (k = 0 → es = []) := by
  rcases h with ⟨rfl, rfl, _⟩ | ⟨h1, h2, _⟩
  · exact ⟨by simp, fun h => absurd h (by omega), fun _ => rfl⟩
  · exact ⟨by omega, fun _ => h2, fun h => absurd h (by omega)⟩
theorem LongR.next {k : Nat} {es : List Nd} {s x : Int} (h : LongR k es s) (hx : ok64 x) (hs : ok64 (s + x)) : LongR (k + 1) (more es x) (s + x) := by
  rcases h with ⟨rfl, rfl, rfl⟩ | ⟨h1, h2, vs, h3⟩
  · refine .inr ⟨by omega, rfl, [numV x], ?_⟩
    rw [Int.zero_add]
    exact long_one x hx
  · refine .inr ⟨by omega, ?_, _, long_more h3 hx hs⟩
    unfold more
    rw [if_neg (by intro e; rw [e] at h2; simp at h2; omega)]
    simp
    omega

set_option maxRecDepth 1000000 in
set_option maxHeartbeats 2000000 in
theorem long_walk (A : Option Addr) (n c : Nat) (zs : List Int) (w : World) (hzs : Ints w A zs) (hn : zs.length = n) (hnm : n ≤ maxLen) (hz : ∀ z ∈ zs, -9223372036854775808 ≤ z ∧ z ≤ 9223372036854775807) :
    Calls Try.prog 11 #[.slice A n c] w fun e w' => e = .returned (.bool true) ∧ Below w.heap.size w w' := by
  have HN := Lib.hid hn
  have HZ := Lib.hid hz
  unfold maxLen at hnm
  clear hn hz
  have hu : Try.prog.underlying 23 = some (.slice 36) := by kernel_rfl
  obtain ⟨i0, hi, hz0, hz1, hz2⟩ := info_parts (P := Try.prog) (e := 36) (z := .agg #[.int .i64 0, .int .i64 0, .int .i64 0, .int .i64 0, .int .i64 0, .string ⟨#[]⟩, .string ⟨#[]⟩]) (size := 7) (bytes := 72) (by kernel_rfl)
  obtain ⟨N, hN30, hNn, hN0, hmin⟩ : ∃ N : Nat, N ≤ 30 ∧ N ≤ n ∧ (N = 0 → n = 0) ∧ (if (30 : Int) < (n : Int) then (30 : Int) else (n : Int)) = (N : Int) := by
    by_cases h : 30 < n
    · exact ⟨30, by omega, by omega, by omega, by rw [if_pos (by omega)]; rfl⟩
    · exact ⟨n, by omega, by omega, by omega, by rw [if_neg (by omega)]⟩
  have HMIN := Lib.hid hmin
  clear hmin
  have hmn : ∀ (ts : Array TypeId) (t : TypeId) (W : World), (Builtin.min_ ts t #[.int .i64 (n : Int), .int .i64 30]).run Try.prog W = .ok (.int .i64 (N : Int)) W := fun ts t W => by
    rw [← HMIN.out]; simp [Builtin.min_, Builtin.min2]
  rcases Nat.eq_zero_or_pos N with h0 | hpos
  · subst h0
    have hz : n = 0 := hN0 rfl
    clear HMIN hN0
    go_enter Try.func11, Try.ntmps11
    go_wp2_with fail
    refine (known _).mono ?_
    rintro e w1 ⟨rfl, hb1⟩
    go_wp2
    go_ret
    exact ⟨rfl, hb1⟩
  have hN00 : ((N : Int) == 0) = false := by simp; omega
  go_enter Try.func11, Try.ntmps11
  go_wp2_with fail
  refine (known _).mono ?_
  rintro e w1 ⟨rfl, hb1⟩
  go_wp2_with fail
  clear hmn hN0
  go_loopw [4, 5, 6] (fun l s i wr => ∃ (k : Nat) (es : List Nd) (sm : Int), k ≤ N ∧ i = .int .i64 k ∧ s = .int .i64 sm ∧ Hid (LongR k es sm) ∧ wr.ownsRow w1.heap.size 36 7 l es.length (cellsN es) ∧
      Below w1.heap.size w1 wr ∧ -549755813888 * (k : Int) ≤ sm ∧ sm ≤ 549755813888 * (k : Int))
    (fun _ _ i _ => N - (intOf i).toNat)
  case atStart => exact ⟨0, [], 0, Nat.zero_le _, rfl, rfl, Lib.hid (.inl ⟨rfl, rfl, rfl⟩), World.ownsRow_nil _ _ _ _, Below.refl _ _, by omega, by omega⟩
  case round =>
    obtain ⟨k, es, sm, hk, rfl, rfl, HL, hown, hb, hlo, hhi⟩ := hrel
    obtain ⟨Al, cl, rfl⟩ := own_sl hown
    have hlen1 := HL.out.len.1
    have hwz : Below w.heap.size w wr := Below.trans hb1 (Below.mono hb hb1.size)
    rcases Nat.lt_or_ge k N with hlt | hge
    · have hd : decide ((k : Int) < (N : Int)) = true := by simp; omega
      obtain ⟨b, off, rfl, hlb, hcl⟩ := hzs.ext hwz (by rw [HN.out]; omega)
      obtain ⟨z, hz⟩ : ∃ z, zs[k]? = some z := ⟨_, List.getElem?_eq_getElem (by rw [HN.out]; omega)⟩
      have qz := hcl k z hz
      have hzb := HZ.out z (List.mem_of_getElem? hz)
      have hkn : (k : Int) < (n : Int) := by omega
      clear hz
      obtain ⟨x, hx⟩ : ∃ x, z % 1099511627776 = x + 549755813888 := ⟨z % 1099511627776 - 549755813888, by omega⟩
      have hxl : -549755813888 ≤ x := by omega
      have hxh : x < 549755813888 := by omega
      have HX := Lib.hid hx
      clear hx hcl
      have HNX := Lib.hid (HL.out.next (x := x) (by unfold ok64; omega) (by unfold ok64; omega))
      go_wp2_with fail
      refine (withinr _ _ _ HX.out _ (by decide) (by decide) hzb).mono ?_
      rintro e w2 ⟨rfl, rfl⟩
      clear qz
      go_wp2_with (at_builtin; refine wpList_append_own _ rfl _ _ 23 rfl w1.heap.size 36 i0 (.agg #[.int .i64 0, .int .i64 0, .int .i64 0, .int .i64 0, .int .i64 0, .string ⟨#[]⟩, .string ⟨#[]⟩]) 7 72 hu hi hz0 hz1 hz2 rfl (by decide) _ _ _ rfl (hown.alloc _) ⟨wr.heap.size, 0, none⟩ 1 1 [.int .i64 1, .int .i64 0, .int .i64 0, .int .i64 2, .int .i64 x, .string ⟨#[]⟩, .string ⟨#[]⟩] rfl rfl ?c1 ?c2 ?c3 ?c4 ?c5 ?_)
      case c1 =>
        intro j u hj
        match j, hj with
        | 0, hj => simp at hj; subst hj; simp [Addr.add]
        | 1, hj => simp at hj; subst hj; simp [Addr.add]
        | 2, hj => simp at hj; subst hj; simp [Addr.add]
        | 3, hj => simp at hj; subst hj; simp [Addr.add]
        | 4, hj => simp at hj; subst hj; simp [Addr.add]
        | 5, hj => simp at hj; subst hj; simp [Addr.add]
        | 6, hj => simp at hj; subst hj; simp [Addr.add]
      case c2 => intro u hu; simp at hu; rcases hu with rfl | rfl | rfl | rfl | rfl | rfl | rfl <;> rfl
      case c3 => unfold maxLen; omega
      case c4 => omega
      case c5 => simp; have := hb.size; omega
      intro v9 w9 hown9 hgrow9 _
      have hb9 : Below w1.heap.size w1 w9 := (hb.alloc (by have := hb.size; omega) _).grown hgrow9 (by have := hb.size; simp; omega) (fun g hg => (hown.lt g hg).1)
      have hs9 : w1.heap.size ≤ w9.heap.size := hb9.size
      rw [show cellsN es ++ [Value.int .i64 1, .int .i64 0, .int .i64 0, .int .i64 2, .int .i64 x, .string ⟨#[]⟩, .string ⟨#[]⟩] = cellsN (es ++ [nv (numV x)]) from (cellsN_snoc es (nv (numV x))).symm] at hown9
      rcases (show k = 0 ∨ k = 1 ∨ 2 ≤ k by omega) with h0 | h1 | h2
      · have hes := HL.out.len.2.2 h0
        subst h0
        subst hes
        obtain ⟨A9, c9, rfl⟩ := own_sl hown9
        clear hown
        go_wp2
        go_roundw
        case rel => exact ⟨1, more [] x, sm + x, by omega, by go_num, rfl, HNX, hown9, hb9, by omega, by omega⟩
        case measure => simp [intOf]; omega
      · have hes := HL.out.len.2.1 (by omega)
        have hmr : more es x = es ++ [nv (numV x)] ++ [nb 14 0 1] := by
          unfold more
          rw [if_neg (by intro e; rw [e] at hes; simp at hes; omega), List.append_assoc]
          rw [hes, h1]
          rfl
        have hes1 : es.length = 1 := by rw [hes, h1]
        have HM := Lib.hid (show more es x = es ++ [nv (numV x)] ++ [nb 14 0 1] ∧ (more es x).length = 3 from ⟨hmr, by rw [hmr]; simp [hes1]⟩)
        rw [show es.length + 1 = 2 by omega] at hown9
        clear hes hmr hes1
        subst h1
        obtain ⟨A9, c9, rfl⟩ := own_sl hown9
        go_wp2_with (at_builtin; refine wpList_append_own _ rfl _ _ 23 rfl w1.heap.size 36 i0 (.agg #[.int .i64 0, .int .i64 0, .int .i64 0, .int .i64 0, .int .i64 0, .string ⟨#[]⟩, .string ⟨#[]⟩]) 7 72 hu hi hz0 hz1 hz2 rfl (by decide) _ _ _ rfl (hown9.alloc _) ⟨w9.heap.size, 0, none⟩ 1 1 [.int .i64 14, .int .i64 0, .int .i64 1, .int .i64 0, .int .i64 0, .string ⟨#[]⟩, .string ⟨#[]⟩] rfl rfl ?d1 ?d2 ?d3 ?d4 ?d5 ?_)
        case d1 =>
          intro j u hj
          match j, hj with
          | 0, hj => simp at hj; subst hj; simp [Addr.add]
          | 1, hj => simp at hj; subst hj; simp [Addr.add]
          | 2, hj => simp at hj; subst hj; simp [Addr.add]
          | 3, hj => simp at hj; subst hj; simp [Addr.add]
          | 4, hj => simp at hj; subst hj; simp [Addr.add]
          | 5, hj => simp at hj; subst hj; simp [Addr.add]
          | 6, hj => simp at hj; subst hj; simp [Addr.add]
        case d2 => intro u hu; simp at hu; rcases hu with rfl | rfl | rfl | rfl | rfl | rfl | rfl <;> rfl
        case d3 => unfold maxLen; omega
        case d4 => omega
        case d5 => simp; omega
        intro v10 w10 hown10 hgrow10 _
        rw [show cellsN (es ++ [nv (numV x)]) ++ [.int .i64 14, .int .i64 0, .int .i64 1, .int .i64 0, .int .i64 0, .string ⟨#[]⟩, .string ⟨#[]⟩] = cellsN (es ++ [nv (numV x)] ++ [nb 14 0 1]) from (cellsN_snoc (es ++ [nv (numV x)]) (nb 14 0 1)).symm] at hown10
        have hb10 : Below w1.heap.size w1 w10 := (hb9.alloc (by omega) _).grown hgrow10 (by simp; omega) (fun g hg => (hown9.lt g hg).1)
        clear hown9 hown
        go_wp2
        go_roundw
        case rel => exact ⟨2, more es x, sm + x, by omega, by go_num, rfl, HNX, by rw [HM.out.2, HM.out.1]; exact hown10, hb10, by omega, by omega⟩
        case measure => simp [intOf]; omega
      · have hes := HL.out.len.2.1 (by omega)
        obtain ⟨m, hm⟩ : ∃ m, es.length = m + 1 := ⟨es.length - 1, by omega⟩
        have hmr : more es x = es ++ [nv (numV x)] ++ [nb 14 (m : Int) ((m : Int) + 2 - 1)] := by
          unfold more
          rw [if_neg (by intro e; rw [e] at hm; simp at hm), List.append_assoc]
          rw [hm, show ((m : Int) + 2 - 1) = ((m + 1 : Nat) : Int) by omega]
          rfl
        have HM := Lib.hid (show more es x = es ++ [nv (numV x)] ++ [nb 14 (m : Int) ((m : Int) + 2 - 1)] ∧ (more es x).length = m + 2 + 1 from ⟨hmr, by rw [hmr]; simp; omega⟩)
        clear hmr
        have hk1 : ((k : Int) == 1) = false := by simp; omega
        have hk2 : decide ((1 : Int) < (k : Int)) = true := by simp; omega
        have hm60 : m ≤ 60 := by omega
        rw [show es.length + 1 = m + 2 by omega] at hown9
        clear hes hm
        obtain ⟨A9, c9, rfl⟩ := own_sl hown9
        go_wp2_with (at_builtin; refine wpList_append_own _ rfl _ _ 23 rfl w1.heap.size 36 i0 (.agg #[.int .i64 0, .int .i64 0, .int .i64 0, .int .i64 0, .int .i64 0, .string ⟨#[]⟩, .string ⟨#[]⟩]) 7 72 hu hi hz0 hz1 hz2 rfl (by decide) _ _ _ rfl (hown9.alloc _) ⟨w9.heap.size, 0, none⟩ 1 1 [.int .i64 14, .int .i64 (m : Int), .int .i64 ((m : Int) + 2 - 1), .int .i64 0, .int .i64 0, .string ⟨#[]⟩, .string ⟨#[]⟩] rfl rfl ?f1 ?f2 ?f3 ?f4 ?f5 ?_)
        case f1 =>
          intro j u hj
          match j, hj with
          | 0, hj => simp at hj; subst hj; simp [Addr.add]
          | 1, hj => simp at hj; subst hj; simp [Addr.add]
          | 2, hj => simp at hj; subst hj; simp [Addr.add]
          | 3, hj => simp at hj; subst hj; simp [Addr.add]
          | 4, hj => simp at hj; subst hj; simp [Addr.add]
          | 5, hj => simp at hj; subst hj; simp [Addr.add]
          | 6, hj => simp at hj; subst hj; simp [Addr.add]
        case f2 => intro u hu; simp at hu; rcases hu with rfl | rfl | rfl | rfl | rfl | rfl | rfl <;> rfl
        case f3 => unfold maxLen; omega
        case f4 => omega
        case f5 => simp; omega
        intro v10 w10 hown10 hgrow10 _
        rw [show cellsN (es ++ [nv (numV x)]) ++ [.int .i64 14, .int .i64 (m : Int), .int .i64 ((m : Int) + 2 - 1), .int .i64 0, .int .i64 0, .string ⟨#[]⟩, .string ⟨#[]⟩] = cellsN (es ++ [nv (numV x)] ++ [nb 14 (m : Int) ((m : Int) + 2 - 1)]) from (cellsN_snoc (es ++ [nv (numV x)]) (nb 14 (m : Int) ((m : Int) + 2 - 1))).symm] at hown10
        have hb10 : Below w1.heap.size w1 w10 := (hb9.alloc (by omega) _).grown hgrow10 (by simp; omega) (fun g hg => (hown9.lt g hg).1)
        clear hown9 hown
        go_wp2
        go_roundw
        case rel => exact ⟨k + 1, more es x, sm + x, by omega, by go_num, rfl, HNX, by rw [HM.out.2, HM.out.1]; exact hown10, hb10, by omega, by omega⟩
        case measure => simp [intOf]; omega
    · have hd : decide ((k : Int) < (N : Int)) = false := by simp; omega
      obtain rfl : k = N := by omega
      obtain ⟨hk1, hes, vs, hok⟩ : 1 ≤ k ∧ es.length = 2 * k - 1 ∧ ∃ vs, LongOk es vs sm := by
        rcases HL.out with ⟨h, _⟩ | h
        · omega
        · exact h
      have HEV := Lib.hid (long_ev hok (by omega))
      have hfine := hok.fine
      have hpos' : 0 < es.length := by omega
      have hnds := Nds.of_own hown hpos'
      clear hes hok
      have e1 := fun W => eqlS 2 sm ⟨#[]⟩ 2 sm ⟨#[]⟩ true (by simp [vEq]; rfl) W
      go_wp2_with fail
      refine (ValueC es _ Al es.length cl wr.heap.size _ _ wr HEV.out rfl (Nat.le_refl _) hnds hfine).mono ?_
      rintro e w3 ⟨rfl, hb3⟩
      go_wp2
      go_ret
      exact ⟨rfl, bch0 hwz (hb3.alloc hb3.size _)⟩
end Go.Proofs.Ytfgmlgflfagdjaa.ev
