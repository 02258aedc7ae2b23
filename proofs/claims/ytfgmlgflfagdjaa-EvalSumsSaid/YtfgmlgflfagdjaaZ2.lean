/- EvalSums: what the nodes are worth; the walk. Printed by genz2.py. -/
import Derived.Test.YtfgmlgflfagdjaaZ1
import Derived.Test.YtfgmlgflfagdjaaLongWalk
namespace Go.Proofs.Ytfgmlgflfagdjaa.ps
open Go.ChangeShapes Go.WideShapes Go.ChangeAt Go.RowKit Go.Proofs.Ytfgmlgflfagdjaa.lib Go.Proofs.Ytfgmlgflfagdjaa.val Go.Proofs.Ytfgmlgflfagdjaa.lx Go.Proofs.Ytfgmlgflfagdjaa.ev
set_option linter.unusedVariables false

def sumR (i a b c : Nat) : Int := match i with
  | 0 => (a : Int) + b * c
  | 1 => ((a : Int) - b) * c
  | 2 => -(a : Int) - b - c
  | _ => (c : Int) - a * b
theorem nodeV_num (vs : List V) (a : Nat) : nodeV vs (num2 a) = some (numV a) := rfl
theorem kind_num (ks : List Int) (a : Nat) : kindN F0 G0 ks (num2 a) = (2, 0) := kind_int F0 G0 ks a
theorem mul_bd {x y : Int} (h1 : -1048576 ≤ x) (h2 : x ≤ 1048576) (h3 : 0 ≤ y) (h4 : y ≤ 1048576) : -1099511627776 ≤ x * y ∧ x * y ≤ 1099511627776 := by
  have k1 : -1048576 * y ≤ x * y := Int.mul_le_mul_of_nonneg_right h1 h3
  have k2 : x * y ≤ 1048576 * y := Int.mul_le_mul_of_nonneg_right h2 h3
  omega
theorem ok_of {x : Int} (h1 : -4611686018427387904 ≤ x) (h2 : x ≤ 4611686018427387904) : ok64 x := by unfold ok64; omega
theorem ev_of {es : List Nd} {vs : List V} {v : Int} (hk : KindV F0 G0 es = (2, 0)) (hv : valsV es [] = some vs) (hl : vs.getLast? = some (numV v)) : EvV es = .tuple #[.agg #[.int .i64 2, .int .i64 v, .string ⟨#[]⟩], .int .i64 0] := by
  unfold EvV
  rw [hk, if_pos rfl, hv]
  unfold ValueV
  simp only [hl]
  rfl

theorem sum_ev0 (a b c : Nat) (ha : a < 1048576) (hb : b < 1048576) (hc : c < 1048576) : EvV (sumE 0 a b c) = .tuple #[.agg #[.int .i64 2, .int .i64 (sumR 0 a b c), .string ⟨#[]⟩], .int .i64 0] := by
  obtain ⟨m1, m2⟩ := mul_bd (x := (b : Int)) (y := (c : Int)) (by omega) (by omega) (by omega) (by omega)
  have hk : KindV F0 G0 (sumE 0 a b c) = (2, 0) := by
    unfold KindV
    rw [if_neg (by simp [sumE])]
    simp only [sumE, kindsV, kind_num, if_true, List.nil_append, List.cons_append]
    rfl
  have n0 : nodeV [numV a, numV b, numV c] (nb 16 1 2) = some (numV ((b : Int) * c)) := by
    have e : nodeV [numV a, numV b, numV c] (nb 16 1 2) = if ok64 ((b : Int) * c) then some (numV ((b : Int) * c)) else none := rfl
    rw [e, if_pos (ok_of (by omega) (by omega))]
  have n1 : nodeV [numV a, numV b, numV c, numV ((b : Int) * c)] (nb 14 0 3) = some (numV ((a : Int) + b * c)) := by
    have e : nodeV [numV a, numV b, numV c, numV ((b : Int) * c)] (nb 14 0 3) = if ok64 ((a : Int) + b * c) then some (numV ((a : Int) + b * c)) else none := rfl
    rw [e, if_pos (ok_of (by omega) (by omega))]
  have hr : sumR 0 a b c = (a : Int) + b * c := by
    unfold sumR
    simp only
  rw [hr]
  have hv : valsV (sumE 0 a b c) [] = some [numV a, numV b, numV c, numV ((b : Int) * c), numV ((a : Int) + b * c)] := by
    simp only [sumE, valsV, nodeV_num, Option.bind_some, List.nil_append, List.cons_append, n0, n1]
  exact ev_of hk hv rfl
theorem sum_ev1 (a b c : Nat) (ha : a < 1048576) (hb : b < 1048576) (hc : c < 1048576) : EvV (sumE 1 a b c) = .tuple #[.agg #[.int .i64 2, .int .i64 (sumR 1 a b c), .string ⟨#[]⟩], .int .i64 0] := by
  obtain ⟨m1, m2⟩ := mul_bd (x := (a : Int) - b) (y := (c : Int)) (by omega) (by omega) (by omega) (by omega)
  have hk : KindV F0 G0 (sumE 1 a b c) = (2, 0) := by
    unfold KindV
    rw [if_neg (by simp [sumE])]
    simp only [sumE, kindsV, kind_num, if_true, List.nil_append, List.cons_append]
    rfl
  have n0 : nodeV [numV a, numV b] (nb 15 0 1) = some (numV ((a : Int) - b)) := by
    have e : nodeV [numV a, numV b] (nb 15 0 1) = if ok64 ((a : Int) - b) then some (numV ((a : Int) - b)) else none := rfl
    rw [e, if_pos (ok_of (by omega) (by omega))]
  have n1 : nodeV [numV a, numV b, numV ((a : Int) - b), numV c] (nb 16 2 3) = some (numV (((a : Int) - b) * c)) := by
    have e : nodeV [numV a, numV b, numV ((a : Int) - b), numV c] (nb 16 2 3) = if ok64 (((a : Int) - b) * c) then some (numV (((a : Int) - b) * c)) else none := rfl
    rw [e, if_pos (ok_of (by omega) (by omega))]
  have hr : sumR 1 a b c = ((a : Int) - b) * c := by
    unfold sumR
    simp only
  rw [hr]
  have hv : valsV (sumE 1 a b c) [] = some [numV a, numV b, numV ((a : Int) - b), numV c, numV (((a : Int) - b) * c)] := by
    simp only [sumE, valsV, nodeV_num, Option.bind_some, List.nil_append, List.cons_append, n0, n1]
  exact ev_of hk hv rfl
theorem sum_ev2 (a b c : Nat) (ha : a < 1048576) (hb : b < 1048576) (hc : c < 1048576) : EvV (sumE 2 a b c) = .tuple #[.agg #[.int .i64 2, .int .i64 (sumR 2 a b c), .string ⟨#[]⟩], .int .i64 0] := by
  have hk : KindV F0 G0 (sumE 2 a b c) = (2, 0) := by
    unfold KindV
    rw [if_neg (by simp [sumE])]
    simp only [sumE, kindsV, kind_num, if_true, List.nil_append, List.cons_append]
    rfl
  have n0 : nodeV [numV a] (nb 4 0 0) = some (numV (-(a : Int))) := by
    have e : nodeV [numV a] (nb 4 0 0) = if ok64 (-(a : Int)) then some (numV (-(a : Int))) else none := rfl
    rw [e, if_pos (ok_of (by omega) (by omega))]
  have n1 : nodeV [numV a, numV (-(a : Int)), numV b] (nb 15 1 2) = some (numV (-(a : Int) - b)) := by
    have e : nodeV [numV a, numV (-(a : Int)), numV b] (nb 15 1 2) = if ok64 (-(a : Int) - b) then some (numV (-(a : Int) - b)) else none := rfl
    rw [e, if_pos (ok_of (by omega) (by omega))]
  have n2 : nodeV [numV a, numV (-(a : Int)), numV b, numV (-(a : Int) - b), numV c] (nb 15 3 4) = some (numV (-(a : Int) - b - c)) := by
    have e : nodeV [numV a, numV (-(a : Int)), numV b, numV (-(a : Int) - b), numV c] (nb 15 3 4) = if ok64 (-(a : Int) - b - c) then some (numV (-(a : Int) - b - c)) else none := rfl
    rw [e, if_pos (ok_of (by omega) (by omega))]
  have hr : sumR 2 a b c = -(a : Int) - b - c := by
    unfold sumR
    simp only
  rw [hr]
  have hv : valsV (sumE 2 a b c) [] = some [numV a, numV (-(a : Int)), numV b, numV (-(a : Int) - b), numV c, numV (-(a : Int) - b - c)] := by
    simp only [sumE, valsV, nodeV_num, Option.bind_some, List.nil_append, List.cons_append, n0, n1, n2]
  exact ev_of hk hv rfl
theorem sum_ev3 (a b c : Nat) (ha : a < 1048576) (hb : b < 1048576) (hc : c < 1048576) : EvV (sumE 3 a b c) = .tuple #[.agg #[.int .i64 2, .int .i64 (sumR 3 a b c), .string ⟨#[]⟩], .int .i64 0] := by
  obtain ⟨m1, m2⟩ := mul_bd (x := (a : Int)) (y := (b : Int)) (by omega) (by omega) (by omega) (by omega)
  have mn : (a : Int) * -(b : Int) = -((a : Int) * b) := Int.mul_neg _ _
  have hk : KindV F0 G0 (sumE 3 a b c) = (2, 0) := by
    unfold KindV
    rw [if_neg (by simp [sumE])]
    simp only [sumE, kindsV, kind_num, if_true, List.nil_append, List.cons_append]
    rfl
  have n0 : nodeV [numV a, numV b] (nb 4 1 0) = some (numV (-(b : Int))) := by
    have e : nodeV [numV a, numV b] (nb 4 1 0) = if ok64 (-(b : Int)) then some (numV (-(b : Int))) else none := rfl
    rw [e, if_pos (ok_of (by omega) (by omega))]
  have n1 : nodeV [numV a, numV b, numV (-(b : Int))] (nb 16 0 2) = some (numV ((a : Int) * -(b : Int))) := by
    have e : nodeV [numV a, numV b, numV (-(b : Int))] (nb 16 0 2) = if ok64 ((a : Int) * -(b : Int)) then some (numV ((a : Int) * -(b : Int))) else none := rfl
    rw [e, if_pos (ok_of (by omega) (by omega))]
  have n2 : nodeV [numV a, numV b, numV (-(b : Int)), numV ((a : Int) * -(b : Int)), numV c] (nb 14 3 4) = some (numV ((a : Int) * -(b : Int) + c)) := by
    have e : nodeV [numV a, numV b, numV (-(b : Int)), numV ((a : Int) * -(b : Int)), numV c] (nb 14 3 4) = if ok64 ((a : Int) * -(b : Int) + c) then some (numV ((a : Int) * -(b : Int) + c)) else none := rfl
    rw [e, if_pos (ok_of (by omega) (by omega))]
  have hr : sumR 3 a b c = (a : Int) * -(b : Int) + c := by
    unfold sumR
    simp only
    omega
  rw [hr]
  have hv : valsV (sumE 3 a b c) [] = some [numV a, numV b, numV (-(b : Int)), numV ((a : Int) * -(b : Int)), numV c, numV ((a : Int) * -(b : Int) + c)] := by
    simp only [sumE, valsV, nodeV_num, Option.bind_some, List.nil_append, List.cons_append, n0, n1, n2]
  exact ev_of hk hv rfl
theorem sum_ev (i a b c : Nat) (ha : a < 1048576) (hb : b < 1048576) (hc : c < 1048576) (hi : i < 4) : EvV (sumE i a b c) = .tuple #[.agg #[.int .i64 2, .int .i64 (sumR i a b c), .string ⟨#[]⟩], .int .i64 0] := by
  have : i = 0 ∨ i = 1 ∨ i = 2 ∨ i = 3 := by omega
  rcases this with rfl | rfl | rfl | rfl
  · exact sum_ev0 a b c ha hb hc
  · exact sum_ev1 a b c ha hb hc
  · exact sum_ev2 a b c ha hb hc
  · exact sum_ev3 a b c ha hb hc
theorem num_fine (a : Nat) (ha : a < 1048576) : (num2 a).op ≠ 2 ∧ (num2 a).v.s.size ≤ maxLen ∧ ok64 (num2 a).v.n := fine_nv (a : Int) (ok_of (by omega) (by omega))
theorem nb_fine (op x y : Int) (h : op ≠ 2) : (nb op x y).op ≠ 2 ∧ (nb op x y).v.s.size ≤ maxLen ∧ ok64 (nb op x y).v.n := ⟨h, show ByteArray.empty.size ≤ maxLen by decide, show ok64 0 by unfold ok64; omega⟩
theorem sum_fine (i a b c : Nat) (ha : a < 1048576) (hb : b < 1048576) (hc : c < 1048576) : ∀ n ∈ sumE i a b c, n.op ≠ 2 ∧ n.v.s.size ≤ maxLen ∧ ok64 n.v.n := by
  intro n hn
  unfold sumE at hn
  split at hn <;>
  · simp only [List.mem_cons, List.not_mem_nil, or_false] at hn
    rcases hn with rfl | rfl | rfl | rfl | rfl | rfl | rfl <;> first | exact num_fine _ (by omega) | exact nb_fine _ _ _ (by decide)
theorem sum_len (i a b c : Nat) : 0 < (sumE i a b c).length := by
  unfold sumE
  split <;> simp

theorem neqS (k n : Int) (s : ByteArray) (k' n' : Int) (s' : ByteArray) (c : Bool) (hc : (!vEq k n s k' n' s') = c) (w : World) : (binOp .neq 30 (.agg #[.int .i64 k, .int .i64 n, .string s]) (.agg #[.int .i64 k', .int .i64 n', .string s'])).run Try.prog w = .ok (.bool c) w := by
  subst hc; exact neqV _ _ _ _ _ _ w
theorem sumT_len (i a b c : Nat) (ha : a < 1048576) (hb : b < 1048576) (hc : c < 1048576) : (sumT i a b c).length ≤ 600 := by
  have la := digs_19 a (by omega)
  have lb := digs_19 b (by omega)
  have lc := digs_19 c (by omega)
  unfold sumT
  split <;> simp <;> omega
theorem dig7 (a : Nat) (h : a < 1048576) : (digs a).length ≤ 7 := digs_len 6 a (by omega)
theorem enc_cells (es : List Nd) : flatK encNd es = cellsN es := rfl
theorem str_j {s t : ByteArray} {l m k : List UInt8} (h : lx.Str s l) (h2 : lx.Str t m) (e : l ++ m = k) : lx.Str (s ++ t) k := ⟨by rw [h.eq, h2.eq, app_mk', e]⟩
theorem str_l (l : List UInt8) : lx.Str ⟨l.toArray⟩ l := ⟨rfl⟩
theorem sum_str0 (a b c : Nat) (sx sy sz : ByteArray) (hx : lx.Str sx (digs a)) (hy : lx.Str sy (digs b)) (hz : lx.Str sz (digs c)) : lx.Str ((((sx ++ (⟨#[32, 43, 32]⟩ : ByteArray)) ++ sy) ++ (⟨#[32, 42, 32]⟩ : ByteArray)) ++ sz) (sumT 0 a b c) := by
  exact (str_j (str_j (str_j (str_j hx (str_l [32, 43, 32]) rfl) hy rfl) (str_l [32, 42, 32]) rfl) hz (by simp [sumT]))
theorem sum_str1 (a b c : Nat) (sx sy sz : ByteArray) (hx : lx.Str sx (digs a)) (hy : lx.Str sy (digs b)) (hz : lx.Str sz (digs c)) : lx.Str ((((((⟨#[40]⟩ : ByteArray) ++ sx) ++ (⟨#[32, 45, 32]⟩ : ByteArray)) ++ sy) ++ (⟨#[41, 32, 42, 32]⟩ : ByteArray)) ++ sz) (sumT 1 a b c) := by
  exact (str_j (str_j (str_j (str_j (str_j (str_l [40]) hx rfl) (str_l [32, 45, 32]) rfl) hy rfl) (str_l [41, 32, 42, 32]) rfl) hz (by simp [sumT]))
theorem sum_str2 (a b c : Nat) (sx sy sz : ByteArray) (hx : lx.Str sx (digs a)) (hy : lx.Str sy (digs b)) (hz : lx.Str sz (digs c)) : lx.Str ((((((⟨#[45, 32]⟩ : ByteArray) ++ sx) ++ (⟨#[32, 45, 32]⟩ : ByteArray)) ++ sy) ++ (⟨#[32, 45, 32]⟩ : ByteArray)) ++ sz) (sumT 2 a b c) := by
  exact (str_j (str_j (str_j (str_j (str_j (str_l [45, 32]) hx rfl) (str_l [32, 45, 32]) rfl) hy rfl) (str_l [32, 45, 32]) rfl) hz (by simp [sumT]))
theorem sum_str3 (a b c : Nat) (sx sy sz : ByteArray) (hx : lx.Str sx (digs a)) (hy : lx.Str sy (digs b)) (hz : lx.Str sz (digs c)) : lx.Str ((((sx ++ (⟨#[32, 42, 32, 45, 32]⟩ : ByteArray)) ++ sy) ++ (⟨#[32, 43, 32]⟩ : ByteArray)) ++ sz) (sumT 3 a b c) := by
  exact (str_j (str_j (str_j (str_j hx (str_l [32, 42, 32, 45, 32]) rfl) hy rfl) (str_l [32, 43, 32]) rfl) hz (by simp [sumT]))
theorem four_ {w : World} {g : Nat} {t : TypeId} {x0 x1 x2 x3 : Value} (h : Blk w g t #[x0, x1, x2, x3]) (k : Nat) (hk : k < 4) : w.cell? ⟨g, k, none⟩ = some ([x0, x1, x2, x3].getD k x0) := by
  rw [h.cell]
  have : k = 0 ∨ k = 1 ∨ k = 2 ∨ k = 3 := by omega
  rcases this with rfl | rfl | rfl | rfl <;> rfl
set_option maxRecDepth 1000000 in
set_option maxHeartbeats 4000000 in
theorem sums_walk (a b c : Int) (w : World) (ha : ok64 a) (hb : ok64 b) (hc : ok64 c) :
    Calls Try.prog 10 #[.int .i64 a, .int .i64 b, .int .i64 c] w fun e w' => e = .returned (.bool true) ∧ Below w.heap.size w w' := by
  obtain ⟨x, hx, hx2⟩ : ∃ x : Nat, a % 1048576 = x ∧ x < 1048576 := ⟨(a % 1048576).toNat, by omega, by omega⟩
  have Hx := Lib.hid hx
  clear hx
  have dlx := dig7 x hx2
  have Dx := Lib.hid (fun W => rdigits_ x W (by omega))
  obtain ⟨sx, hsx⟩ : ∃ s : ByteArray, ⟨(digs x).toArray⟩ = s := ⟨_, rfl⟩
  have Dx := Dx.out
  rw [hsx] at Dx
  have Dx := Lib.hid Dx
  have Sx : lx.Str sx (digs x) := ⟨hsx.symm⟩
  have zx : sx.size ≤ 7 := by rw [Sx.size]; exact dlx
  clear hsx dlx
  obtain ⟨y, hy, hy2⟩ : ∃ y : Nat, b % 1048576 = y ∧ y < 1048576 := ⟨(b % 1048576).toNat, by omega, by omega⟩
  have Hy := Lib.hid hy
  clear hy
  have dly := dig7 y hy2
  have Dy := Lib.hid (fun W => rdigits_ y W (by omega))
  obtain ⟨sy, hsy⟩ : ∃ s : ByteArray, ⟨(digs y).toArray⟩ = s := ⟨_, rfl⟩
  have Dy := Dy.out
  rw [hsy] at Dy
  have Dy := Lib.hid Dy
  have Sy : lx.Str sy (digs y) := ⟨hsy.symm⟩
  have zy : sy.size ≤ 7 := by rw [Sy.size]; exact dly
  clear hsy dly
  obtain ⟨z, hz, hz2⟩ : ∃ z : Nat, c % 1048576 = z ∧ z < 1048576 := ⟨(c % 1048576).toNat, by omega, by omega⟩
  have Hz := Lib.hid hz
  clear hz
  have dlz := dig7 z hz2
  have Dz := Lib.hid (fun W => rdigits_ z W (by omega))
  obtain ⟨sz, hsz⟩ : ∃ s : ByteArray, ⟨(digs z).toArray⟩ = s := ⟨_, rfl⟩
  have Dz := Dz.out
  rw [hsz] at Dz
  have Dz := Lib.hid Dz
  have Sz : lx.Str sz (digs z) := ⟨hsz.symm⟩
  have zz : sz.size ≤ 7 := by rw [Sz.size]; exact dlz
  clear hsz dlz
  have ST0 := Lib.hid (sum_str0 x y z sx sy sz Sx Sy Sz)
  have ST1 := Lib.hid (sum_str1 x y z sx sy sz Sx Sy Sz)
  have ST2 := Lib.hid (sum_str2 x y z sx sy sz Sx Sy Sz)
  have ST3 := Lib.hid (sum_str3 x y z sx sy sz Sx Sy Sz)
  clear Sx Sy Sz
  have p0 : (sx ++ (⟨#[32, 43, 32]⟩ : ByteArray)).size ≤ 10 := by have h1 : (⟨#[32, 43, 32]⟩ : ByteArray).size = 3 := rfl; rw [ByteArray.size_append]; omega
  have p1 : ((sx ++ (⟨#[32, 43, 32]⟩ : ByteArray)) ++ sy).size ≤ 17 := by rw [ByteArray.size_append]; omega
  have p2 : (((sx ++ (⟨#[32, 43, 32]⟩ : ByteArray)) ++ sy) ++ (⟨#[32, 42, 32]⟩ : ByteArray)).size ≤ 20 := by have h1 : (⟨#[32, 42, 32]⟩ : ByteArray).size = 3 := rfl; rw [ByteArray.size_append]; omega
  have p3 : ((((sx ++ (⟨#[32, 43, 32]⟩ : ByteArray)) ++ sy) ++ (⟨#[32, 42, 32]⟩ : ByteArray)) ++ sz).size ≤ 27 := by rw [ByteArray.size_append]; omega
  have p4 : ((⟨#[40]⟩ : ByteArray) ++ sx).size ≤ 8 := by have h0 : (⟨#[40]⟩ : ByteArray).size = 1 := rfl; rw [ByteArray.size_append]; omega
  have p5 : (((⟨#[40]⟩ : ByteArray) ++ sx) ++ (⟨#[32, 45, 32]⟩ : ByteArray)).size ≤ 11 := by have h1 : (⟨#[32, 45, 32]⟩ : ByteArray).size = 3 := rfl; rw [ByteArray.size_append]; omega
  have p6 : ((((⟨#[40]⟩ : ByteArray) ++ sx) ++ (⟨#[32, 45, 32]⟩ : ByteArray)) ++ sy).size ≤ 18 := by rw [ByteArray.size_append]; omega
  have p7 : (((((⟨#[40]⟩ : ByteArray) ++ sx) ++ (⟨#[32, 45, 32]⟩ : ByteArray)) ++ sy) ++ (⟨#[41, 32, 42, 32]⟩ : ByteArray)).size ≤ 22 := by have h1 : (⟨#[41, 32, 42, 32]⟩ : ByteArray).size = 4 := rfl; rw [ByteArray.size_append]; omega
  have p8 : ((((((⟨#[40]⟩ : ByteArray) ++ sx) ++ (⟨#[32, 45, 32]⟩ : ByteArray)) ++ sy) ++ (⟨#[41, 32, 42, 32]⟩ : ByteArray)) ++ sz).size ≤ 29 := by rw [ByteArray.size_append]; omega
  have p9 : ((⟨#[45, 32]⟩ : ByteArray) ++ sx).size ≤ 9 := by have h0 : (⟨#[45, 32]⟩ : ByteArray).size = 2 := rfl; rw [ByteArray.size_append]; omega
  have p10 : (((⟨#[45, 32]⟩ : ByteArray) ++ sx) ++ (⟨#[32, 45, 32]⟩ : ByteArray)).size ≤ 12 := by have h1 : (⟨#[32, 45, 32]⟩ : ByteArray).size = 3 := rfl; rw [ByteArray.size_append]; omega
  have p11 : ((((⟨#[45, 32]⟩ : ByteArray) ++ sx) ++ (⟨#[32, 45, 32]⟩ : ByteArray)) ++ sy).size ≤ 19 := by rw [ByteArray.size_append]; omega
  have p12 : (((((⟨#[45, 32]⟩ : ByteArray) ++ sx) ++ (⟨#[32, 45, 32]⟩ : ByteArray)) ++ sy) ++ (⟨#[32, 45, 32]⟩ : ByteArray)).size ≤ 22 := by have h1 : (⟨#[32, 45, 32]⟩ : ByteArray).size = 3 := rfl; rw [ByteArray.size_append]; omega
  have p13 : ((((((⟨#[45, 32]⟩ : ByteArray) ++ sx) ++ (⟨#[32, 45, 32]⟩ : ByteArray)) ++ sy) ++ (⟨#[32, 45, 32]⟩ : ByteArray)) ++ sz).size ≤ 29 := by rw [ByteArray.size_append]; omega
  have p14 : (sx ++ (⟨#[32, 42, 32, 45, 32]⟩ : ByteArray)).size ≤ 12 := by have h1 : (⟨#[32, 42, 32, 45, 32]⟩ : ByteArray).size = 5 := rfl; rw [ByteArray.size_append]; omega
  have p15 : ((sx ++ (⟨#[32, 42, 32, 45, 32]⟩ : ByteArray)) ++ sy).size ≤ 19 := by rw [ByteArray.size_append]; omega
  have p16 : (((sx ++ (⟨#[32, 42, 32, 45, 32]⟩ : ByteArray)) ++ sy) ++ (⟨#[32, 43, 32]⟩ : ByteArray)).size ≤ 22 := by have h1 : (⟨#[32, 43, 32]⟩ : ByteArray).size = 3 := rfl; rw [ByteArray.size_append]; omega
  have p17 : ((((sx ++ (⟨#[32, 42, 32, 45, 32]⟩ : ByteArray)) ++ sy) ++ (⟨#[32, 43, 32]⟩ : ByteArray)) ++ sz).size ≤ 29 := by rw [ByteArray.size_append]; omega
  obtain ⟨m1, m2⟩ := mul_bd (x := (y : Int)) (y := (z : Int)) (by omega) (by omega) (by omega) (by omega)
  obtain ⟨m3, m4⟩ := mul_bd (x := (x : Int) - y) (y := (z : Int)) (by omega) (by omega) (by omega) (by omega)
  obtain ⟨m5, m6⟩ := mul_bd (x := (x : Int)) (y := (y : Int)) (by omega) (by omega) (by omega) (by omega)
  have HT := Lib.hid (fun k (hk : k < 4) => sum_expr k x y z hx2 hy2 hz2 hk)
  have HE := Lib.hid (fun k (hk : k < 4) => sum_ev k x y z hx2 hy2 hz2 hk)
  have HF := Lib.hid (fun k => sum_fine k x y z hx2 hy2 hz2)
  go_enter Try.func10, Try.ntmps10
  go_wp2_with fail
  refine (known _).mono ?_
  rintro e w1 ⟨rfl, hb1⟩
  go_wp2_with fail
  refine (withinr _ _ _ Hx.out _ (by decide) (by decide) ha).mono ?_
  rintro e w2 ⟨rfl, rfl⟩
  go_wp2_with fail
  refine (withinr _ _ _ Hy.out _ (by decide) (by decide) hb).mono ?_
  rintro e w2 ⟨rfl, rfl⟩
  go_wp2_with fail
  refine (withinr _ _ _ Hz.out _ (by decide) (by decide) hc).mono ?_
  rintro e w2 ⟨rfl, rfl⟩
  go_wp2_with fail
  refine (Dx.out _).mono ?_
  rintro e w2 ⟨rfl, hb2⟩
  go_wp2_with fail
  refine (Dy.out _).mono ?_
  rintro e w3 ⟨rfl, hb3⟩
  go_wp2_with fail
  refine (Dz.out _).mono ?_
  rintro e w4 ⟨rfl, hb4⟩
  have hb4 : Below w1.heap.size w1 w4 := ev.bch0 (ev.bch0 hb2 hb3) hb4
  clear hb2 hb3
  go_wp2_with fail
  obtain ⟨W, hW_, hbW, BS, BN⟩ : ∃ W_, W_ = ((w4.alloc (.cells #[.string ((((sx ++ (⟨#[32, 43, 32]⟩ : ByteArray)) ++ sy) ++ (⟨#[32, 42, 32]⟩ : ByteArray)) ++ sz), .string ((((((⟨#[40]⟩ : ByteArray) ++ sx) ++ (⟨#[32, 45, 32]⟩ : ByteArray)) ++ sy) ++ (⟨#[41, 32, 42, 32]⟩ : ByteArray)) ++ sz), .string ((((((⟨#[45, 32]⟩ : ByteArray) ++ sx) ++ (⟨#[32, 45, 32]⟩ : ByteArray)) ++ sy) ++ (⟨#[32, 45, 32]⟩ : ByteArray)) ++ sz), .string ((((sx ++ (⟨#[32, 42, 32, 45, 32]⟩ : ByteArray)) ++ sy) ++ (⟨#[32, 43, 32]⟩ : ByteArray)) ++ sz)] 9)).alloc (.cells #[.int .i64 ((x : Int) + y * z), .int .i64 (((x : Int) - y) * z), .int .i64 (-(x : Int) - y - z), .int .i64 ((z : Int) - x * y)] 3)) ∧ Below w4.heap.size w4 W_ ∧ Blk W_ (w4.heap.size) 9 #[.string ((((sx ++ (⟨#[32, 43, 32]⟩ : ByteArray)) ++ sy) ++ (⟨#[32, 42, 32]⟩ : ByteArray)) ++ sz), .string ((((((⟨#[40]⟩ : ByteArray) ++ sx) ++ (⟨#[32, 45, 32]⟩ : ByteArray)) ++ sy) ++ (⟨#[41, 32, 42, 32]⟩ : ByteArray)) ++ sz), .string ((((((⟨#[45, 32]⟩ : ByteArray) ++ sx) ++ (⟨#[32, 45, 32]⟩ : ByteArray)) ++ sy) ++ (⟨#[32, 45, 32]⟩ : ByteArray)) ++ sz), .string ((((sx ++ (⟨#[32, 42, 32, 45, 32]⟩ : ByteArray)) ++ sy) ++ (⟨#[32, 43, 32]⟩ : ByteArray)) ++ sz)] ∧ Blk W_ (w4.heap.size + 1) 3 #[.int .i64 ((x : Int) + y * z), .int .i64 (((x : Int) - y) * z), .int .i64 (-(x : Int) - y - z), .int .i64 ((z : Int) - x * y)] :=
    ⟨_, rfl, (((Below.refl _ _).alloc (Nat.le_refl _) _).alloc (by simp; try omega) _), ((blk_new_at w4 (w4.heap.size) _ _ (by simp)).alloc _), (blk_new_at (w4.alloc (.cells #[.string ((((sx ++ (⟨#[32, 43, 32]⟩ : ByteArray)) ++ sy) ++ (⟨#[32, 42, 32]⟩ : ByteArray)) ++ sz), .string ((((((⟨#[40]⟩ : ByteArray) ++ sx) ++ (⟨#[32, 45, 32]⟩ : ByteArray)) ++ sy) ++ (⟨#[41, 32, 42, 32]⟩ : ByteArray)) ++ sz), .string ((((((⟨#[45, 32]⟩ : ByteArray) ++ sx) ++ (⟨#[32, 45, 32]⟩ : ByteArray)) ++ sy) ++ (⟨#[32, 45, 32]⟩ : ByteArray)) ++ sz), .string ((((sx ++ (⟨#[32, 42, 32, 45, 32]⟩ : ByteArray)) ++ sy) ++ (⟨#[32, 43, 32]⟩ : ByteArray)) ++ sz)] 9)) (w4.heap.size + 1) _ _ (by simp))⟩
  rw [← hW_]
  clear hW_
  have QS : ∀ k, k < 4 → ∃ s n, W.cell? ⟨w4.heap.size, k, none⟩ = some (.string s) ∧ lx.Str s (sumT k x y z) ∧ W.cell? ⟨w4.heap.size + 1, k, none⟩ = some (.int .i64 n) ∧ n = sumR k x y z := by
    intro k hk
    rw [BS.cell, BN.cell]
    have : k = 0 ∨ k = 1 ∨ k = 2 ∨ k = 3 := by omega
    rcases this with rfl | rfl | rfl | rfl
    · exact ⟨_, _, rfl, ST0.out, rfl, rfl⟩
    · exact ⟨_, _, rfl, ST1.out, rfl, rfl⟩
    · exact ⟨_, _, rfl, ST2.out, rfl, rfl⟩
    · exact ⟨_, _, rfl, ST3.out, rfl, rfl⟩
  have QS := Lib.hid QS
  have hW1 : w4.heap.size < W.heap.size := BS.lt
  have hW2 : w4.heap.size + 1 < W.heap.size := BN.lt
  have hbz : Below w.heap.size w W := ev.bch0 hb1 (ev.bch0 hb4 hbW)
  generalize w4.heap.size = g4 at *
  clear BS BN ST0 ST1 ST2 ST3 Dx Dy Dz hb1 hb4 hbW m1 m2 m3 m4 m5 m6 p0 p1 p2 p3 p4 p5 p6 p7 p8 p9 p10 p11 p12 p13 p14 p15 p16 p17
  go_loopw [12] (fun i wr => ∃ k : Nat, k ≤ 4 ∧ i = .int .i64 k ∧ Below W.heap.size W wr) (fun i _ => 4 - (intOf i).toNat)
  case atStart => exact ⟨0, by omega, rfl, Below.refl _ _⟩
  case round =>
    obtain ⟨k, hk4, rfl, hbk⟩ := hrel
    rcases Nat.lt_or_ge k 4 with hlt | hge
    · have hd : decide ((k : Int) < 4) = true := by simp; omega
      have hk5 : (k : Int) < 4 := by omega
      obtain ⟨s, n, q1, hst, q2, rfl⟩ := QS.out k hlt
      have qs : wr.cell? ⟨g4, k, none⟩ = some (.string s) := (hbk.cell (by exact hW1)).trans q1
      have qn : ∀ w', Below wr.heap.size wr w' → w'.cell? ⟨g4 + 1, k, none⟩ = some (.int .i64 (sumR k x y z)) := fun w' h => ((ev.bch0 hbk h).cell (by exact hW2)).trans q2
      clear q1 q2
      have hll : (sumT k x y z).length ≤ 100000 := Nat.le_trans (sumT_len k x y z (by omega) (by omega) (by omega)) (by omega)
      have HC := Lib.hid (show ∀ W, Calls Try.prog 15 #[.string s] W (ExprP (0, sumE k x y z) W) by
        intro W
        have h := rexpr_ s (sumT k x y z) hst hll W
        rw [HT.out k hlt] at h
        exact h)
      have HEV := Lib.hid (HE.out k hlt)
      have HFV := Lib.hid (HF.out k)
      have hpos := sum_len k x y z
      generalize sumR k x y z = n at *
      generalize sumE k x y z = es at *
      have e1 := fun W => neqS 2 n ⟨#[]⟩ 2 n ⟨#[]⟩ false (by simp [vEq]; rfl) W
      clear hst hll
      go_wp2_with fail
      refine (HC.out _).mono ?_
      rintro e w5 ⟨A, m, cp, rfl, rfl, hown, hb5⟩
      have HNS := Lib.hid (Nds.of_own hown hpos)
      clear hown
      simp only
      go_wp2_with fail
      refine (ValueC es _ A es.length cp w5.heap.size _ _ w5 HEV.out rfl (Nat.le_refl _) HNS.out HFV.out).mono ?_
      rintro e w6 ⟨rfl, hb6⟩
      have hb7 : Below wr.heap.size wr w6 := ev.bch0 hb5 hb6
      clear qs
      go_wp2_with fail
      obtain ⟨W7, hW_, hbW7, BV⟩ : ∃ W_, W_ = (w6.alloc (.cells #[.int .i64 2, .int .i64 n, .string ⟨#[]⟩] 30)) ∧ Below w6.heap.size w6 W_ ∧ Blk W_ (w6.heap.size) 30 #[.int .i64 2, .int .i64 n, .string ⟨#[]⟩] :=
        ⟨_, rfl, ((Below.refl _ _).alloc (Nat.le_refl _) _), (blk_new_at w6 (w6.heap.size) _ _ (by simp))⟩
      rw [← hW_]
      clear hW_
      have D := fun w' (h : Below W7.heap.size W7.drew w') => BV.three (Below.trans (Below.refl _ _).drew h)
      have DN := fun w' (h : Below W7.heap.size W7.drew w') => qn w' (ev.bch0 (ev.bch0 hb7 hbW7) (Below.trans (Below.refl _ _).drew h))
      refine wp_region_one [(0, true), (1, true), (2, true), (3, true), (4, true), (5, true), (6, true), (7, true), (8, true), (9, true), (10, true), (11, true), (12, true), (13, true), (14, true)] (by kernel_rfl) (by kernel_rfl) (by kernel_rfl) (by decide) ?_
      repeat ((with_reducible show wpPerm _ _ _ _ ((_, true) :: _) _ _); (first | (refine wpPerm_on (v := ?_) rfl rfl (wanted_free rfl) (fun w' hS => ?_) ?_; rotate_left; (focus (go_simp; (try with_reducible rfl); done)); try simp only [List.setIfInBounds_toArray, List.set_cons_zero, List.set_cons_succ]) | (refine wpPerm_on (v := ?_) rfl rfl (wanted_yes rfl rfl rfl) (fun w' hS => ?_) ?_; rotate_left; (focus (go_simp; (try with_reducible rfl); done)); try simp only [List.setIfInBounds_toArray, List.set_cons_zero, List.set_cons_succ]) | (refine wpPerm_off rfl rfl (wanted_no rfl rfl rfl) ?_; try simp only [List.setIfInBounds_toArray, List.set_cons_zero, List.set_cons_succ]) | (refine wpPerm_off rfl rfl (wanted_undef rfl rfl rfl) ?_; try simp only [List.setIfInBounds_toArray, List.set_cons_zero, List.set_cons_succ])))
      refine wpPerm_done ?_
      clear D DN
      go_wp2
      go_roundw
      case rel => exact ⟨k + 1, by omega, by go_num, ev.bch0 hbk ((ev.bch0 hb7 hbW7).drew)⟩
      case measure => simp [intOf]; omega
    · have hd : decide ((k : Int) < 4) = false := by simp; omega
      go_wp2
      go_ret
      exact ⟨rfl, ev.bch0 hbz hbk⟩
end Go.Proofs.Ytfgmlgflfagdjaa.ps
