/- The program's parser: or, and, sum, product; not, minus. Printed by gen13.py. -/
import Derived.Test.YtfnceamkephpjaaGreatP12
import Derived.Shelf.Abstract
namespace Go.Proofs.YtfnceamkephpjaaGreat.pg
open Go.ChangeShapes Go.WideShapes Go.ChangeAt Go.RowKit Go.Proofs.YtfnceamkephpjaaGreat.lib Go.Proofs.YtfnceamkephpjaaGreat.lx
set_option linter.unusedVariables false

set_option maxRecDepth 100000 in
theorem bor_ (W : List Wd) (f : Nat) (hs : RuleB 58 W 1 f) : RuleB 34 W 0 (f + 1) := by
  intro w g h b B x hn
  have HS := Lib.hid hs
  have X := Lib.hid x
  have hgl := x.pr.gl
  have hhl := x.hl
  have hlt := x.pr.lt
  obtain ⟨R, hR⟩ : ∃ R, pr W (f + 1) 0 B = R := ⟨_, rfl⟩
  have HR := Lib.hid (show pairsP W (pr W f 1) [([111, 114], 6)] B = R by rw [← hR]; conv => rhs; unfold pr)
  rw [hR]
  have hmm := @run_makeMap Tryz.prog
  have hmf : ∀ (fn : Fn) (first cap : Array Value) (w : World), (Instr.makeFunc fn first cap).run Tryz.prog w = .ok (.func fn first cap) w := fun _ _ _ _ => rfl
  clear hs x hR
  go_enter Tryz.func34, Tryz.ntmps34
  go_wp2_with (first | ((with_reducible show wpList _ _ _ (Oper.mk _ (Op.insert _ _ _ _) _ _ _ _ :: _) _ _); refine wpList_put_lit rfl _ _ _ 105 (.inl rfl) 9 3 Tryz.underlying105 Tryz.underlying9 w.heap.size [] rfl (MapAt.new _) [111, 114] (.int .i64 6) rfl rfl (by rfl) ?_; intro v1 hM1 hg1))
  have hM : MapAt v1 w.heap.size (opsM [([111, 114], 6)]) := hM1
  have hbw : Below w.heap.size w v1 := (((Below.refl w.heap.size w).alloc (Nat.le_refl _) (.map #[] 0)).grown hg1 (by have := MapAt.new w; have := this.lt; omega) (by intro k hk; injection hk with hk; omega))
  have XB := Lib.hid (X.out.ext hbw)
  have HF1 := Lib.hid (Fr.of_below (g := g) (h := h) hbw)
  have HP := Lib.hid (pairs_ 58 W 1 f [([111, 114], 6)] HS.out (enters_of Tryz.func58 (by kernel_rfl) rfl) XB.out hM (by omega) (by omega) (by omega))
  replace HP := HP.out
  rw [HR.out] at HP
  replace HP := Lib.hid HP
  clear hmm hmf hM1 hg1 hM hbw
  go_wp2_with fail
  refine (HP.out).mono ?_
  rintro e w3 ⟨rfl, h3, hf3⟩
  have H3 := Lib.hid h3
  have HF3 := Lib.hid (HF1.out.tr hf3)
  clear h3 hf3
  go_wp2
  go_ret
  exact ⟨rfl, H3.out, HF3.out⟩
set_option maxRecDepth 100000 in
theorem band_ (W : List Wd) (f : Nat) (hs : RuleB 67 W 2 f) : RuleB 58 W 1 (f + 1) := by
  intro w g h b B x hn
  have HS := Lib.hid hs
  have X := Lib.hid x
  have hgl := x.pr.gl
  have hhl := x.hl
  have hlt := x.pr.lt
  obtain ⟨R, hR⟩ : ∃ R, pr W (f + 1) 1 B = R := ⟨_, rfl⟩
  have HR := Lib.hid (show pairsP W (pr W f 2) [([97, 110, 100], 7)] B = R by rw [← hR]; conv => rhs; unfold pr)
  rw [hR]
  have hmm := @run_makeMap Tryz.prog
  have hmf : ∀ (fn : Fn) (first cap : Array Value) (w : World), (Instr.makeFunc fn first cap).run Tryz.prog w = .ok (.func fn first cap) w := fun _ _ _ _ => rfl
  clear hs x hR
  go_enter Tryz.func58, Tryz.ntmps58
  go_wp2_with (first | ((with_reducible show wpList _ _ _ (Oper.mk _ (Op.insert _ _ _ _) _ _ _ _ :: _) _ _); refine wpList_put_lit rfl _ _ _ 105 (.inl rfl) 9 3 Tryz.underlying105 Tryz.underlying9 w.heap.size [] rfl (MapAt.new _) [97, 110, 100] (.int .i64 7) rfl rfl (by rfl) ?_; intro v1 hM1 hg1))
  have hM : MapAt v1 w.heap.size (opsM [([97, 110, 100], 7)]) := hM1
  have hbw : Below w.heap.size w v1 := (((Below.refl w.heap.size w).alloc (Nat.le_refl _) (.map #[] 0)).grown hg1 (by have := MapAt.new w; have := this.lt; omega) (by intro k hk; injection hk with hk; omega))
  have XB := Lib.hid (X.out.ext hbw)
  have HF1 := Lib.hid (Fr.of_below (g := g) (h := h) hbw)
  have HP := Lib.hid (pairs_ 67 W 2 f [([97, 110, 100], 7)] HS.out (enters_of Tryz.func67 (by kernel_rfl) rfl) XB.out hM (by omega) (by omega) (by omega))
  replace HP := HP.out
  rw [HR.out] at HP
  replace HP := Lib.hid HP
  clear hmm hmf hM1 hg1 hM hbw
  go_wp2_with fail
  refine (HP.out).mono ?_
  rintro e w3 ⟨rfl, h3, hf3⟩
  have H3 := Lib.hid h3
  have HF3 := Lib.hid (HF1.out.tr hf3)
  clear h3 hf3
  go_wp2
  go_ret
  exact ⟨rfl, H3.out, HF3.out⟩
set_option maxRecDepth 100000 in
theorem bsum_ (W : List Wd) (f : Nat) (hs : RuleB 92 W 5 f) : RuleB 82 W 4 (f + 1) := by
  intro w g h b B x hn
  have HS := Lib.hid hs
  have X := Lib.hid x
  have hgl := x.pr.gl
  have hhl := x.hl
  have hlt := x.pr.lt
  obtain ⟨R, hR⟩ : ∃ R, pr W (f + 1) 4 B = R := ⟨_, rfl⟩
  have HR := Lib.hid (show pairsP W (pr W f 5) [([43], 14), ([45], 15)] B = R by rw [← hR]; conv => rhs; unfold pr)
  rw [hR]
  have hmm := @run_makeMap Tryz.prog
  have hmf : ∀ (fn : Fn) (first cap : Array Value) (w : World), (Instr.makeFunc fn first cap).run Tryz.prog w = .ok (.func fn first cap) w := fun _ _ _ _ => rfl
  clear hs x hR
  go_enter Tryz.func82, Tryz.ntmps82
  go_wp2_with (first | ((with_reducible show wpList _ _ _ (Oper.mk _ (Op.insert _ _ _ _) _ _ _ _ :: _) _ _); refine wpList_put_lit rfl _ _ _ 105 (.inl rfl) 9 3 Tryz.underlying105 Tryz.underlying9 w.heap.size [] rfl (MapAt.new _) [43] (.int .i64 14) rfl rfl (by rfl) ?_; intro v1 hM1 hg1) | ((with_reducible show wpList _ _ _ (Oper.mk _ (Op.insert _ _ _ _) _ _ _ _ :: _) _ _); refine wpList_put_lit rfl _ _ _ 105 (.inl rfl) 9 3 Tryz.underlying105 Tryz.underlying9 w.heap.size [([43], Value.int .i64 14)] rfl hM1 [45] (.int .i64 15) rfl rfl (by rfl) ?_; intro v2 hM2 hg2))
  have hM : MapAt v2 w.heap.size (opsM [([43], 14), ([45], 15)]) := hM2
  have hbw : Below w.heap.size w v2 := ((((Below.refl w.heap.size w).alloc (Nat.le_refl _) (.map #[] 0)).grown hg1 (by have := MapAt.new w; have := this.lt; omega) (by intro k hk; injection hk with hk; omega)).grown hg2 (by have := hM1; have := this.lt; omega) (by intro k hk; injection hk with hk; omega))
  have XB := Lib.hid (X.out.ext hbw)
  have HF1 := Lib.hid (Fr.of_below (g := g) (h := h) hbw)
  have HP := Lib.hid (pairs_ 92 W 5 f [([43], 14), ([45], 15)] HS.out (enters_of Tryz.func92 (by kernel_rfl) rfl) XB.out hM (by omega) (by omega) (by omega))
  replace HP := HP.out
  rw [HR.out] at HP
  replace HP := Lib.hid HP
  clear hmm hmf hM1 hg1 hM2 hg2 hM hbw
  go_wp2_with fail
  refine (HP.out).mono ?_
  rintro e w3 ⟨rfl, h3, hf3⟩
  have H3 := Lib.hid h3
  have HF3 := Lib.hid (HF1.out.tr hf3)
  clear h3 hf3
  go_wp2
  go_ret
  exact ⟨rfl, H3.out, HF3.out⟩
set_option maxRecDepth 100000 in
theorem bproduct_ (W : List Wd) (f : Nat) (hs : RuleB 101 W 6 f) : RuleB 92 W 5 (f + 1) := by
  intro w g h b B x hn
  have HS := Lib.hid hs
  have X := Lib.hid x
  have hgl := x.pr.gl
  have hhl := x.hl
  have hlt := x.pr.lt
  obtain ⟨R, hR⟩ : ∃ R, pr W (f + 1) 5 B = R := ⟨_, rfl⟩
  have HR := Lib.hid (show pairsP W (pr W f 6) [([42], 16)] B = R by rw [← hR]; conv => rhs; unfold pr)
  rw [hR]
  have hmm := @run_makeMap Tryz.prog
  have hmf : ∀ (fn : Fn) (first cap : Array Value) (w : World), (Instr.makeFunc fn first cap).run Tryz.prog w = .ok (.func fn first cap) w := fun _ _ _ _ => rfl
  clear hs x hR
  go_enter Tryz.func92, Tryz.ntmps92
  go_wp2_with (first | ((with_reducible show wpList _ _ _ (Oper.mk _ (Op.insert _ _ _ _) _ _ _ _ :: _) _ _); refine wpList_put_lit rfl _ _ _ 105 (.inl rfl) 9 3 Tryz.underlying105 Tryz.underlying9 w.heap.size [] rfl (MapAt.new _) [42] (.int .i64 16) rfl rfl (by rfl) ?_; intro v1 hM1 hg1))
  have hM : MapAt v1 w.heap.size (opsM [([42], 16)]) := hM1
  have hbw : Below w.heap.size w v1 := (((Below.refl w.heap.size w).alloc (Nat.le_refl _) (.map #[] 0)).grown hg1 (by have := MapAt.new w; have := this.lt; omega) (by intro k hk; injection hk with hk; omega))
  have XB := Lib.hid (X.out.ext hbw)
  have HF1 := Lib.hid (Fr.of_below (g := g) (h := h) hbw)
  have HP := Lib.hid (pairs_ 101 W 6 f [([42], 16)] HS.out (enters_of Tryz.func101 (by kernel_rfl) rfl) XB.out hM (by omega) (by omega) (by omega))
  replace HP := HP.out
  rw [HR.out] at HP
  replace HP := Lib.hid HP
  clear hmm hmf hM1 hg1 hM hbw
  go_wp2_with fail
  refine (HP.out).mono ?_
  rintro e w3 ⟨rfl, h3, hf3⟩
  have H3 := Lib.hid h3
  have HF3 := Lib.hid (HF1.out.tr hf3)
  clear h3 hf3
  go_wp2
  go_ret
  exact ⟨rfl, H3.out, HF3.out⟩
set_option maxRecDepth 100000 in
theorem bnot_ (W : List Wd) (f : Nat) (hs : RuleB 67 W 2 f) (ht : RuleB 75 W 3 f) : RuleB 67 W 2 (f + 1) := by
  intro w g h b B x hn
  have HS := Lib.hid hs
  have HT := Lib.hid ht
  have X := Lib.hid x
  have c0 := x.cell
  have hlt := x.pr.lt
  have hW := Lib.hid x.pr.wok
  obtain ⟨R, hR⟩ : ∃ R, pr W (f + 1) 2 B = R := ⟨_, rfl⟩
  have HR := Lib.hid (show R = if okIs W [110, 111, 116] B.p = true then (match pr W f 2 (stepB B) with | (a, q) => putP (nd2 3 a 0) q) else pr W f 3 B by rw [← hR]; conv => lhs; unfold pr preP)
  rw [hR]
  have HI := Lib.hid (pis_ [110, 111, 116] x.pr)
  replace HI := HI.out
  unfold isP at HI
  obtain ⟨ok, hok⟩ : ∃ ok, okIs W [110, 111, 116] B.p = ok := ⟨_, rfl⟩
  have HK := Lib.hid (fun (e : ok = true) => (okIs_k (W := W) (s := [110, 111, 116]) (p := B.p) (by rw [hok, e])))
  replace HR := HR.out
  rw [hok] at HI HR
  replace HI := Lib.hid HI
  replace HR := Lib.hid HR
  clear hs ht x hR hok
  go_enter Tryz.func67, Tryz.ntmps67
  go_wp2_with fail
  refine (HI.out).mono ?_
  rintro e w2 ⟨rfl, h2, hg2⟩
  have X2 := Lib.hid (X.out.parser h2 hg2)
  have HF2 := Lib.hid (Fr.of_g (h := h) hg2)
  clear h2 hg2 c0
  cases ok with
  | false =>
    have hr : R = pr W f 3 B := by rw [HR.out, if_neg (by simp)]
    have HC := Lib.hid (HT.out w2 g h b B X2.out (by omega))
    replace HC := HC.out
    rw [← hr] at HC
    replace HC := Lib.hid HC
    clear hr
    go_wp2_with fail
    refine (HC.out).mono ?_
    rintro e w3 ⟨rfl, h3, hf3⟩
    have H3 := Lib.hid h3
    have HF3 := Lib.hid (HF2.out.tr hf3)
    clear h3 hf3
    go_wp2
    go_ret
    exact ⟨rfl, H3.out, HF3.out⟩
  | true =>
    have hk0 := HK.out (by first | rfl | trivial)
    have hsl := stepP_lt hW.out hk0
    have hr := HR.out
    rw [if_pos rfl] at hr
    have hc := HS.out w2 g h b (stepB B) X2.out (by show (W.length - (B.p.at_ + 1)) * 9 + (9 - 2) ≤ f; have : B.p.at_ + 1 < W.length := hsl; omega)
    obtain ⟨⟨a, q⟩, hq⟩ : ∃ X, pr W f 2 (stepB B) = X := ⟨_, rfl⟩
    rw [hq] at hr hc
    simp only at hr hc
    have HC := Lib.hid hc
    have HPT := Lib.hid (fun w' (y : Br w' g h W b q) => put_ (nd2 3 a 0) y)
    replace HPT := HPT.out
    rw [← hr] at HPT
    replace HPT := Lib.hid HPT
    clear hc hr hq hsl hk0
    go_wp2_with fail
    refine (HC.out).mono ?_
    rintro e w3 ⟨rfl, h3, hf3⟩
    have HF3 := Lib.hid (HF2.out.tr hf3)
    have HP3 := Lib.hid (HPT.out w3 h3)
    clear h3 hf3
    go_wp2_with fail
    refine (HP3.out).mono ?_
    rintro e w4 ⟨rfl, h4, hf4⟩
    have H4 := Lib.hid h4
    have HF4 := Lib.hid (HF3.out.tr hf4)
    clear h4 hf4
    go_wp2
    go_ret
    exact ⟨rfl, H4.out, HF4.out⟩
set_option maxRecDepth 100000 in
theorem bminus_ (W : List Wd) (f : Nat) (hs : RuleB 101 W 6 f) (ht : RuleB 102 W 7 f) : RuleB 101 W 6 (f + 1) := by
  intro w g h b B x hn
  have HS := Lib.hid hs
  have HT := Lib.hid ht
  have X := Lib.hid x
  have c0 := x.cell
  have hlt := x.pr.lt
  have hW := Lib.hid x.pr.wok
  obtain ⟨R, hR⟩ : ∃ R, pr W (f + 1) 6 B = R := ⟨_, rfl⟩
  have HR := Lib.hid (show R = if okIs W [45] B.p = true then (match pr W f 6 (stepB B) with | (a, q) => putP (nd2 4 a 0) q) else pr W f 7 B by rw [← hR]; conv => lhs; unfold pr preP)
  rw [hR]
  have HI := Lib.hid (pis_ [45] x.pr)
  replace HI := HI.out
  unfold isP at HI
  obtain ⟨ok, hok⟩ : ∃ ok, okIs W [45] B.p = ok := ⟨_, rfl⟩
  have HK := Lib.hid (fun (e : ok = true) => (okIs_k (W := W) (s := [45]) (p := B.p) (by rw [hok, e])))
  replace HR := HR.out
  rw [hok] at HI HR
  replace HI := Lib.hid HI
  replace HR := Lib.hid HR
  clear hs ht x hR hok
  go_enter Tryz.func101, Tryz.ntmps101
  go_wp2_with fail
  refine (HI.out).mono ?_
  rintro e w2 ⟨rfl, h2, hg2⟩
  have X2 := Lib.hid (X.out.parser h2 hg2)
  have HF2 := Lib.hid (Fr.of_g (h := h) hg2)
  clear h2 hg2 c0
  cases ok with
  | false =>
    have hr : R = pr W f 7 B := by rw [HR.out, if_neg (by simp)]
    have HC := Lib.hid (HT.out w2 g h b B X2.out (by omega))
    replace HC := HC.out
    rw [← hr] at HC
    replace HC := Lib.hid HC
    clear hr
    go_wp2_with fail
    refine (HC.out).mono ?_
    rintro e w3 ⟨rfl, h3, hf3⟩
    have H3 := Lib.hid h3
    have HF3 := Lib.hid (HF2.out.tr hf3)
    clear h3 hf3
    go_wp2
    go_ret
    exact ⟨rfl, H3.out, HF3.out⟩
  | true =>
    have hk0 := HK.out (by first | rfl | trivial)
    have hsl := stepP_lt hW.out hk0
    have hr := HR.out
    rw [if_pos rfl] at hr
    have hc := HS.out w2 g h b (stepB B) X2.out (by show (W.length - (B.p.at_ + 1)) * 9 + (9 - 6) ≤ f; have : B.p.at_ + 1 < W.length := hsl; omega)
    obtain ⟨⟨a, q⟩, hq⟩ : ∃ X, pr W f 6 (stepB B) = X := ⟨_, rfl⟩
    rw [hq] at hr hc
    simp only at hr hc
    have HC := Lib.hid hc
    have HPT := Lib.hid (fun w' (y : Br w' g h W b q) => put_ (nd2 4 a 0) y)
    replace HPT := HPT.out
    rw [← hr] at HPT
    replace HPT := Lib.hid HPT
    clear hc hr hq hsl hk0
    go_wp2_with fail
    refine (HC.out).mono ?_
    rintro e w3 ⟨rfl, h3, hf3⟩
    have HF3 := Lib.hid (HF2.out.tr hf3)
    have HP3 := Lib.hid (HPT.out w3 h3)
    clear h3 hf3
    go_wp2_with fail
    refine (HP3.out).mono ?_
    rintro e w4 ⟨rfl, h4, hf4⟩
    have H4 := Lib.hid h4
    have HF4 := Lib.hid (HF3.out.tr hf4)
    clear h4 hf4
    go_wp2
    go_ret
    exact ⟨rfl, H4.out, HF4.out⟩
end Go.Proofs.YtfnceamkephpjaaGreat.pg
