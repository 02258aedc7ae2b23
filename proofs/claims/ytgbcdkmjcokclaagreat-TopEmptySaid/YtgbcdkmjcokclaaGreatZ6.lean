/- Laws of its own that the claim's proof needs; no condition beyond those that each states. -/
import Derived.Test.YtgbcdkmjcokclaaGreatZ4
import Derived.Test.YtgbcdkmjcokclaaGreatZ1
import Derived.Laws.StructEq
import Derived.Deep.CutRange
import Derived.Lib.AppendZeros
import Derived.Laws.AppendOwnNone
import Derived.Test.YtgbcdkmjcokclaaGreatZ5
import Derived.ArgAppend
set_option linter.unusedVariables false
set_option maxRecDepth 1000000
set_option maxHeartbeats 16000000
namespace Go.Proofs.YtgbcdkmjcokclaaGreat.val
open Go.ChangeShapes Go.WideShapes Go.ChangeAt Go.RowKit Go.Proofs.YtgbcdkmjcokclaaGreat.lib
def bareN (k n:Int):Int:=if k=1∨k=2 then n else 0
def bareS (k:Int) (s:ByteArray):ByteArray:=if k=3 then s else ByteArray.empty
theorem bare (k n:Int) (s:ByteArray) (w:World) :
  Calls Tryz.prog 207 #[.agg #[.int .i64 k,.int .i64 n,.string s]] w fun e w'=>e=.returned (.agg #[.int .i64 k,.int .i64 (bareN k n),.string (bareS k s)])∧Below w.heap.size w w':=by
 go_enter Tryz.func207,Tryz.ntmps207
 go_wp2
 ·have h:k=3:=by simpa using ‹(k == 3)=true›
  exact bodyPost_ret (v:=.agg #[.int .i64 k,.int .i64 0,.string s]) (by simp [results,Tryz.results207,go_sem]) rfl
   ⟨by rw [bareN,bareS,if_neg (by omega),if_pos h],(((Below.refl _ _).alloc (Nat.le_refl _) _).alloc (by simp) _).alloc (by simp;omega) _⟩
 ·have h:k=1:=by simpa using ‹(k == 1)=true›
  exact bodyPost_ret (v:=.agg #[.int .i64 k,.int .i64 n,.string ByteArray.empty]) (by simp [results,Tryz.results207,go_sem];rfl) rfl
   ⟨by rw [bareN,bareS,if_pos (by omega),if_neg (by omega)],(((Below.refl _ _).alloc (Nat.le_refl _) _).alloc (by simp) _).alloc (by simp;omega) _⟩
 ·have h:k=2:=by simpa using ‹(k == 2)=true›
  exact bodyPost_ret (v:=.agg #[.int .i64 k,.int .i64 n,.string ByteArray.empty]) (by simp [results,Tryz.results207,go_sem];rfl) rfl
   ⟨by rw [bareN,bareS,if_pos (by omega),if_neg (by omega)],(((Below.refl _ _).alloc (Nat.le_refl _) _).alloc (by simp) _).alloc (by simp;omega) _⟩
 ·have h1:¬k=1:=by simpa using ‹(k == 1)=false›
  have h2:¬k=2:=by simpa using ‹(k == 2)=false›
  have h3:¬k=3:=by simpa using ‹(k == 3)=false›
  exact bodyPost_ret (v:=.agg #[.int .i64 k,.int .i64 0,.string ByteArray.empty]) (by simp [results,Tryz.results207,go_sem];rfl) rfl
   ⟨by rw [bareN,bareS,if_neg (by omega),if_neg (by omega)],(((Below.refl _ _).alloc (Nat.le_refl _) _).alloc (by simp) _).alloc (by simp;omega) _⟩
def vEq (k n:Int) (s:ByteArray) (k' n':Int) (s':ByteArray):Bool:=k == k' && (n == n' && s == s')
theorem neqV (k n:Int) (s:ByteArray) (k' n':Int) (s':ByteArray) (w:World) :
  (binOp .neq 58 (.agg #[.int .i64 k,.int .i64 n,.string s]) (.agg #[.int .i64 k',.int .i64 n',.string s'])).run Tryz.prog w=.ok (.bool (!vEq k n s k' n' s')) w:=by
 unfold vEq
 rw [beq_toListBytes]
 cases h1:k == k' <;> cases h2:n == n' <;> cases h3:s.toList == s'.toList <;> go_simp
def chk (k n:Int) (s:ByteArray):Int:=if k<0∨3<k then 3 else if vEq k n s k (bareN k n) (bareS k s)=false∨(k=1∧n≠0∧n≠1) then 1 else if 60<s.size then 5 else 0
theorem check1 (k n:Int) (s:ByteArray) (w:World) (hs:s.size≤maxLen) (hk:0≤k) (hk3:k≤3) (hv:vEq k n s k (bareN k n) (bareS k s)=false) :
  Calls Tryz.prog 174 #[.agg #[.int .i64 k,.int .i64 n,.string s]] w fun e w'=>e=.returned (.int .i64 (chk k n s))∧Below w.heap.size w w':=by
 unfold maxLen at hs
 have hne:=fun W=>neqV k n s k (bareN k n) (bareS k s) W
 go_enter Tryz.func174,Tryz.ntmps174
 go_wp2_with fail
 obtain ⟨W,hW,hB,hWs,c0,c1,c2⟩:∃ W,W=w.alloc (.cells #[.int .i64 k,.int .i64 n,.string s] 58) ∧
   Below w.heap.size w W∧w.heap.size<W.heap.size∧(∀ w',Below W.heap.size W.drew w'→w'.cell? ⟨w.heap.size,0,none⟩=some (.int .i64 k))∧(∀ w',Below W.heap.size W.drew w'→w'.cell? ⟨w.heap.size,1,none⟩=some (.int .i64 n)) ∧
   (∀ w',Below W.heap.size W.drew w'→w'.cell? ⟨w.heap.size,2,none⟩=some (.string s)) :=
  ⟨_,rfl,(Below.refl _ _).alloc (Nat.le_refl _) _,by simp,fun w' h=>(h.cell (p:=⟨_,_,_⟩) (by simp)).trans (by simp [go_sem]),fun w' h=>(h.cell (p:=⟨_,_,_⟩) (by simp)).trans (by simp [go_sem]),fun w' h=>(h.cell (p:=⟨_,_,_⟩) (by simp)).trans (by simp [go_sem])⟩
 rw [←hW]
 clear hW
 refine wp_region_one [(0,true),(1,true),(2,false),(3,true),(4,true),(5,true),(6,true),(7,true),(8,true),(9,true),(10,true),(11,true),(12,true),(13,true),(14,true),(15,true),(16,true),(17,true),(18,true),(19,true)] (by kernel_rfl) (by kernel_rfl) (by kernel_rfl) (by decide) ?_
 repeat ((with_reducible refine pG ?_);(first|refine pT ?_|refine pF ?_);try go_frame)
 refine pD fun K hK=>?_;go_simp
 refine (bare _ _ _ _).mono ?_
 rintro e w1 ⟨rfl,hb1⟩
 refine hK.out _ _ (Below.trans (Below.refl _ _) hb1) ?_
 clear hK K
 repeat ((with_reducible refine pG ?_);(first|refine pT ?_|refine pF ?_);try go_frame)
 refine wpPerm_done ?_
 have hx2:=c2 w1 (Below.trans (Below.refl _ _) hb1)
 clear c0 c1 c2 hne
 go_wp2
 go_ret
 exact ⟨ret_int (by rw [chk,if_neg (by omega),if_pos (by simp [hv])]),(Below.trans hB (Below.mono (Below.trans (Below.refl _ _).drew hb1) (by show _≤W.heap.size;omega)))⟩
theorem check2 (k n:Int) (s:ByteArray) (w:World) (hs:s.size≤maxLen) (hk:0≤k) (hk3:k≤3) (hv:vEq k n s k (bareN k n) (bareS k s)=true) (h1:(k == 1)=false) :
  Calls Tryz.prog 174 #[.agg #[.int .i64 k,.int .i64 n,.string s]] w fun e w'=>e=.returned (.int .i64 (chk k n s))∧Below w.heap.size w w':=by
 unfold maxLen at hs
 have hne:=fun W=>neqV k n s k (bareN k n) (bareS k s) W
 go_enter Tryz.func174,Tryz.ntmps174
 go_wp2_with fail
 obtain ⟨W,hW,hB,hWs,c0,c1,c2⟩:∃ W,W=w.alloc (.cells #[.int .i64 k,.int .i64 n,.string s] 58) ∧
   Below w.heap.size w W∧w.heap.size<W.heap.size∧(∀ w',Below W.heap.size W.drew w'→w'.cell? ⟨w.heap.size,0,none⟩=some (.int .i64 k))∧(∀ w',Below W.heap.size W.drew w'→w'.cell? ⟨w.heap.size,1,none⟩=some (.int .i64 n)) ∧
   (∀ w',Below W.heap.size W.drew w'→w'.cell? ⟨w.heap.size,2,none⟩=some (.string s)) :=
  ⟨_,rfl,(Below.refl _ _).alloc (Nat.le_refl _) _,by simp,fun w' h=>(h.cell (p:=⟨_,_,_⟩) (by simp)).trans (by simp [go_sem]),fun w' h=>(h.cell (p:=⟨_,_,_⟩) (by simp)).trans (by simp [go_sem]),fun w' h=>(h.cell (p:=⟨_,_,_⟩) (by simp)).trans (by simp [go_sem])⟩
 rw [←hW]
 clear hW
 refine wp_region_one [(0,true),(1,true),(2,false),(3,true),(4,true),(5,true),(6,true),(7,true),(8,true),(9,true),(10,true),(11,true),(12,true),(13,true),(14,true),(15,true),(16,true),(17,true),(18,true),(19,true)] (by kernel_rfl) (by kernel_rfl) (by kernel_rfl) (by decide) ?_
 repeat ((with_reducible refine pG ?_);(first|refine pT ?_|refine pF ?_);try go_frame)
 refine pD fun K hK=>?_;go_simp
 refine (bare _ _ _ _).mono ?_
 rintro e w1 ⟨rfl,hb1⟩
 refine hK.out _ _ (Below.trans (Below.refl _ _) hb1) ?_
 clear hK K
 repeat ((with_reducible refine pG ?_);(first|refine pT ?_|refine pF ?_);try go_frame)
 refine wpPerm_done ?_
 have hx2:=c2 w1 (Below.trans (Below.refl _ _) hb1)
 clear c0 c1 c2 hne
 by_cases h60:60<s.size
 all_goals go_wp2
 all_goals go_ret
 ·exact ⟨ret_int (by rw [chk,if_neg (by omega),if_neg (by simp [hv];simp at h1;omega),if_pos h60]),(Below.trans hB (Below.mono (Below.trans (Below.refl _ _).drew hb1) (by show _≤W.heap.size;omega)))⟩
 ·exact ⟨ret_int (by rw [chk,if_neg (by omega),if_neg (by simp [hv];simp at h1;omega),if_neg h60]),(Below.trans hB (Below.mono (Below.trans (Below.refl _ _).drew hb1) (by show _≤W.heap.size;omega)))⟩
theorem check3 (k n:Int) (s:ByteArray) (w:World) (hs:s.size≤maxLen) (hk:0≤k) (hk3:k≤3) (hv:vEq k n s k (bareN k n) (bareS k s)=true) (h1:(k == 1)=true) (h2:(n != 0)=false) :
  Calls Tryz.prog 174 #[.agg #[.int .i64 k,.int .i64 n,.string s]] w fun e w'=>e=.returned (.int .i64 (chk k n s))∧Below w.heap.size w w':=by
 unfold maxLen at hs
 have hne:=fun W=>neqV k n s k (bareN k n) (bareS k s) W
 go_enter Tryz.func174,Tryz.ntmps174
 go_wp2_with fail
 obtain ⟨W,hW,hB,hWs,c0,c1,c2⟩:∃ W,W=w.alloc (.cells #[.int .i64 k,.int .i64 n,.string s] 58) ∧
   Below w.heap.size w W∧w.heap.size<W.heap.size∧(∀ w',Below W.heap.size W.drew w'→w'.cell? ⟨w.heap.size,0,none⟩=some (.int .i64 k))∧(∀ w',Below W.heap.size W.drew w'→w'.cell? ⟨w.heap.size,1,none⟩=some (.int .i64 n)) ∧
   (∀ w',Below W.heap.size W.drew w'→w'.cell? ⟨w.heap.size,2,none⟩=some (.string s)) :=
  ⟨_,rfl,(Below.refl _ _).alloc (Nat.le_refl _) _,by simp,fun w' h=>(h.cell (p:=⟨_,_,_⟩) (by simp)).trans (by simp [go_sem]),fun w' h=>(h.cell (p:=⟨_,_,_⟩) (by simp)).trans (by simp [go_sem]),fun w' h=>(h.cell (p:=⟨_,_,_⟩) (by simp)).trans (by simp [go_sem])⟩
 rw [←hW]
 clear hW
 refine wp_region_one [(0,true),(1,true),(2,false),(3,true),(4,true),(5,true),(6,true),(7,true),(8,true),(9,true),(10,true),(11,true),(12,true),(13,true),(14,true),(15,true),(16,true),(17,true),(18,true),(19,true)] (by kernel_rfl) (by kernel_rfl) (by kernel_rfl) (by decide) ?_
 repeat ((with_reducible refine pG ?_);(first|refine pT ?_|refine pF ?_);try go_frame)
 refine pD fun K hK=>?_;go_simp
 refine (bare _ _ _ _).mono ?_
 rintro e w1 ⟨rfl,hb1⟩
 refine hK.out _ _ (Below.trans (Below.refl _ _) hb1) ?_
 clear hK K
 repeat ((with_reducible refine pG ?_);(first|refine pT ?_|refine pF ?_);try go_frame)
 refine wpPerm_done ?_
 have hx2:=c2 w1 (Below.trans (Below.refl _ _) hb1)
 clear c0 c1 c2 hne
 by_cases h60:60<s.size
 all_goals go_wp2
 all_goals go_ret
 ·exact ⟨ret_int (by rw [chk,if_neg (by omega),if_neg (by simp [hv];simp at h1 h2;omega),if_pos h60]),(Below.trans hB (Below.mono (Below.trans (Below.refl _ _).drew hb1) (by show _≤W.heap.size;omega)))⟩
 ·exact ⟨ret_int (by rw [chk,if_neg (by omega),if_neg (by simp [hv];simp at h1 h2;omega),if_neg h60]),(Below.trans hB (Below.mono (Below.trans (Below.refl _ _).drew hb1) (by show _≤W.heap.size;omega)))⟩
theorem check4 (k n:Int) (s:ByteArray) (w:World) (hs:s.size≤maxLen) (hk:0≤k) (hk3:k≤3) (hv:vEq k n s k (bareN k n) (bareS k s)=true) (h1:(k == 1)=true) (h2:(n != 0)=true) (h3:(n != 1)=false) :
  Calls Tryz.prog 174 #[.agg #[.int .i64 k,.int .i64 n,.string s]] w fun e w'=>e=.returned (.int .i64 (chk k n s))∧Below w.heap.size w w':=by
 unfold maxLen at hs
 have hne:=fun W=>neqV k n s k (bareN k n) (bareS k s) W
 go_enter Tryz.func174,Tryz.ntmps174
 go_wp2_with fail
 obtain ⟨W,hW,hB,hWs,c0,c1,c2⟩:∃ W,W=w.alloc (.cells #[.int .i64 k,.int .i64 n,.string s] 58) ∧
   Below w.heap.size w W∧w.heap.size<W.heap.size∧(∀ w',Below W.heap.size W.drew w'→w'.cell? ⟨w.heap.size,0,none⟩=some (.int .i64 k))∧(∀ w',Below W.heap.size W.drew w'→w'.cell? ⟨w.heap.size,1,none⟩=some (.int .i64 n)) ∧
   (∀ w',Below W.heap.size W.drew w'→w'.cell? ⟨w.heap.size,2,none⟩=some (.string s)) :=
  ⟨_,rfl,(Below.refl _ _).alloc (Nat.le_refl _) _,by simp,fun w' h=>(h.cell (p:=⟨_,_,_⟩) (by simp)).trans (by simp [go_sem]),fun w' h=>(h.cell (p:=⟨_,_,_⟩) (by simp)).trans (by simp [go_sem]),fun w' h=>(h.cell (p:=⟨_,_,_⟩) (by simp)).trans (by simp [go_sem])⟩
 rw [←hW]
 clear hW
 refine wp_region_one [(0,true),(1,true),(2,false),(3,true),(4,true),(5,true),(6,true),(7,true),(8,true),(9,true),(10,true),(11,true),(12,true),(13,true),(14,true),(15,true),(16,true),(17,true),(18,true),(19,true)] (by kernel_rfl) (by kernel_rfl) (by kernel_rfl) (by decide) ?_
 repeat ((with_reducible refine pG ?_);(first|refine pT ?_|refine pF ?_);try go_frame)
 refine pD fun K hK=>?_;go_simp
 refine (bare _ _ _ _).mono ?_
 rintro e w1 ⟨rfl,hb1⟩
 refine hK.out _ _ (Below.trans (Below.refl _ _) hb1) ?_
 clear hK K
 repeat ((with_reducible refine pG ?_);(first|refine pT ?_|refine pF ?_);try go_frame)
 refine wpPerm_done ?_
 have hx2:=c2 w1 (Below.trans (Below.refl _ _) hb1)
 clear c0 c1 c2 hne
 by_cases h60:60<s.size
 all_goals go_wp2
 all_goals go_ret
 ·exact ⟨ret_int (by rw [chk,if_neg (by omega),if_neg (by simp [hv];simp at h1 h2 h3;omega),if_pos h60]),(Below.trans hB (Below.mono (Below.trans (Below.refl _ _).drew hb1) (by show _≤W.heap.size;omega)))⟩
 ·exact ⟨ret_int (by rw [chk,if_neg (by omega),if_neg (by simp [hv];simp at h1 h2 h3;omega),if_neg h60]),(Below.trans hB (Below.mono (Below.trans (Below.refl _ _).drew hb1) (by show _≤W.heap.size;omega)))⟩
theorem check5 (k n:Int) (s:ByteArray) (w:World) (hs:s.size≤maxLen) (hk:0≤k) (hk3:k≤3) (hv:vEq k n s k (bareN k n) (bareS k s)=true) (h1:(k == 1)=true) (h2:(n != 0)=true) (h3:(n != 1)=true) :
  Calls Tryz.prog 174 #[.agg #[.int .i64 k,.int .i64 n,.string s]] w fun e w'=>e=.returned (.int .i64 (chk k n s))∧Below w.heap.size w w':=by
 unfold maxLen at hs
 have hne:=fun W=>neqV k n s k (bareN k n) (bareS k s) W
 go_enter Tryz.func174,Tryz.ntmps174
 go_wp2_with fail
 obtain ⟨W,hW,hB,hWs,c0,c1,c2⟩:∃ W,W=w.alloc (.cells #[.int .i64 k,.int .i64 n,.string s] 58) ∧
   Below w.heap.size w W∧w.heap.size<W.heap.size∧(∀ w',Below W.heap.size W.drew w'→w'.cell? ⟨w.heap.size,0,none⟩=some (.int .i64 k))∧(∀ w',Below W.heap.size W.drew w'→w'.cell? ⟨w.heap.size,1,none⟩=some (.int .i64 n)) ∧
   (∀ w',Below W.heap.size W.drew w'→w'.cell? ⟨w.heap.size,2,none⟩=some (.string s)) :=
  ⟨_,rfl,(Below.refl _ _).alloc (Nat.le_refl _) _,by simp,fun w' h=>(h.cell (p:=⟨_,_,_⟩) (by simp)).trans (by simp [go_sem]),fun w' h=>(h.cell (p:=⟨_,_,_⟩) (by simp)).trans (by simp [go_sem]),fun w' h=>(h.cell (p:=⟨_,_,_⟩) (by simp)).trans (by simp [go_sem])⟩
 rw [←hW]
 clear hW
 refine wp_region_one [(0,true),(1,true),(2,false),(3,true),(4,true),(5,true),(6,true),(7,true),(8,true),(9,true),(10,true),(11,true),(12,true),(13,true),(14,true),(15,true),(16,true),(17,true),(18,true),(19,true)] (by kernel_rfl) (by kernel_rfl) (by kernel_rfl) (by decide) ?_
 repeat ((with_reducible refine pG ?_);(first|refine pT ?_|refine pF ?_);try go_frame)
 refine pD fun K hK=>?_;go_simp
 refine (bare _ _ _ _).mono ?_
 rintro e w1 ⟨rfl,hb1⟩
 refine hK.out _ _ (Below.trans (Below.refl _ _) hb1) ?_
 clear hK K
 repeat ((with_reducible refine pG ?_);(first|refine pT ?_|refine pF ?_);try go_frame)
 refine wpPerm_done ?_
 have hx2:=c2 w1 (Below.trans (Below.refl _ _) hb1)
 clear c0 c1 c2 hne
 go_wp2
 go_ret
 exact ⟨ret_int (by rw [chk,if_neg (by omega),if_pos (by simp [hv];simp at h1 h2 h3;omega)]),(Below.trans hB (Below.mono (Below.trans (Below.refl _ _).drew hb1) (by show _≤W.heap.size;omega)))⟩
theorem check0 (k n:Int) (s:ByteArray) (w:World) (hk:k<0∨3<k) :
  Calls Tryz.prog 174 #[.agg #[.int .i64 k,.int .i64 n,.string s]] w fun e w'=>e=.returned (.int .i64 (chk k n s))∧Below w.heap.size w w':=by
 have h:chk k n s=3:=by rw [chk,if_pos hk]
 rw [h]
 rcases hk with hk|hk
 all_goals
  go_enter Tryz.func174,Tryz.ntmps174
  go_wp2
  go_ret
  exact ⟨rfl,(Below.refl _ _).alloc (Nat.le_refl _) _⟩
theorem check (k n:Int) (s:ByteArray) (w:World) (hs:s.size≤maxLen) :
  Calls Tryz.prog 174 #[.agg #[.int .i64 k,.int .i64 n,.string s]] w fun e w'=>e=.returned (.int .i64 (chk k n s))∧Below w.heap.size w w':=by
 by_cases hk:k<0∨3<k
 ·exact check0 k n s w hk
 have hk0:0≤k:=by omega
 have hk3:k≤3:=by omega
 cases hv:vEq k n s k (bareN k n) (bareS k s) with
 | false=>exact check1 k n s w hs hk0 hk3 hv
 | true =>
  cases h1:k == 1 with
  | false=>exact check2 k n s w hs hk0 hk3 hv h1
  | true =>
   cases h2:n != 0 with
   | false=>exact check3 k n s w hs hk0 hk3 hv h1 h2
   | true =>
    cases h3:n != 1 with
    | false=>exact check4 k n s w hs hk0 hk3 hv h1 h2 h3
    | true=>exact check5 k n s w hs hk0 hk3 hv h1 h2 h3
end Go.Proofs.YtgbcdkmjcokclaaGreat.val
namespace Go.Proofs.YtgbcdkmjcokclaaGreat.val
open Go.RowKit Go.Proofs.YtgbcdkmjcokclaaGreat.lib
theorem cb_refl:∀ a:List UInt8,Lib.compareBytes a a=0
 | []=>rfl
 | a::ar=>by
  unfold Lib.compareBytes
  rw [if_neg (by simp),if_neg (by simp)]
  exact cb_refl ar
theorem cb_anti:∀ a b:List UInt8,Lib.compareBytes b a = - Lib.compareBytes a b
 | [],[]=>rfl
 | [],_::_=>rfl
 | _::_,[]=>rfl
 | a::ar,b::br=>by
  unfold Lib.compareBytes
  by_cases h1:a<b
  ·have h2:¬b<a:=by simp only [UInt8.lt_iff_toNat_lt] at *;omega
   simp [h1,h2]
  ·by_cases h2:b<a
   ·simp [h1,h2]
   ·simp only [h1,h2,if_false]
    exact cb_anti ar br
theorem cb_zero:∀ a b:List UInt8,Lib.compareBytes a b=0→a=b
 | [],[],_=>rfl
 | [],_::_,h=>by simp [Lib.compareBytes] at h
 | _::_,[],h=>by simp [Lib.compareBytes] at h
 | a::ar,b::br,h=>by
  unfold Lib.compareBytes at h
  by_cases h1:a<b
  ·simp [h1] at h
  ·by_cases h2:b<a
   ·simp [h1,h2] at h
   ·simp only [h1,h2,if_false] at h
    have e:a=b:=by
     apply UInt8.toNat_inj.1
     simp only [UInt8.lt_iff_toNat_lt] at h1 h2
     omega
    rw [e,cb_zero ar br h]
theorem cb_trans:∀ a b c:List UInt8,Lib.compareBytes a b≤0→Lib.compareBytes b c≤0→Lib.compareBytes a c≤0∧(Lib.compareBytes a b<0→Lib.compareBytes a c<0)∧(Lib.compareBytes b c<0→Lib.compareBytes a c<0)
 | [],[],[],_,_=>by simp [Lib.compareBytes]
 | [],[],_::_,_,_=>by simp [Lib.compareBytes]
 | [],_::_,[],_,h=>by simp [Lib.compareBytes] at h
 | [],_::_,_::_,_,_=>by simp [Lib.compareBytes]
 | _::_,[],_,h,_=>by simp [Lib.compareBytes] at h
 | _::_,_::_,[],_,h=>by simp [Lib.compareBytes] at h
 | a::ar,b::br,c::cr,h1,h2=>by
  have ih:=cb_trans ar br cr
  have e:∀ (x y:UInt8) (l m:List UInt8),Lib.compareBytes (x::l) (y::m)=if x.toNat<y.toNat then -1 else if y.toNat<x.toNat then 1 else Lib.compareBytes l m:=fun x y l m=>by
   rw [Lib.compareBytes];simp only [UInt8.lt_iff_toNat_lt]
  rw [e] at h1 h2
  rw [e,e,e]
  by_cases x1:a.toNat<b.toNat
  ·rw [if_pos x1]
   by_cases y1:b.toNat<c.toNat
   ·have z:a.toNat<c.toNat:=by omega
    rw [if_pos z];exact ⟨by omega,fun _=>by omega,fun _=>by omega⟩
   ·rw [if_neg y1] at h2
    by_cases y2:c.toNat<b.toNat
    ·rw [if_pos y2] at h2;omega
    ·have z:a.toNat<c.toNat:=by omega
     rw [if_pos z];exact ⟨by omega,fun _=>by omega,fun _=>by omega⟩
  ·rw [if_neg x1] at h1 ⊢
   by_cases x2:b.toNat<a.toNat
   ·rw [if_pos x2] at h1;omega
   ·rw [if_neg x2] at h1 ⊢
    by_cases y1:b.toNat<c.toNat
    ·have z:a.toNat<c.toNat:=by omega
     rw [if_pos z];exact ⟨by omega,fun _=>by omega,fun _=>by omega⟩
    ·rw [if_neg y1] at h2 ⊢
     by_cases y2:c.toNat<b.toNat
     ·rw [if_pos y2] at h2;omega
     ·rw [if_neg y2] at h2 ⊢
      have z1:¬a.toNat<c.toNat:=by omega
      have z2:¬c.toNat<a.toNat:=by omega
      rw [if_neg z1,if_neg z2]
      exact ih h1 h2
structure V where
 k:Int
 n:Int
 s:ByteArray
def V.val (v:V):Value:=.agg #[.int .i64 v.k,.int .i64 v.n,.string v.s]
def cmpV (a b:V):Int:=or3 (ord a.k b.k) (ord a.n b.n) (Lib.compareBytes a.s.data.toList b.s.data.toList)
theorem ord_zero {a b:Int} (h:ord a b=0):a=b:=by
 unfold ord at h
 split at h
 ·cases h
 ·split at h
  ·cases h
  ·omega
theorem bytes_ext {s t:ByteArray} (h:s.data.toList=t.data.toList):s=t:=by
 cases s;cases t;simp at h;simp [h]
theorem beqBA (a b:ByteArray):(a == b)=true↔a=b:=by
 rw [beq_toListBytes,ByteArray.toList_eq,ByteArray.toList_eq,beq_iff_eq]
 exact ⟨bytes_ext,fun h=>by rw [h]⟩
theorem ord_trans (a b c:Int):ord a b≤0→ord b c≤0→ord a c≤0∧(ord a b<0→ord a c<0)∧(ord b c<0→ord a c<0):=by
 unfold ord
 repeat' split
 all_goals omega
def Hang (x y z:Int):Prop:=(x≤0→y≤0→z≤0)∧(x<0→y≤0→z<0)∧(x≤0→y<0→z<0)∧(x=0→y=0→z=0)
theorem hang_lex {a1 a2 a3 b1 b2 b3:Int} (h:Hang a1 a2 a3) (k:Hang b1 b2 b3):Hang (if a1=0 then b1 else a1) (if a2=0 then b2 else a2) (if a3=0 then b3 else a3):=by
 unfold Hang at *
 by_cases x1:a1=0 <;> by_cases x2:a2=0 <;> by_cases x3:a3=0 <;> (first|rw [if_pos x1]|rw [if_neg x1]) <;> (first|rw [if_pos x2]|rw [if_neg x2]) <;> (first|rw [if_pos x3]|rw [if_neg x3]) <;> omega
theorem ord_hang (a b c:Int):Hang (ord a b) (ord b c) (ord a c):=by
 have h:=ord_trans a b c
 exact ⟨fun x y=>(h x y).1,fun x y=>(h (by omega) y).2.1 x,fun x y=>(h x (by omega)).2.2 y,fun x y=>by rw [ord_zero x,ord_zero y];simp [ord]⟩
theorem cb_hang (a b c:List UInt8):Hang (Lib.compareBytes a b) (Lib.compareBytes b c) (Lib.compareBytes a c):=by
 have h:=cb_trans a b c
 exact ⟨fun x y=>(h x y).1,fun x y=>(h (by omega) y).2.1 x,fun x y=>(h x (by omega)).2.2 y,fun x y=>by rw [cb_zero _ _ x,cb_zero _ _ y];exact cb_refl _⟩
theorem cmpV_hang (a b c:V):Hang (cmpV a b) (cmpV b c) (cmpV a c) :=
 hang_lex (ord_hang _ _ _) (hang_lex (ord_hang _ _ _) (cb_hang _ _ _))
end Go.Proofs.YtgbcdkmjcokclaaGreat.val
namespace Go.Proofs.YtgbcdkmjcokclaaGreat.tb
open Go.RowKit Go.Proofs.YtgbcdkmjcokclaaGreat.lib Go.Proofs.YtgbcdkmjcokclaaGreat.val
structure Col where
 name:ByteArray
 kind:Int
 null:Bool
structure Sch where
 name:ByteArray
 cols:List Col
 key:Nat
 only:Bool
def zV:V:=⟨0,0,ByteArray.empty⟩
def vchk (v:V):Int:=chk v.k v.n v.s
def keyOf (key:Nat) (r:List V):V:=r.getD key zV
def fitsGo:List Col→List V→Int
 | c::cs,v::r=>if vchk v≠0 then vchk v else if v.k=0∧c.null=false then 13 else if v.k≠0∧v.k≠c.kind then 3 else fitsGo cs r
 | _,_=>0
def fitsL (cs:List Col) (r:List V):Int:=if r.length≠cs.length then 1 else fitsGo cs r
def belowB (key:Nat) (k:V) (r:List V):Bool:=decide (cmpV (keyOf key r) k<0)
def atL (key:Nat) (k:V) (rows:List (List V)):Nat:=(rows.takeWhile (belowB key k)).length
def isL (key:Nat) (k:V) (rows:List (List V)):Bool:=match rows[atL key k rows]? with
 | some r=>decide (cmpV (keyOf key r) k=0)
 | none=>false
def putL (cs:List Col) (key:Nat) (rows:List (List V)) (r:List V):Int × List (List V) :=
 if fitsL cs r≠0 then (fitsL cs r,rows) else if isL key (keyOf key r) rows=true then (7,rows) else if 200≤rows.length then (4,rows)
 else (0,rows.take (atL key (keyOf key r) rows)++r::rows.drop (atL key (keyOf key r) rows))
structure Ok (cs:List Col) (key:Nat) (rows:List (List V)):Prop where
 kl:key<cs.length
 kn:∀ c,cs[key]? = some c→c.null=false
 fit:∀ r∈rows,fitsL cs r=0
 ord:rows.Pairwise fun a b=>cmpV (keyOf key a) (keyOf key b)<0
theorem fits_len {cs:List Col} {r:List V} (h:fitsL cs r=0):r.length=cs.length:=by
 unfold fitsL at h
 by_cases e:r.length=cs.length
 ·exact e
 ·rw [if_pos e] at h;cases h
theorem fitsGo_at:∀ (cs:List Col) (r:List V) (i:Nat) (v:V) (c:Col),fitsGo cs r=0→r[i]? = some v→cs[i]? = some c→vchk v=0∧(v.k=0→c.null=true)∧(v.k≠0→v.k=c.kind)
 | [],r,i,v,c,_,_,h=>by cases h
 | c::cs,[],i,v,d,_,h,_=>by cases h
 | c::cs,v::r,i,u,d,h,hv,hc=>by
  rw [fitsGo] at h
  by_cases h1:vchk v≠0
  ·rw [if_pos h1] at h;exact absurd h h1
  rw [if_neg h1] at h
  by_cases h2:v.k=0∧c.null=false
  ·rw [if_pos h2] at h;cases h
  rw [if_neg h2] at h
  by_cases h3:v.k≠0∧v.k≠c.kind
  ·rw [if_pos h3] at h;cases h
  rw [if_neg h3] at h
  cases i with
  | zero =>
   injection hv with hv
   injection hc with hc
   subst hv hc
   refine ⟨Decidable.not_not.1 h1,fun e=>?_,fun e=>?_⟩
   ·cases hn:c.null with
    | true=>rfl
    | false=>exact absurd ⟨e,hn⟩ h2
   ·exact Decidable.not_not.1 fun e2=>h3 ⟨e,e2⟩
  | succ i=>exact fitsGo_at cs r i u d h hv hc
theorem fits_at {cs:List Col} {r:List V} {i:Nat} {v:V} (h:fitsL cs r=0) (hv:r[i]? = some v):∃ c,cs[i]? = some c∧vchk v=0∧(v.k=0→c.null=true)∧(v.k≠0→v.k=c.kind):=by
 have hl:=fits_len h
 have hi:=(List.getElem?_eq_some_iff.1 hv).1
 refine ⟨_,List.getElem?_eq_getElem (by omega),?_⟩
 unfold fitsL at h
 rw [if_neg (by omega)] at h
 exact fitsGo_at cs r i v _ h hv (List.getElem?_eq_getElem (by omega))
theorem fitsGo_step {cs:List Col} {r:List V} {i:Nat} {v:V} {c:Col} (hv:r[i]? = some v) (hc:cs[i]? = some c) :
  fitsGo (cs.drop i) (r.drop i)=if vchk v≠0 then vchk v else if v.k=0∧c.null=false then 13 else if v.k≠0∧v.k≠c.kind then 3 else fitsGo (cs.drop (i+1)) (r.drop (i+1)):=by
 obtain ⟨h1,e1⟩:=List.getElem?_eq_some_iff.1 hv
 obtain ⟨h2,e2⟩:=List.getElem?_eq_some_iff.1 hc
 rw [List.drop_eq_getElem_cons h1,List.drop_eq_getElem_cons h2,e1,e2,fitsGo]
theorem fitsGo_end {cs:List Col} {r:List V} {i:Nat} (h:r.length≤i):fitsGo (cs.drop i) (r.drop i)=0:=by
 rw [List.drop_of_length_le h]
 cases cs.drop i <;> rfl
theorem keyOf_at {key:Nat} {r:List V} {v:V} (h:r[key]? = some v):keyOf key r=v:=by
 unfold keyOf;rw [List.getD_eq_getElem?_getD,h];rfl
theorem lt_at {key:Nat} {k:V}:∀ {rows:List (List V)} {i:Nat} {r:List V},i<atL key k rows→rows[i]? = some r→belowB key k r=true
 | [],i,r,_,h=>by cases h
 | x::rs,i,r,hi,h=>by
  unfold atL at hi
  rw [List.takeWhile_cons] at hi
  by_cases hx:belowB key k x=true
  ·rw [if_pos hx] at hi
   cases i with
   | zero=>injection h with h;subst h;exact hx
   | succ i=>exact lt_at (rows:=rs) (by unfold atL;simpa using hi) h
  ·rw [if_neg hx] at hi;exact absurd hi (by simp)
theorem at_not {key:Nat} {k:V}:∀ {rows:List (List V)} {r:List V},rows[atL key k rows]? = some r→belowB key k r=false
 | [],r,h=>by cases h
 | x::rs,r,h=>by
  unfold atL at h
  rw [List.takeWhile_cons] at h
  by_cases hx:belowB key k x=true
  ·rw [if_pos hx] at h
   exact at_not (rows:=rs) (by unfold atL;simpa using h)
  ·rw [if_neg hx] at h
   injection h with h
   subst h
   simpa using hx
theorem at_le (key:Nat) (k:V) (rows:List (List V)):atL key k rows≤rows.length:=by
 unfold atL
 exact (List.takeWhile_sublist _).length_le
theorem cmp_lt_trans {a b c:V} (h:cmpV a b<0) (k:cmpV b c<0):cmpV a c<0:=(cmpV_hang a b c).2.1 h (by omega)
theorem ge_at {key:Nat} {k:V} {rows:List (List V)} (ho:rows.Pairwise fun a b=>cmpV (keyOf key a) (keyOf key b)<0) {i:Nat} {r:List V} (hi:atL key k rows≤i) (h:rows[i]? = some r):belowB key k r=false:=by
 have hlt:=(List.getElem?_eq_some_iff.1 h).1
 have h0:rows[atL key k rows]? = some (rows[atL key k rows]'(by omega)):=List.getElem?_eq_getElem (by omega)
 have hn:=at_not h0
 by_cases e:atL key k rows=i
 ·subst e
  exact at_not h
 ·have hp:=List.pairwise_iff_getElem.1 ho (atL key k rows) i (by omega) hlt (by omega)
  have he:rows[i]=r:=by
   rw [List.getElem?_eq_getElem hlt] at h
   injection h
  rw [he] at hp
  cases hb:belowB key k r with
  | false=>rfl
  | true =>
   unfold belowB at hb hn
   simp only [decide_eq_true_eq,decide_eq_false_iff_not] at hb hn
   exact absurd (cmp_lt_trans hp hb) hn
theorem at_unique {key:Nat} {k:V} {rows:List (List V)} {n:Nat} (hn:n≤rows.length) (h1:∀ i r,i<n→rows[i]? = some r→belowB key k r=true) (h2:∀ r,rows[n]? = some r→belowB key k r=false):atL key k rows=n:=by
 have hle:=at_le key k rows
 rcases Nat.lt_trichotomy (atL key k rows) n with h|h|h
 ·have h0:rows[atL key k rows]? = some (rows[atL key k rows]'(by omega)):=List.getElem?_eq_getElem (by omega)
  have:=at_not h0
  rw [h1 _ _ h h0] at this
  cases this
 ·exact h
 ·have h0:rows[n]? = some (rows[n]'(by omega)):=List.getElem?_eq_getElem (by omega)
  have:=lt_at h h0
  rw [h2 _ h0] at this
  cases this
theorem below_mono {key:Nat} {k:V} {rows:List (List V)} (ho:rows.Pairwise fun a b=>cmpV (keyOf key a) (keyOf key b)<0) {i j:Nat} {r r':List V} (hij:i≤j) (h:rows[i]? = some r) (h':rows[j]? = some r') (hb:belowB key k r'=true):belowB key k r=true:=by
 rcases Nat.lt_or_ge i (atL key k rows) with hi|hi
 ·exact lt_at hi h
 ·rw [ge_at ho (Nat.le_trans hi hij) h'] at hb;cases hb
theorem put_perm {key:Nat} {rows:List (List V)} {r:List V}:(rows.take (atL key (keyOf key r) rows)++r::rows.drop (atL key (keyOf key r) rows)).Perm (r::rows):=by
 refine List.perm_middle.trans ?_
 rw [List.take_append_drop]
theorem put_len {cs:List Col} {key:Nat} {rows:List (List V)} {r:List V}:(putL cs key rows r).2.length=rows.length+(if (putL cs key rows r).1=0 then 1 else 0):=by
 unfold putL
 by_cases h1:fitsL cs r=0
 ·rw [if_neg (by simpa using h1)]
  cases h2:isL key (keyOf key r) rows with
  | true=>rfl
  | false =>
   rw [if_neg (by simp)]
   by_cases h3:200≤rows.length
   ·rw [if_pos h3];rfl
   ·rw [if_neg h3]
    have:=(put_perm (key:=key) (rows:=rows) (r:=r)).length_eq
    rw [if_pos rfl]
    simpa using this
 ·rw [if_pos h1,if_neg h1];rfl
theorem key_chk {cs:List Col} {key:Nat} {r:List V} (hk:key<cs.length) (h:fitsL cs r=0):∃ v,r[key]? = some v∧keyOf key r=v∧vchk v=0:=by
 have hl:=fits_len h
 have e:r[key]? = some (r[key]'(by omega)):=List.getElem?_eq_getElem (by omega)
 obtain ⟨c,_,h1,_⟩:=fits_at h e
 exact ⟨_,e,keyOf_at e,h1⟩
end Go.Proofs.YtgbcdkmjcokclaaGreat.tb
namespace Go.Proofs.YtgbcdkmjcokclaaGreat.tb
open Go.ChangeShapes Go.WideShapes Go.ChangeAt Go.RowKit Go.Proofs.YtgbcdkmjcokclaaGreat.lib Go.Proofs.YtgbcdkmjcokclaaGreat.val
def encV (v:V):List Value:=[.int .i64 v.k,.int .i64 v.n,.string v.s]
def encC (c:Col):List Value:=[.string c.name,.int .i64 c.kind,.bool c.null]
def cellsV (l:List V):List Value:=flatK encV l
def cellsC (l:List Col):List Value:=flatK encC l
theorem kV (v:V):(encV v).length=3:=rfl
theorem kC (v:Col):(encC v).length=3:=rfl
theorem lenV (l:List V):(cellsV l).length=l.length * 3:=flatK_len encV 3 kV l
theorem lenC (l:List Col):(cellsC l).length=l.length * 3:=flatK_len encC 3 kC l
theorem oneV (l:List V):∀ u∈cellsV l,u.oneCell'=true:=flatK_all encV (p:=fun u=>u.oneCell'=true) (fun x u hu=>by
 simp [encV] at hu
 rcases hu with rfl|rfl|rfl <;> rfl) l
theorem oneC (l:List Col):∀ u∈cellsC l,u.oneCell'=true:=flatK_all encC (p:=fun u=>u.oneCell'=true) (fun x u hu=>by
 simp [encC] at hu
 rcases hu with rfl|rfl|rfl <;> rfl) l
def Vs (w:World) (lo:Nat) (A:Option Addr) (n c:Nat) (l:List V):Prop:=Row w lo A n c (cellsV l)∧l.length=n
def Cs (w:World) (lo:Nat) (A:Option Addr) (n c:Nat) (l:List Col):Prop:=Row w lo A n c (cellsC l)∧l.length=n
theorem Vs.ext {w w':World} {lo n c:Nat} {A:Option Addr} {l:List V} (h:Vs w lo A n c l) (hb:Below w.heap.size w w'):Vs w' lo A n c l:=⟨h.1.ext hb,h.2⟩
theorem Vs.base {w:World} {lo lo' n c:Nat} {A:Option Addr} {l:List V} (h:Vs w lo A n c l) (hb:lo'≤lo):Vs w lo' A n c l:=⟨h.1.base hb,h.2⟩
theorem Vs.at_ {w:World} {lo n c b off:Nat} {l:List V} (h:Vs w lo (some ⟨b,off,none⟩) n c l) {i:Nat} {v:V} (hi:l[i]? = some v) :
  w.cell? ⟨b,off+i * 3,none⟩=some (.int .i64 v.k)∧w.cell? ⟨b,off+i * 3+1,none⟩=some (.int .i64 v.n)∧w.cell? ⟨b,off+i * 3+2,none⟩=some (.string v.s) :=
 ⟨h.1.at_ (flatK_at encV 3 kV l i v 0 _ hi rfl),h.1.at_ (flatK_at encV 3 kV l i v 1 _ hi rfl),h.1.at_ (flatK_at encV 3 kV l i v 2 _ hi rfl)⟩
theorem Vs.of_own {w:World} {base:Nat} {t:TypeId} {n:Nat} {A:Option Addr} {c:Nat} {l:List V} (h:w.ownsRow base t 3 (.slice A n c) n (cellsV l)):Vs w base A n c l :=
 ⟨Row.of_own h,by have:=h.1;rw [lenV] at this;omega⟩
def OwnV (l:List V) (n:Nat) (w:World) (r:Ending) (w':World):Prop:=∃ A c,r=.returned (.slice A n c)∧w'.ownsRow w.heap.size 58 3 (.slice A n c) n (cellsV l)∧Below w.heap.size w w'
theorem cloneV (l:List V) (lo:Nat) (A:Option Addr) (n c:Nat) (w:World) (hn:n≤100000) (hr:Vs w lo A n c l) :
  Calls Tryz.prog 109 #[.slice A n c] w (OwnV l n w):=by
 obtain ⟨hr,hl⟩:=hr
 have heq:=fun W=>Lib.run_eql_slice_nil (P:=Tryz.prog) W 59 58 A n c 0 0 Tryz.underlying59
 have HL:=Lib.hid hl
 clear hl
 cases A with
 | none =>
  have hr2:n=0∧c=0:=by
   rcases hr with h|⟨_,h,_⟩|⟨_,_,h,_⟩
   ·exact ⟨h.2.1,h.2.2.1⟩
   ·cases h
   ·cases h
  obtain ⟨rfl,rfl⟩:=hr2
  have hln:l=[]:=List.length_eq_zero_iff.1 HL.out
  subst hln
  go_enter Tryz.func109,Tryz.ntmps109
  go_wp2
  go_ret
  exact ⟨none,0,rfl,World.ownsRow_nil _ _ _ _,Below.refl _ _⟩
 | some ad =>
  obtain ⟨i0,hi,hz0,hz1,hz2⟩:=info_parts (P:=Tryz.prog) (e:=58) (z:=.agg #[.int .i64 0,.int .i64 0,.string ⟨#[]⟩]) (size:=3) (bytes:=32) (by kernel_rfl)
  have HC:=Lib.hid hr
  clear hr
  go_enter Tryz.func109,Tryz.ntmps109
  go_wp2_with (at_builtin;refine wpList_append_own _ rfl (.tmp 5) (.tmp 6) 59 rfl w.heap.size 58 i0 _ 3 32 Tryz.underlying59 hi hz0 hz1 hz2 rfl (by decide) _ _ _ rfl (World.ownsRow_made w #[] 0 (Nat.le_refl _) (Nat.zero_le _) rfl) ad n c (cellsV l) rfl ?c0 ?c1 ?c2 ?c3 ?c4 ?c5 ?_)
  case c0=>rw [lenV,HL.out]
  case c1=>exact (HC.out.ext ((Below.refl _ _).alloc (Nat.le_refl _) _)).src'
  case c2=>exact oneV l
  case c3=>unfold maxLen;omega
  case c4=>omega
  case c5=>simp
  intro v' w3 hown3 hgrow3 _
  obtain ⟨A',c',rfl⟩:=own_slice hown3
  go_wp2
  go_ret
  exact ⟨A',c',by simp,by simpa using hown3,((Below.refl _ _).alloc (Nat.le_refl _) _).grown hgrow3 (by simp) (fun k hk=>by simp [Value.ownBlock] at hk;omega)⟩
theorem Cs.ext {w w':World} {lo n c:Nat} {A:Option Addr} {l:List Col} (h:Cs w lo A n c l) (hb:Below w.heap.size w w'):Cs w' lo A n c l:=⟨h.1.ext hb,h.2⟩
theorem Cs.base {w:World} {lo lo' n c:Nat} {A:Option Addr} {l:List Col} (h:Cs w lo A n c l) (hb:lo'≤lo):Cs w lo' A n c l:=⟨h.1.base hb,h.2⟩
theorem Cs.at_ {w:World} {lo n c b off:Nat} {l:List Col} (h:Cs w lo (some ⟨b,off,none⟩) n c l) {i:Nat} {v:Col} (hi:l[i]? = some v) :
  w.cell? ⟨b,off+i * 3,none⟩=some (.string v.name)∧w.cell? ⟨b,off+i * 3+1,none⟩=some (.int .i64 v.kind)∧w.cell? ⟨b,off+i * 3+2,none⟩=some (.bool v.null) :=
 ⟨h.1.at_ (flatK_at encC 3 kC l i v 0 _ hi rfl),h.1.at_ (flatK_at encC 3 kC l i v 1 _ hi rfl),h.1.at_ (flatK_at encC 3 kC l i v 2 _ hi rfl)⟩
theorem Cs.of_own {w:World} {base:Nat} {t:TypeId} {n:Nat} {A:Option Addr} {c:Nat} {l:List Col} (h:w.ownsRow base t 3 (.slice A n c) n (cellsC l)):Cs w base A n c l :=
 ⟨Row.of_own h,by have:=h.1;rw [lenC] at this;omega⟩
def OwnC (l:List Col) (n:Nat) (w:World) (r:Ending) (w':World):Prop:=∃ A c,r=.returned (.slice A n c)∧w'.ownsRow w.heap.size 50 3 (.slice A n c) n (cellsC l)∧Below w.heap.size w w'
theorem cloneC (l:List Col) (lo:Nat) (A:Option Addr) (n c:Nat) (w:World) (hn:n≤100000) (hr:Cs w lo A n c l) :
  Calls Tryz.prog 138 #[.slice A n c] w (OwnC l n w):=by
 obtain ⟨hr,hl⟩:=hr
 have heq:=fun W=>Lib.run_eql_slice_nil (P:=Tryz.prog) W 51 50 A n c 0 0 Tryz.underlying51
 have HL:=Lib.hid hl
 clear hl
 cases A with
 | none =>
  have hr2:n=0∧c=0:=by
   rcases hr with h|⟨_,h,_⟩|⟨_,_,h,_⟩
   ·exact ⟨h.2.1,h.2.2.1⟩
   ·cases h
   ·cases h
  obtain ⟨rfl,rfl⟩:=hr2
  have hln:l=[]:=List.length_eq_zero_iff.1 HL.out
  subst hln
  go_enter Tryz.func138,Tryz.ntmps138
  go_wp2
  go_ret
  exact ⟨none,0,rfl,World.ownsRow_nil _ _ _ _,Below.refl _ _⟩
 | some ad =>
  obtain ⟨i0,hi,hz0,hz1,hz2⟩:=info_parts (P:=Tryz.prog) (e:=50) (z:=.agg #[.string ⟨#[]⟩,.int .i64 0,.bool false]) (size:=3) (bytes:=32) (by kernel_rfl)
  have HC:=Lib.hid hr
  clear hr
  go_enter Tryz.func138,Tryz.ntmps138
  go_wp2_with (at_builtin;refine wpList_append_own _ rfl (.tmp 5) (.tmp 6) 51 rfl w.heap.size 50 i0 _ 3 32 Tryz.underlying51 hi hz0 hz1 hz2 rfl (by decide) _ _ _ rfl (World.ownsRow_made w #[] 0 (Nat.le_refl _) (Nat.zero_le _) rfl) ad n c (cellsC l) rfl ?c0 ?c1 ?c2 ?c3 ?c4 ?c5 ?_)
  case c0=>rw [lenC,HL.out]
  case c1=>exact (HC.out.ext ((Below.refl _ _).alloc (Nat.le_refl _) _)).src'
  case c2=>exact oneC l
  case c3=>unfold maxLen;omega
  case c4=>omega
  case c5=>simp
  intro v' w3 hown3 hgrow3 _
  obtain ⟨A',c',rfl⟩:=own_slice hown3
  go_wp2
  go_ret
  exact ⟨A',c',by simp,by simpa using hown3,((Below.refl _ _).alloc (Nat.le_refl _) _).grown hgrow3 (by simp) (fun k hk=>by simp [Value.ownBlock] at hk;omega)⟩
theorem tl_beq (a b:ByteArray):(a.toList == b.toList)=(a == b):=by
 rw [Bool.eq_iff_iff,beqBA,beq_iff_eq,ByteArray.toList_eq,ByteArray.toList_eq]
 exact ⟨fun h=>bytes_ext h,fun h=>by rw [h]⟩
instance:DecidableEq V:=fun a b=>decidable_of_iff (a.k=b.k∧a.n=b.n∧a.s=b.s) (by
 obtain ⟨a1,a2,a3⟩:=a
 obtain ⟨b1,b2,b3⟩:=b
 simp)
instance:DecidableEq Col:=fun a b=>decidable_of_iff (a.name=b.name∧a.kind=b.kind∧a.null=b.null) (by
 obtain ⟨a1,a2,a3⟩:=a
 obtain ⟨b1,b2,b3⟩:=b
 simp)
def Hdr (w:World) (lo:Nat) (h:Value) (r:List V):Prop:=∃ A c,h=.slice A r.length c∧Vs w lo A r.length c r
def Hs (w:World) (lo:Nat) (hs:List Value) (rows:List (List V)):Prop:=hs.length=rows.length∧∀ (i:Nat) h r,hs[i]? = some h→rows[i]? = some r→Hdr w lo h r
def Rs (w:World) (lo:Nat) (A:Option Addr) (n c:Nat) (rows:List (List V)):Prop:=∃ hs,Row w lo A n c hs∧Hs w lo hs rows∧rows.length=n
theorem Hdr.ext {w w':World} {lo:Nat} {h:Value} {r:List V} (k:Hdr w lo h r) (hb:Below w.heap.size w w'):Hdr w' lo h r:=by
 obtain ⟨A,c,e,hv⟩:=k
 exact ⟨A,c,e,hv.ext hb⟩
theorem Hdr.base {w:World} {lo lo':Nat} {h:Value} {r:List V} (k:Hdr w lo h r) (hb:lo'≤lo):Hdr w lo' h r:=by
 obtain ⟨A,c,e,hv⟩:=k
 exact ⟨A,c,e,hv.base hb⟩
theorem Hs.ext {w w':World} {lo:Nat} {hs:List Value} {rows:List (List V)} (k:Hs w lo hs rows) (hb:Below w.heap.size w w'):Hs w' lo hs rows:=⟨k.1,fun i h r h1 h2=>(k.2 i h r h1 h2).ext hb⟩
theorem Hs.base {w:World} {lo lo':Nat} {hs:List Value} {rows:List (List V)} (k:Hs w lo hs rows) (hb:lo'≤lo):Hs w lo' hs rows:=⟨k.1,fun i h r h1 h2=>(k.2 i h r h1 h2).base hb⟩
theorem Hs.nil (w:World) (lo:Nat):Hs w lo [] []:=⟨rfl,fun i h r h1 _=>by cases h1⟩
theorem Hs.append {w:World} {lo:Nat} {hs hs':List Value} {rows rows':List (List V)} (k:Hs w lo hs rows) (k':Hs w lo hs' rows'):Hs w lo (hs++hs') (rows++rows'):=by
 refine ⟨by rw [List.length_append,List.length_append,k.1,k'.1],fun i h r h1 h2=>?_⟩
 rcases Nat.lt_or_ge i hs.length with hi|hi
 ·rw [List.getElem?_append_left hi] at h1
  rw [List.getElem?_append_left (by rw [←k.1];exact hi)] at h2
  exact k.2 i h r h1 h2
 ·rw [List.getElem?_append_right hi] at h1
  rw [List.getElem?_append_right (by rw [←k.1];exact hi),←k.1] at h2
  exact k'.2 _ h r h1 h2
theorem Hs.one {w:World} {lo:Nat} {h:Value} {r:List V} (k:Hdr w lo h r):Hs w lo [h] [r]:=⟨rfl,fun i h' r' h1 h2=>by
 cases i with
 | zero=>injection h1 with h1;injection h2 with h2;subst h1 h2;exact k
 | succ i=>simp at h1⟩
theorem Hs.take {w:World} {lo:Nat} {hs:List Value} {rows:List (List V)} (k:Hs w lo hs rows) (n:Nat):Hs w lo (hs.take n) (rows.take n):=by
 refine ⟨by rw [List.length_take,List.length_take,k.1],fun i h r h1 h2=>?_⟩
 rw [List.getElem?_take] at h1 h2
 split at h1
 ·rename_i hi
  rw [if_pos hi] at h2
  exact k.2 i h r h1 h2
 ·cases h1
theorem Hs.drop {w:World} {lo:Nat} {hs:List Value} {rows:List (List V)} (k:Hs w lo hs rows) (n:Nat):Hs w lo (hs.drop n) (rows.drop n):=by
 refine ⟨by rw [List.length_drop,List.length_drop,k.1],fun i h r h1 h2=>?_⟩
 rw [List.getElem?_drop] at h1 h2
 exact k.2 _ h r h1 h2
theorem Hs.at_ {w:World} {lo:Nat} {hs:List Value} {rows:List (List V)} (k:Hs w lo hs rows) {i:Nat} {r:List V} (hr:rows[i]? = some r):∃ A c,hs[i]? = some (.slice A r.length c)∧Vs w lo A r.length c r:=by
 have hi:=(List.getElem?_eq_some_iff.1 hr).1
 have e:hs[i]? = some (hs[i]'(by rw [k.1];exact hi)):=List.getElem?_eq_getElem _
 obtain ⟨A,c,e2,hv⟩:=k.2 i _ r e hr
 exact ⟨A,c,by rw [e,e2],hv⟩
theorem Hs.one_ {w:World} {lo:Nat} {hs:List Value} {rows:List (List V)} (k:Hs w lo hs rows):∀ u∈hs,u.oneCell'=true:=by
 intro u hu
 obtain ⟨i,hi,e⟩:=List.getElem_of_mem hu
 have hi':i<rows.length:=by rw [←k.1];exact hi
 obtain ⟨A,c,e2,_⟩:=k.2 i u _ (by rw [List.getElem?_eq_getElem hi,e]) (List.getElem?_eq_getElem hi')
 rw [e2];rfl
theorem Rs.ext {w w':World} {lo n c:Nat} {A:Option Addr} {rows:List (List V)} (h:Rs w lo A n c rows) (hb:Below w.heap.size w w'):Rs w' lo A n c rows:=by
 obtain ⟨hs,h1,h2,h3⟩:=h
 exact ⟨hs,h1.ext hb,h2.ext hb,h3⟩
theorem Rs.base {w:World} {lo lo' n c:Nat} {A:Option Addr} {rows:List (List V)} (h:Rs w lo A n c rows) (hb:lo'≤lo):Rs w lo' A n c rows:=by
 obtain ⟨hs,h1,h2,h3⟩:=h
 exact ⟨hs,h1.base hb,h2.base hb,h3⟩
theorem Rs.nil (w:World) (lo:Nat):Rs w lo none 0 0 []:=⟨[],Row.nil w lo,Hs.nil w lo,rfl⟩
theorem Rs.some_ {w:World} {lo n c:Nat} {A:Option Addr} {rows:List (List V)} (h:Rs w lo A n c rows) (hn:0<n):∃ b off,A=some ⟨b,off,none⟩∧n≤c∧lo≤b∧b<w.heap.size:=by
 obtain ⟨hs,h1,h2,h3⟩:=h
 exact h1.some_ hn
theorem Rs.at_ {w:World} {lo n c b off:Nat} {rows:List (List V)} (h:Rs w lo (some ⟨b,off,none⟩) n c rows) {i:Nat} {r:List V} (hr:rows[i]? = some r) :
  ∃ A' c',w.cell? ⟨b,off+i,none⟩=some (.slice A' r.length c')∧Vs w lo A' r.length c' r:=by
 obtain ⟨hs,h1,h2,h3⟩:=h
 obtain ⟨A',c',e,hv⟩:=h2.at_ hr
 exact ⟨A',c',h1.at_ e,hv⟩
def Fine (A:Option Addr):Prop:=A=none∨∃ b off,A=some ⟨b,off,none⟩
def tabA (S:Sch) (A:Option Addr) (n c:Nat) (A':Option Addr) (n' c':Nat):Array Value:=#[.string S.name,.slice A n c,.int .i64 S.key,.bool S.only,.slice A' n' c']
def schA (S:Sch) (A:Option Addr) (n c:Nat):Array Value:=#[.string S.name,.slice A n c,.int .i64 S.key,.bool S.only]
def TabR (w:World) (lo:Nat) (v:Value) (S:Sch) (rows:List (List V)):Prop:=∃ A n c A' n' c',v=.agg (tabA S A n c A' n' c')∧Cs w lo A n c S.cols∧Rs w lo A' n' c' rows∧Fine A'
theorem TabR.ext {w w':World} {lo:Nat} {v:Value} {S:Sch} {rows:List (List V)} (h:TabR w lo v S rows) (hb:Below w.heap.size w w'):TabR w' lo v S rows:=by
 obtain ⟨A,n,c,A',n',c',e,h1,h2,h3⟩:=h
 exact ⟨A,n,c,A',n',c',e,h1.ext hb,h2.ext hb,h3⟩
theorem TabR.base {w:World} {lo lo':Nat} {v:Value} {S:Sch} {rows:List (List V)} (h:TabR w lo v S rows) (hb:lo'≤lo):TabR w lo' v S rows:=by
 obtain ⟨A,n,c,A',n',c',e,h1,h2,h3⟩:=h
 exact ⟨A,n,c,A',n',c',e,h1.base hb,h2.base hb,h3⟩
theorem five {w:World} {g:Nat} {t:TypeId} {x0 x1 x2 x3 x4:Value} (h:Blk w g t #[x0,x1,x2,x3,x4]) {w':World} (hb:Below w.heap.size w w') :
  w'.cell? ⟨g,0,none⟩=some x0∧w'.cell? ⟨g,1,none⟩=some x1∧w'.cell? ⟨g,2,none⟩=some x2∧w'.cell? ⟨g,3,none⟩=some x3∧w'.cell? ⟨g,4,none⟩=some x4 :=
 ⟨(h.ext hb).cell 0,(h.ext hb).cell 1,(h.ext hb).cell 2,(h.ext hb).cell 3,(h.ext hb).cell 4⟩
theorem four {w:World} {g:Nat} {t:TypeId} {x0 x1 x2 x3:Value} (h:Blk w g t #[x0,x1,x2,x3]) {w':World} (hb:Below w.heap.size w w') :
  w'.cell? ⟨g,0,none⟩=some x0∧w'.cell? ⟨g,1,none⟩=some x1∧w'.cell? ⟨g,2,none⟩=some x2∧w'.cell? ⟨g,3,none⟩=some x3 :=
 ⟨(h.ext hb).cell 0,(h.ext hb).cell 1,(h.ext hb).cell 2,(h.ext hb).cell 3⟩
theorem key_ (S:Sch) (A:Option Addr) (n c:Nat) (A':Option Addr) (n' c':Nat) (r:List V) (lo:Nat) (Ar:Option Addr) (m cr:Nat) (v:V) (w:World) (hr:Vs w lo Ar m cr r) (hv:r[S.key]? = some v) (hm:m≤100000) :
  Calls Tryz.prog 108 #[.agg (tabA S A n c A' n' c'),.slice Ar m cr] w fun e w'=>e=.returned (.agg #[.int .i64 v.k,.int .i64 v.n,.string v.s])∧Below w.heap.size w w':=by
 have hlt:S.key<m:=by have:=(List.getElem?_eq_some_iff.1 hv).1;rw [hr.2] at this;exact this
 obtain ⟨b,o,rfl,_,_,hb⟩:=hr.1.some_ (by omega)
 obtain ⟨nm,cols,key,only⟩:=S
 simp only [tabA] at hlt hv ⊢
 go_enter Tryz.func108,Tryz.ntmps108
 go_upto_region 1 with fail
 obtain ⟨W,hW_,hbW,B1,B2⟩:=al2 w 232 58 #[.string nm,.slice A n c,.int .i64 key,.bool only,.slice A' n' c'] #[.int .i64 0,.int .i64 0,.string ⟨#[]⟩]
 rw [←hW_]
 clear hW_
 have q1:=five B1 (Below.refl _ _)
 have q2:=B2.three (Below.refl _ _)
 have f2:=B2.free3
 have q:=(hr.ext hbW).at_ hv
 have hd1:decide ((key:Int)<0)=false:=by simp
 have hd2:decide ((m:Int)≤(key:Int))=false:=by simp;omega
 have hkm:(key:Int)<(m:Int):=by omega
 go_wp2
 obtain ⟨w3,hw3,B3,hlow,hgr⟩:=B2.set3 (.int .i64 v.k) (.int .i64 v.n) (.string v.s)
 rw [←hw3]
 have q3:=B3.three (Below.refl _ _)
 exact bodyPost_ret (v:=.agg #[.int .i64 v.k,.int .i64 v.n,.string v.s]) (by simp [results,Tryz.results108,go_sem,q3];try rfl) rfl ⟨rfl,Below.trans hbW (hlow w.heap.size (Nat.le_succ _))⟩
theorem findc_ (S:Sch) (A:Option Addr) (n c:Nat) (A':Option Addr) (n' c':Nat) (g:Nat) (k:V) (r:List V) (lo:Nat) (Ar:Option Addr) (m cr:Nat) (v:V) (w:World) (hg:Blk w g 232 (tabA S A n c A' n' c')) (hr:Vs w lo Ar m cr r) (hv:r[S.key]? = some v) (hm:m≤100000) :
  Calls Tryz.prog 178 #[.slice Ar m cr,.agg #[.int .i64 k.k,.int .i64 k.n,.string k.s],.pointer (some ⟨g,0,none⟩)] w fun e w'=>e=.returned (.int .i64 (cmpV v k))∧Below w.heap.size w w':=by
 obtain ⟨kk,kn,ks⟩:=k
 simp only
 have hg5:Blk w g 232 #[.string S.name,.slice A n c,.int .i64 S.key,.bool S.only,.slice A' n' c']:=hg
 go_enter Tryz.func178,Tryz.ntmps178
 go_upto_region 1 with fail
 obtain ⟨W,hW_,hbW,B1⟩:=al1 w 58 #[.int .i64 kk,.int .i64 kn,.string ks]
 rw [←hW_]
 clear hW_
 have D:=fun w' (h:Below W.heap.size W.drew w')=>five hg5 (Below.trans hbW.drew (Below.mono h hbW.size))
 have D2:=fun w' (h:Below W.heap.size W.drew w')=>B1.three (Below.trans (Below.refl _ _).drew h)
 refine wp_region_one [(0,true),(1,true),(3,true),(2,false),(4,false),(5,true)] (by kernel_rfl) (by kernel_rfl) (by kernel_rfl) (by decide) ?_
 repeat ((with_reducible refine pG ?_);(first|refine pT ?_|refine pF ?_);try go_frame)
 refine pD fun K hK=>?_;go_simp
 refine (key_ S A n c A' n' c' r lo Ar m cr v _ (hr.ext hbW.drew) hv hm).mono ?_
 rintro e w1 ⟨rfl,hb1⟩
 refine hK.out _ _ hb1 ?_
 clear hK K
 refine pD fun K hK=>?_;go_simp
 refine (compare v.k v.n v.s kk kn ks _).mono ?_
 rintro e w2 ⟨rfl,hb2⟩
 have h2:=Below.trans hb1 (Below.mono hb2 hb1.size)
 refine hK.out _ _ h2 ?_
 clear hK K
 repeat ((with_reducible refine pG ?_);(first|refine pT ?_|refine pF ?_);try go_frame)
 refine wpPerm_done ?_
 clear D D2
 go_wp2
 go_ret
 exact ⟨rfl,Below.trans hbW.drew (Below.mono h2 hbW.size)⟩
def Keyed (key:Nat) (rows:List (List V)):Prop:=∀ (i:Nat) r,rows[i]? = some r→r.length≤100000∧∃ v,r[key]? = some v
theorem Ok.keyed {cs:List Col} {key:Nat} {rows:List (List V)} (h:Ok cs key rows) (hc:cs.length≤100000):Keyed key rows:=fun i r hr=>by
 have hf:=h.fit r (List.mem_of_getElem? hr)
 have hl:=fits_len hf
 obtain ⟨v,hv,_⟩:=key_chk h.kl hf
 exact ⟨by omega,v,hv⟩
theorem bsf_ (S:Sch) (Ag:Option Addr) (ng cg:Nat) (Ag':Option Addr) (ng' cg':Nat) (g:Nat) (k:V) (rows:List (List V)) (lo:Nat) (A:Option Addr) (n c:Nat) (w:World) (hg:Blk w g 232 (tabA S Ag ng cg Ag' ng' cg')) (hr:Rs w lo A n c rows)
  (hk:Keyed S.key rows) (ho:rows.Pairwise fun a b=>cmpV (keyOf S.key a) (keyOf S.key b)<0) (hn:n≤100000) :
  Calls Tryz.prog 177 #[.slice A n c,.agg #[.int .i64 k.k,.int .i64 k.n,.string k.s],.func (.func 178) #[] #[.pointer (some ⟨g,0,none⟩)]] w
   fun e w'=>e=.returned (.tuple #[.int .i64 (atL S.key k rows:Nat),.bool (isL S.key k rows)])∧Below w.heap.size w w':=by
 have hrn:rows.length=n:=by obtain ⟨_,_,_,h⟩:=hr;exact h
 have HN:=Lib.hid hrn
 have HK:=Lib.hid hk
 have HO:=Lib.hid ho
 clear hrn hk ho
 obtain ⟨kk,kn,ks⟩:=k
 simp only
 obtain ⟨k,hkd⟩:∃ k:V,k=⟨kk,kn,ks⟩:=⟨_,rfl⟩
 rw [←hkd]
 have HKD:=Lib.hid hkd
 clear hkd
 have FC:=fun (r:List V) lo Ar m cr v w hg hr hv hm=>findc_ S Ag ng cg Ag' ng' cg' g ⟨kk,kn,ks⟩ r lo Ar m cr v w hg hr hv hm
 simp only at FC
 rw [←HKD.out] at FC
 have FC:=Lib.hid FC
 go_enter Tryz.func177,Tryz.ntmps177
 go_upto_region 1 with fail
 obtain ⟨W,hW_,hbW,B1⟩:=al1 w 58 #[.int .i64 kk,.int .i64 kn,.string ks]
 rw [←hW_]
 clear hW_
 go_wp2_with fail
 go_loopw [9,10] (fun i j wr=>∃ l h:Nat,i=.int .i64 l∧j=.int .i64 h∧l≤h∧h≤n∧Below W.heap.size W wr∧Hid ((∀ t r,t<l→rows[t]? = some r→belowB S.key k r=true)∧(∀ t r,h≤t→rows[t]? = some r→belowB S.key k r=false))) (fun i j _=>(intOf j).toNat - (intOf i).toNat)
 case atStart=>exact ⟨0,n,rfl,rfl,Nat.zero_le _,Nat.le_refl _,Below.refl _ _,Lib.hid ⟨fun t r h=>absurd h (by omega),fun t r h hr=>by have:=(List.getElem?_eq_some_iff.1 hr).1;have:=HN.out;omega⟩⟩
 case round =>
  obtain ⟨l,h,rfl,rfl,hlh,hhn,hbw,HI⟩:=hrel
  rcases Nat.lt_or_ge l h with hlt|hge
  ·have hd:decide ((l:Int)<(h:Int))=true:=by simp;omega
   obtain ⟨m,hmi,hm1,hm2⟩:∃ m:Nat,Hid (((l:Int)+(h:Int)) / 2=(m:Int))∧l≤m∧m<h:=⟨(l+h) / 2,Lib.hid (by omega),by omega,by omega⟩
   have hmn:(m:Int)<(n:Int):=by omega
   obtain ⟨r,hx⟩:∃ r,rows[m]? = some r:=⟨_,List.getElem?_eq_getElem (by rw [HN.out];omega)⟩
   obtain ⟨hrl,v,hv⟩:=HK.out m r hx
   obtain ⟨hs,R,H,_⟩:=hr
   obtain ⟨b,off,rfl,_,_,hb⟩:=R.some_ (by omega)
   obtain ⟨Ar,cr,he,hvs⟩:=H.at_ hx
   have HX:=Lib.hid hx
   have HV:=Lib.hid hv
   have HKV:=Lib.hid (keyOf_at hv)
   clear hx hv
   go_wp2_with fail
   rw [hmi.out]
   have hw1:=Below.trans hbW (Below.mono hbw hbW.size)
   have D:=fun w' (h:Below wr.heap.size wr.drew w')=>(R.ext (Below.trans hw1.drew (Below.mono h hw1.size))).at_ he
   have D2:=fun w' (h:Below wr.heap.size wr.drew w')=>B1.three (Below.trans hbw.drew (Below.mono h hbw.size))
   obtain ⟨p,hp⟩:∃ p,decide (cmpV v k<0)=p:=⟨_,rfl⟩
   refine wp_region_one [(0,true),(1,true),(2,true),(3,true),(4,true),(5,true),(6,false),(7,true)] (by kernel_rfl) (by kernel_rfl) (by kernel_rfl) (by decide) ?_
   repeat ((with_reducible refine pG ?_);(first|refine pT ?_|refine pF ?_);try go_frame)
   refine pD fun K hK=>?_;go_simp
   refine (FC.out r lo Ar r.length cr v _ (hg.ext hw1.drew) (hvs.ext hw1.drew) HV.out hrl).mono ?_
   rintro e w1 ⟨rfl,hb1⟩
   refine hK.out _ _ hb1 ?_
   clear hK K
   repeat ((with_reducible refine pG ?_);(first|refine pT ?_|refine pF ?_);try go_frame)
   refine wpPerm_done ?_
   clear D D2
   have hbw2:=Below.trans hbw.drew (Below.mono hb1 hbw.size)
   have HP:=Lib.hid hp
   clear hp
   cases p with
   | true =>
    go_wp2
    go_roundw
    case rel =>
     refine ⟨m+1,h,by go_num,rfl,by omega,hhn,hbw2,Lib.hid ⟨fun t r' ht hr'=>?_,HI.out.2⟩⟩
     exact below_mono HO.out (by omega) hr' HX.out (by unfold belowB;rw [HKV.out];exact HP.out)
    case measure=>simp [intOf];omega
   | false =>
    go_wp2
    go_roundw
    case rel =>
     refine ⟨l,m,rfl,rfl,by omega,by omega,hbw2,Lib.hid ⟨HI.out.1,fun t r' ht hr'=>?_⟩⟩
     cases hb:belowB S.key k r' with
     | false=>rfl
     | true =>
      have:=below_mono HO.out ht HX.out hr' hb
      unfold belowB at this
      rw [HKV.out,HP.out] at this
      cases this
    case measure=>simp [intOf];omega
  ·have hd:decide ((l:Int)<(h:Int))=false:=by simp;omega
   have hlh':l=h:=by omega
   subst hlh'
   have hat:atL S.key k rows=l:=at_unique (by rw [HN.out];exact hhn) (fun i r hi hr=>HI.out.1 i r hi hr) (fun r hr=>HI.out.2 l r (Nat.le_refl _) hr)
   have HA:=Lib.hid hat
   clear hat
   have hw1:=Below.trans hbW (Below.mono hbw hbW.size)
   rcases Nat.lt_or_ge l n with hln|hln
   ·have hd2:decide ((l:Int)<(n:Int))=true:=by simp;omega
    have hd3:decide (l<n)=true:=by simp;omega
    have hmn:(l:Int)<(n:Int):=by omega
    obtain ⟨r,hx⟩:∃ r,rows[l]? = some r:=⟨_,List.getElem?_eq_getElem (by rw [HN.out];omega)⟩
    obtain ⟨hrl,v,hv⟩:=HK.out l r hx
    obtain ⟨hs,R,H,_⟩:=hr
    obtain ⟨b,off,rfl,_,_,hb⟩:=R.some_ (by omega)
    obtain ⟨Ar,cr,he,hvs⟩:=H.at_ hx
    have his:isL S.key k rows=(cmpV v k == 0):=by
     unfold isL
     rw [HA.out,hx]
     simp only [keyOf_at hv]
     cases h:(cmpV v k == 0) <;> simpa using h
    have HIS:=Lib.hid his
    have HV:=Lib.hid hv
    clear hx hv his
    go_wp2_with fail
    have D:=fun w' (h:Below wr.heap.size wr.drew w')=>(R.ext (Below.trans hw1.drew (Below.mono h hw1.size))).at_ he
    have D2:=fun w' (h:Below wr.heap.size wr.drew w')=>B1.three (Below.trans hbw.drew (Below.mono h hbw.size))
    obtain ⟨p,hp⟩:∃ p,(cmpV v k == 0)=p:=⟨_,rfl⟩
    refine wp_region_one [(0,true),(1,true),(2,true),(3,true),(4,true),(5,true),(6,true),(7,true),(8,true),(9,true),(10,true),(11,false),(12,true),(13,true),(14,true),(15,true)] (by kernel_rfl) (by kernel_rfl) (by kernel_rfl) (by decide) ?_
    repeat ((with_reducible refine pG ?_);(first|refine pT ?_|refine pF ?_);try go_frame)
    refine pD fun K hK=>?_;go_simp
    refine (FC.out r lo Ar r.length cr v _ (hg.ext hw1.drew) (hvs.ext hw1.drew) HV.out hrl).mono ?_
    rintro e w1 ⟨rfl,hb1⟩
    refine hK.out _ _ hb1 ?_
    clear hK K
    repeat ((with_reducible refine pG ?_);(first|refine pT ?_|refine pF ?_);try go_frame)
    refine wpPerm_done ?_
    clear D D2
    have HP:=Lib.hid hp
    clear hp
    go_wp2
    exact bodyPost_ret (v:=.tuple #[.int .i64 (l:Int),.bool p]) (by simp [results,Tryz.results177,go_sem];try rfl) rfl ⟨by rw [HA.out,HIS.out,HP.out],Below.trans hw1.drew (Below.mono hb1 hw1.size)⟩
   ·have hd2:decide ((l:Int)<(n:Int))=false:=by simp;omega
    have hd3:decide (l<n)=false:=by simp;omega
    have his:isL S.key k rows=false:=by
     unfold isL
     rw [HA.out,List.getElem?_eq_none (by rw [HN.out];exact hln)]
    have HIS:=Lib.hid his
    clear his
    go_wp2_with fail
    refine wp_region_one [(0,true),(1,true),(2,true),(3,true),(4,true),(5,true),(6,true),(7,true),(8,true),(9,true),(10,true),(11,true),(12,true),(13,true),(14,true),(15,true)] (by kernel_rfl) (by kernel_rfl) (by kernel_rfl) (by decide) ?_
    repeat ((with_reducible refine pG ?_);(first|refine pT ?_|refine pF ?_);try go_frame)
    refine wpPerm_done ?_
    go_wp2
    exact bodyPost_ret (v:=.tuple #[.int .i64 (l:Int),.bool false]) (by simp [results,Tryz.results177,go_sem];try rfl) rfl ⟨by rw [HA.out,HIS.out],hw1.drew⟩
theorem find_ (S:Sch) (k:V) (rows:List (List V)) (lo:Nat) (A:Option Addr) (n c:Nat) (A':Option Addr) (n' c':Nat) (w:World) (hr:Rs w lo A' n' c' rows)
  (hk:Keyed S.key rows) (ho:rows.Pairwise fun a b=>cmpV (keyOf S.key a) (keyOf S.key b)<0) (hn:n'≤100000) :
  Calls Tryz.prog 107 #[.agg (tabA S A n c A' n' c'),.agg #[.int .i64 k.k,.int .i64 k.n,.string k.s]] w
   fun e w'=>e=.returned (.tuple #[.int .i64 (atL S.key k rows:Nat),.bool (isL S.key k rows)])∧Below w.heap.size w w':=by
 have HB:=Lib.hid (fun g w' hg hr'=>bsf_ S A n c A' n' c' g k rows lo A' n' c' w' hg hr' hk ho hn)
 obtain ⟨p,hp⟩:∃ p,atL S.key k rows=p:=⟨_,rfl⟩
 obtain ⟨q,hq⟩:∃ q,isL S.key k rows=q:=⟨_,rfl⟩
 rw [hp,hq] at HB ⊢
 clear hp hq hk ho
 obtain ⟨kk,kn,ks⟩:=k
 simp only at HB ⊢
 simp only [tabA] at HB ⊢
 go_enter Tryz.func107,Tryz.ntmps107
 go_upto_region 1 with fail
 obtain ⟨W,hW_,hbW,B1,B2⟩:=al2 w 232 58 #[.string S.name,.slice A n c,.int .i64 S.key,.bool S.only,.slice A' n' c'] #[.int .i64 kk,.int .i64 kn,.string ks]
 rw [←hW_]
 clear hW_
 have q1:=B1.cell 4
 have q2:=B2.three (Below.refl _ _)
 go_wp2_with fail
 refine (HB.out _ _ B1 (hr.ext hbW)).mono ?_
 rintro e w1 ⟨rfl,hb1⟩
 clear q1 q2
 go_wp2
 exact bodyPost_ret (v:=.tuple #[.int .i64 (p:Int),.bool q]) (by simp [results,Tryz.results107,go_sem];try rfl) rfl ⟨rfl,Below.trans hbW (Below.mono hb1 hbW.size)⟩
theorem Hs.far {w:World} {lo:Nat} {hs:List Value} {rows:List (List V)} (k:Hs w lo hs rows) {p:Addr} (u:Value) (hp:p.block<lo):Hs (w.setCell p u) lo hs rows:=⟨k.1,fun i h r h1 h2=>by
 obtain ⟨A,c,e,hv⟩:=k.2 i h r h1 h2
 exact ⟨A,c,e,hv.1.farL u hp,hv.2⟩⟩
def OwnR (rows:List (List V)) (n:Nat) (w:World) (r:Ending) (w':World):Prop:=∃ A c,r=.returned (.slice A n c)∧Rs w' w.heap.size A n c rows∧Fine A∧Below w.heap.size w w'
def nilS:Value:=.slice none 0 0
theorem made_nil (n:Nat):(madeCells #[Value.slice none 0 0] n).toList=List.replicate n nilS:=by
 apply List.ext_getElem?
 intro i
 simp only [madeCells,Array.toList_map,Array.toList_range,List.getElem?_map,List.getElem?_replicate]
 by_cases h:i<n
 ·rw [if_pos h,List.getElem?_range h]
  simp [nilS,Nat.mod_one]
 ·rw [if_neg h,List.getElem?_eq_none (by simpa using h)];rfl
theorem fill_set (hs:List Value) (n k:Nat) (u:Value) (hk:hs.length=k) (hn:k<n):(hs++List.replicate (n - k) nilS).set k u=(hs++[u])++List.replicate (n - (k+1)) nilS:=by
 have e:n - k=n - (k+1)+1:=by omega
 rw [List.set_append_right _ _ (by omega),hk,Nat.sub_self,e,List.replicate_succ,List.set_cons_zero,List.append_assoc];rfl
theorem own_ (rows:List (List V)) (lo:Nat) (A:Option Addr) (n c:Nat) (w:World) (hr:Rs w lo A n c rows) (hn:n≤100000) (hl:∀ r∈rows,r.length≤100000) :
  Calls Tryz.prog 175 #[.slice A n c] w (OwnR rows n w):=by
 obtain ⟨hs0,R,H,hN⟩:=hr
 have HN:=Lib.hid hN
 have HL:=Lib.hid hl
 clear hN hl
 obtain ⟨i0,hi,hz0,hz1,hz2⟩:=info_parts (P:=Tryz.prog) (e:=59) (z:=.slice none 0 0) (size:=1) (bytes:=24) (by kernel_rfl)
 go_enter Tryz.func175,Tryz.ntmps175
 go_wp2_with (at_make;refine wpList_make_full _ rfl _ _ 151 rfl w.heap.size 59 i0 (.slice none 0 0) 1 Tryz.underlying151 hi hz0 hz1 _ _ _ _ n rfl rfl rfl rfl ?b2 ?b3 (Nat.le_refl _) ?_)
 case b2=>rw [hz2];omega
 case b3=>unfold maxLen;omega
 intro w3 hown3 hgrow3
 rw [made_nil] at hown3
 have hb3:Below w.heap.size w w3:=(Below.refl _ _).grown hgrow3 (Nat.le_refl _) (fun k h=>by cases h)
 have hs3:=(hown3.lt w.heap.size rfl).2
 have HO3:=Lib.hid hown3
 clear hown3 hgrow3
 go_wp2
 go_loopw [11] (fun i wr=>∃ (k:Nat) (hs:List Value),k≤n∧i=.int .i64 k∧wr.ownsRow w.heap.size 59 1 (.slice (some ⟨w.heap.size,0,none⟩) n n) n (hs++List.replicate (n - k) nilS)∧Hs wr (w.heap.size+1) hs (rows.take k)∧Below w.heap.size w wr) (fun i _=>n - (intOf i).toNat)
 case atStart=>exact ⟨0,[],by omega,rfl,HO3.out,Hs.nil _ _,hb3⟩
 case round =>
  obtain ⟨k,hs,hk,rfl,hown,hH,hbw⟩:=hrel
  have hsl:hs.length=k:=by rw [hH.1,List.length_take,HN.out];omega
  rcases Nat.lt_or_ge k n with hlt|hge
  ·have hd:decide ((k:Int)<(n:Int))=true:=by simp;omega
   have hkn:(k:Int)<(n:Int):=by omega
   obtain ⟨r,hx⟩:∃ r,rows[k]? = some r:=⟨_,List.getElem?_eq_getElem (by rw [HN.out];exact hlt)⟩
   obtain ⟨b,off,rfl,_,_,hb⟩:=R.some_ (by omega)
   obtain ⟨Ar,cr,he,hvs⟩:=H.at_ hx
   have hrl:=HL.out r (List.mem_of_getElem? hx)
   have q:=(R.ext hbw).at_ he
   have HO:=Lib.hid hown
   have HX:=Lib.hid hx
   clear hown hx
   have hsz:=(HO.out.lt w.heap.size rfl).2
   go_wp2_with fail
   clear q
   refine (cloneV r lo Ar r.length cr _ hrl (hvs.ext hbw)).mono ?_
   rintro e w4 ⟨A2,c2,rfl,hown2,hb4⟩
   have hown4:=own_ext HO.out hb4
   have f:=hown4.frozenAt k
   have q:=hown4.cellAt k (by omega)
   have hst:=hown4.stored k (.slice A2 r.length c2)
   rw [fill_set hs n k _ hsl hlt] at hst
   have hV2:Vs w4 (w.heap.size+1) A2 r.length c2 r:=(Vs.of_own hown2).base (by omega)
   have hH4:=((hH.ext hb4).append (Hs.one ⟨A2,c2,rfl,hV2⟩)).far (p:=⟨w.heap.size,k,none⟩) (.slice A2 r.length c2) (Nat.lt_succ_self _)
   have HS:=Lib.hid hst
   have hbw4:=Below.trans hbw (Below.mono hb4 hbw.size)
   clear hown2 hown4 hst
   have hq:∃ x,w4.cell? ⟨w.heap.size,k,none⟩=some x:=by
    rw [q]
    exact ⟨_,List.getElem?_eq_getElem (by rw [List.length_append,List.length_replicate];omega)⟩
   clear q
   obtain ⟨x,q⟩:=hq
   go_wp2
   clear q f
   go_roundw
   case rel =>
    refine ⟨k+1,hs++[.slice A2 r.length c2],by omega,by go_num,HS.out.1,?_,hbw4.grown HS.out.2 hbw4.size (fun j hj=>by injection hj with hj;omega)⟩
    rw [List.take_add_one,HX.out]
    exact hH4
   case measure=>simp [intOf];omega
  ·have hd:decide ((k:Int)<(n:Int))=false:=by simp;omega
   obtain rfl:k=n:=by omega
   rw [Nat.sub_self,List.replicate_zero,List.append_nil] at hown
   rw [List.take_of_length_le (by rw [HN.out];exact Nat.le_refl _)] at hH
   have hRow:=Row.of_own hown
   go_wp2
   go_ret
   exact ⟨_,_,rfl,⟨hs,hRow,hH.base (Nat.le_succ _),HN.out⟩,.inr ⟨_,_,rfl⟩,hbw⟩
theorem grow0 (n:Nat) (w:World) (h0:0<n) (hn:n≤200000) :
  Calls Tryz.prog 208 #[.slice none 0 0,.int .i64 n] w fun e w'=>∃ v,e=.returned v∧w'.ownsRow w.heap.size 59 1 v 0 []∧Below w.heap.size w w':=by
 obtain ⟨i0,hi,hz0,hz1,hz2⟩:=info_parts (P:=Tryz.prog) (e:=59) (z:=.slice none 0 0) (size:=1) (bytes:=24) (by kernel_rfl)
 have hrun:=fun ty=>Lib.run_append_nil_zeros (P:=Tryz.prog) w 151 3 ty 59 i0 _ .i64 .i64 Tryz.underlying151 Tryz.underlying3 hi hz0 n h0 (by rw [hz1];decide) (by omega) (by rw [hz2];omega)
 have h2:=Lib.hid (World.ownsRow_made (e:=59) (size:=1) (base:=w.heap.size) w.drew (Builtin.zeroCells (Value.slice none 0 0).cells n++Builtin.zeroCells (Value.slice none 0 0).cells (grownCap w n 0 59 - n)) (grownCap w n 0 59) (Nat.le_refl _) (grownCap_le_maxLen _ _ _ _ (by unfold maxLen;omega)) (by
  have:=grownCap_ge w n 0 59
  simp [size_zeroCells,Value.cells];try omega))
 have h3:=Lib.hid (((Below.refl w.heap.size w).drew).alloc (Nat.le_refl _) (.cells (Builtin.zeroCells (Value.slice none 0 0).cells n++Builtin.zeroCells (Value.slice none 0 0).cells (grownCap w n 0 59 - n)) 59))
 have hge:=grownCap_ge w n 0 59
 have hle:=grownCap_le_maxLen w n 0 59 (by unfold maxLen;omega)
 unfold maxLen at hle
 generalize grownCap w n 0 59=G at *
 generalize hWW:w.drew.alloc (.cells (Builtin.zeroCells (Value.slice none 0 0).cells n++Builtin.zeroCells (Value.slice none 0 0).cells (G - n)) 59)=WW at *
 clear hWW
 have d1:decide ((n:Int)<0)=false:=by simp;try omega
 have d2:decide (0<(n:Int))=true:=by simp;try omega
 go_enter Tryz.func208,Tryz.ntmps208
 go_wp2_with (at_builtin;refine Lib.wpList_append_run _ rfl _ _ _ _ rfl _ _ rfl rfl _ _ (hrun _) ?_)
 go_ret
 exact ⟨_,rfl,h2.out,h3.out⟩
theorem grow_ (n:Nat) (w:World) (hn:n≤200000) :
  Calls Tryz.prog 208 #[.slice none 0 0,.int .i64 n] w fun e w'=>∃ v,e=.returned v∧w'.ownsRow w.heap.size 59 1 v 0 []∧Below w.heap.size w w':=by
 rcases Nat.eq_zero_or_pos n with rfl|h0
 ·go_enter Tryz.func208,Tryz.ntmps208
  go_wp2
  go_ret
  exact ⟨_,rfl,World.ownsRow_nil _ _ _ _,Below.refl _ _⟩
 ·exact grow0 n w h0 hn
structure Part where
 A:Option Addr
 n:Nat
 c:Nat
 cs:List Value
structure PartOk (w:World) (p:Part):Prop where
 row:Row w 0 p.A p.n p.c p.cs
 len:p.cs.length=p.n
 one:∀ u∈p.cs,u.oneCell'=true
theorem PartOk.ext {w w':World} {p:Part} (h:PartOk w p) (hb:Below w.heap.size w w'):PartOk w' p:=⟨h.row.ext hb,h.len,h.one⟩
def sumN (ps:List Part):Nat:=(ps.map (·.n)).sum
def allC (ps:List Part):List Value:=ps.flatMap (·.cs)
theorem take_snoc {α:Type} {l:List α} {k:Nat} {x:α} (h:l[k]? = some x):l.take (k+1)=l.take k++[x]:=by rw [List.take_add_one,h];rfl
theorem sumN_snoc {ps:List Part} {k:Nat} {p:Part} (h:ps[k]? = some p):sumN (ps.take (k+1))=sumN (ps.take k)+p.n:=by
 rw [take_snoc h];simp [sumN]
theorem allC_snoc {ps:List Part} {k:Nat} {p:Part} (h:ps[k]? = some p):allC (ps.take (k+1))=allC (ps.take k)++p.cs:=by
 rw [take_snoc h];simp [allC]
theorem sumN_le (ps:List Part) (k:Nat):sumN (ps.take k)≤sumN ps:=by
 have e:sumN ps=sumN (ps.take k)+sumN (ps.drop k):=by
  unfold sumN
  rw [←List.sum_append,←List.map_append,List.take_append_drop]
 omega
def ConP (cs:List Value) (n:Nat) (w:World) (r:Ending) (w':World):Prop:=∃ A c,r=.returned (.slice A n c)∧w'.ownsRow w.heap.size 59 1 (.slice A n c) n cs∧Below w.heap.size w w'
theorem concat_ (ps:List Part) (g m:Nat) (w:World) (hm:ps.length=m) (hg:g<w.heap.size) (hc:∀ (i:Nat) p,ps[i]? = some p→w.cell? ⟨g,i,none⟩=some (.slice p.A p.n p.c)∧PartOk w p) (hN:sumN ps≤100000) (hm2:m≤1000) :
  Calls Tryz.prog 176 #[.slice (some ⟨g,0,none⟩) m m] w (ConP (allC ps) (sumN ps) w):=by
 obtain ⟨i0,hi,hz0,hz1,hz2⟩:=info_parts (P:=Tryz.prog) (e:=59) (z:=.slice none 0 0) (size:=1) (bytes:=24) (by kernel_rfl)
 have HM:=Lib.hid hm
 have HC:=Lib.hid hc
 clear hm hc
 obtain ⟨N,hNe⟩:∃ N,sumN ps=N:=⟨_,rfl⟩
 have HN:=Lib.hid hNe
 rw [hNe] at hN ⊢
 clear hNe
 go_enter Tryz.func176,Tryz.ntmps176
 go_wp2_with fail
 go_loopw [3,11] (fun s i wr=>∃ (k z:Nat),k≤m∧i=.int .i64 k∧s=.int .i64 z∧Hid (z=sumN (ps.take k))∧Below w.heap.size w wr) (fun _ i _=>m - (intOf i).toNat)
 case atStart=>exact ⟨0,0,Nat.zero_le _,rfl,rfl,Lib.hid (by simp [sumN]),Below.refl _ _⟩
 case round =>
  obtain ⟨k,z,hk,rfl,rfl,HZ,hbl⟩:=hrel
  rcases Nat.lt_or_ge k m with hlt|hge
  ·have hd:decide ((k:Int)<(m:Int))=true:=by simp;omega
   have hkn:(k:Int)<(m:Int):=by omega
   obtain ⟨p,hx⟩:∃ p,ps[k]? = some p:=⟨_,List.getElem?_eq_getElem (by rw [HM.out];exact hlt)⟩
   obtain ⟨q,hp⟩:=HC.out k p hx
   have q:=(hbl.cell (p:=⟨g,k,none⟩) hg).trans q
   have hs:=sumN_snoc hx
   have hsl:=sumN_le ps (k+1)
   have hzn:z+p.n≤100000:=by rw [HZ.out];have:=HN.out;omega
   have HS:=Lib.hid (show z+p.n=sumN (ps.take (k+1)) by rw [HZ.out,hs])
   clear hx hs hsl
   have hd2:decide ((z:Int)+(p.n:Int)<0)=false:=by simp;omega
   go_wp2_with fail
   go_roundw
   case rel=>exact ⟨k+1,z+p.n,by omega,by go_num,by go_num,HS,hbl⟩
   case measure=>simp [intOf];omega
  ·have hd:decide ((k:Int)<(m:Int))=false:=by simp;omega
   obtain rfl:k=m:=by omega
   have hzN:z=N:=by rw [HZ.out,List.take_of_length_le (by rw [HM.out];exact Nat.le_refl _),HN.out]
   subst hzN
   go_wp2_with fail
   refine (grow_ z _ (by omega)).mono ?_
   rintro e w1 ⟨v,rfl,hown,hb1⟩
   have HO1:=Lib.hid (own_base hown hbl.size)
   have hb1:=Below.trans hbl (Below.mono hb1 hbl.size)
   clear hown
   go_wp2_with fail
   go_loopw [6,27] (fun o i wr=>∃ (j z2:Nat),j≤k∧i=.int .i64 j∧wr.ownsRow w.heap.size 59 1 o z2 (allC (ps.take j))∧Hid (z2=sumN (ps.take j))∧Below w.heap.size w wr) (fun _ i _=>k - (intOf i).toNat)
   case atStart=>exact ⟨0,0,Nat.zero_le _,rfl,HO1.out,Lib.hid (by simp [sumN]),hb1⟩
   case round =>
    obtain ⟨j,z2,hj,rfl,hown,HZ2,hbw⟩:=hrel
    obtain ⟨A2,c2,rfl⟩:=own_slice hown
    have HO2:=Lib.hid hown
    clear hown
    rcases Nat.lt_or_ge j k with hlt|hge
    ·have hd:decide ((j:Int)<(k:Int))=true:=by simp;omega
     have hkn:(j:Int)<(k:Int):=by omega
     obtain ⟨p,hx⟩:∃ p,ps[j]? = some p:=⟨_,List.getElem?_eq_getElem (by rw [HM.out];exact hlt)⟩
     obtain ⟨q,hp⟩:=HC.out j p hx
     have q:=(hbw.cell (p:=⟨g,j,none⟩) hg).trans q
     have hs:=sumN_snoc hx
     have hsl:=sumN_le ps (j+1)
     have hzn:z2+p.n≤100000:=by rw [HZ2.out];have:=HN.out;omega
     have HS:=Lib.hid (show z2+p.n=sumN (ps.take (j+1)) by rw [HZ2.out,hs])
     have HA:=Lib.hid (allC_snoc hx)
     have HP:=Lib.hid (hp.ext hbw)
     clear hx hs hsl hp
     obtain ⟨pA,pn,pc,pcs⟩:=p
     cases pA with
     | none =>
      have hr2:pn=0∧pc=0∧pcs=[]:=by
       rcases HP.out.row with h|⟨_,h,_⟩|⟨_,_,h,_⟩
       ·exact h.2
       ·cases h
       ·cases h
      obtain ⟨rfl,rfl,rfl⟩:=hr2
      go_wp2_with (at_builtin;refine wpList_append_own_none rfl (.tmp 31) (.tmp 32) 151 rfl w.heap.size 59 i0 1 Tryz.underlying151 hi _ z2 _ rfl HO2.out rfl ?_)
      go_roundw
      case rel=>exact ⟨j+1,z2,by omega,by go_num,by rw [HA.out];simpa using HO2.out,HS,hbw⟩
      case measure=>simp [intOf];omega
     | some ad =>
      go_wp2_with (at_builtin;refine wpList_append_own _ rfl (.tmp 31) (.tmp 32) 151 rfl w.heap.size 59 i0 _ 1 24 Tryz.underlying151 hi hz0 hz1 hz2 rfl (by decide) _ _ _ rfl HO2.out ad pn pc pcs rfl ?c0 ?c1 ?c2 ?c3 ?c4 ?c5 ?_)
      case c0=>simpa using HP.out.len
      case c1=>exact HP.out.row.src'
      case c2=>exact HP.out.one
      case c3=>unfold maxLen;omega
      case c4=>omega
      case c5=>exact hbw.size
      intro v' w3 hown3 hgrow3 _
      go_wp2
      go_roundw
      case rel=>exact ⟨j+1,z2+pn,by omega,by go_num,by rw [HA.out];exact hown3,HS,hbw.grown hgrow3 hbw.size (fun b hb=>(HO2.out.lt b hb).1)⟩
      case measure=>simp [intOf];omega
    ·have hd:decide ((j:Int)<(k:Int))=false:=by simp;omega
     obtain rfl:j=k:=by omega
     have e:ps.take j=ps:=List.take_of_length_le (by rw [HM.out];exact Nat.le_refl _)
     have hzN:z2=z:=by rw [HZ2.out,e,HN.out]
     subst hzN
     have h2:=HO2.out
     rw [e] at h2
     go_wp2
     go_ret
     exact ⟨A2,c2,rfl,h2,hbw⟩
theorem Blk.set1 {w:World} {g i:Nat} {t:TypeId} {cs:Array Value} (h:Blk w g t cs) (a:Value):∃ w',w'=w.setCell ⟨g,i,none⟩ a∧Blk w' g t (cs.setIfInBounds i a)∧(∀ B,B≤g→Below B w w')∧w.grownBy w' (some g):=by
 refine ⟨_,rfl,h.set_ i a,fun B hB=>(Below.refl _ _).setCell hB _,⟨rfl,rfl,rfl,by simp [World.setCell],fun k hk hne=>?_⟩⟩
 have hne:k≠g:=fun e=>hne (by rw [e])
 exact Below.heap_setCell _ _ _ _ hne
theorem grown_trans {a b c:World} {g:Nat} (h:a.grownBy b (some g)) (k:b.grownBy c (some g)):a.grownBy c (some g) :=
 ⟨k.os.trans h.os,k.tape.trans h.tape,k.output.trans h.output,Nat.le_trans h.size k.size,fun i hi hne=>(k.block i (Nat.lt_of_lt_of_le hi h.size) hne).trans (h.block i hi hne)⟩
theorem Blk.set5 {w:World} {g:Nat} {t:TypeId} {x0 x1 x2 x3 x4:Value} (h:Blk w g t #[x0,x1,x2,x3,x4]) (a0 a1 a2 a3 a4:Value) :
  ∃ w',w'=((((w.setCell ⟨g,0,none⟩ a0).setCell ⟨g,1,none⟩ a1).setCell ⟨g,2,none⟩ a2).setCell ⟨g,3,none⟩ a3).setCell ⟨g,4,none⟩ a4∧Blk w' g t #[a0,a1,a2,a3,a4] ∧
  (∀ B,B≤g→Below B w w')∧w.grownBy w' (some g):=by
 obtain ⟨w0,e0,h0,b0,g0⟩:=Blk.set1 (i:=0) h a0
 obtain ⟨w1,e1,h1,b1,g1⟩:=Blk.set1 (i:=1) h0 a1
 obtain ⟨w2,e2,h2,b2,g2⟩:=Blk.set1 (i:=2) h1 a2
 obtain ⟨w3,e3,h3,b3,g3⟩:=Blk.set1 (i:=3) h2 a3
 obtain ⟨w4,e4,h4,b4,g4⟩:=Blk.set1 (i:=4) h3 a4
 refine ⟨w4,by rw [e4,e3,e2,e1,e0],by simpa using h4,fun B hB=>?_,grown_trans (grown_trans (grown_trans (grown_trans g0 g1) g2) g3) g4⟩
 exact Below.trans (b0 B hB) (Below.trans (b1 B hB) (Below.trans (b2 B hB) (Below.trans (b3 B hB) (b4 B hB))))
structure Parts (w:World) (g m:Nat) (rows:List (List V)) (ps:List Part):Prop where
 len:ps.length=m
 blk:g<w.heap.size
 few:m≤1000
 cell:∀ (i:Nat) p,ps[i]? = some p→w.cell? ⟨g,i,none⟩=some (.slice p.A p.n p.c)∧PartOk w p
 sum:sumN ps=rows.length
 hs:Hs w 0 (allC ps) rows
theorem Parts.ext {w w':World} {g m:Nat} {rows:List (List V)} {ps:List Part} (h:Parts w g m rows ps) (hb:Below w.heap.size w w'):Parts w' g m rows ps :=
 ⟨h.len,Nat.lt_of_lt_of_le h.blk hb.size,h.few,fun i p hp=>⟨(hb.cell (p:=⟨g,i,none⟩) h.blk).trans (h.cell i p hp).1,(h.cell i p hp).2.ext hb⟩,h.sum,h.hs.ext hb⟩
def TabP (S:Sch) (rows:List (List V)) (w:World) (r:Ending) (w':World):Prop:=∃ v,r=.returned v∧TabR w' w.heap.size v S rows∧Below w.heap.size w w'
theorem Cs.grown {w w':World} {row:Option Nat} {lo n c B:Nat} {A:Option Addr} {l:List Col} (h:Cs w lo A n c l) (hw:w.heap.size≤B) (hg:w.grownBy w' row) (hl:∀ g,row=some g→B≤g):Cs w' lo A n c l:=⟨h.1.grownB hw hg hl,h.2⟩
theorem Cs.grownL {w w':World} {g lo n c:Nat} {A:Option Addr} {l:List Col} (h:Cs w lo A n c l) (hg:w.grownBy w' (some g)) (hl:g<lo):Cs w' lo A n c l:=⟨h.1.grownL hg hl,h.2⟩
theorem Hs.grownL {w w':World} {g lo:Nat} {hs:List Value} {rows:List (List V)} (h:Hs w lo hs rows) (hg:w.grownBy w' (some g)) (hl:g<lo):Hs w' lo hs rows:=⟨h.1,fun i h' r h1 h2=>by
 obtain ⟨A,c,e,hv⟩:=h.2 i h' r h1 h2
 exact ⟨A,c,e,hv.1.grownL hg hl,hv.2⟩⟩
theorem Rs.grownL {w w':World} {g lo n c:Nat} {A:Option Addr} {rows:List (List V)} (h:Rs w lo A n c rows) (hg:w.grownBy w' (some g)) (hl:g<lo):Rs w' lo A n c rows:=by
 obtain ⟨hs,h1,h2,h3⟩:=h
 exact ⟨hs,h1.grownL hg hl,h2.grownL hg hl,h3⟩
theorem with_ (S:Sch) (lo:Nat) (A:Option Addr) (n c:Nat) (A':Option Addr) (n' c':Nat) (rows:List (List V)) (ps:List Part) (g m:Nat) (w:World) (hC:Cs w lo A n c S.cols) (hn:n≤100000) (hp:Parts w g m rows ps) (hN:rows.length≤100000) (hl:∀ r∈rows,r.length≤100000) :
  Calls Tryz.prog 106 #[.agg (tabA S A n c A' n' c'),.slice (some ⟨g,0,none⟩) m m] w (TabP S rows w):=by
 obtain ⟨nm,cols,key,only⟩:=S
 simp only [tabA] at hC ⊢
 have HL:=Lib.hid hl
 clear hl
 go_enter Tryz.func106,Tryz.ntmps106
 go_upto_region 1 with fail
 obtain ⟨W,hW_,hbW,B1,B2⟩:=al2 w 232 153 #[.string nm,.slice A n c,.int .i64 key,.bool only,.slice A' n' c'] #[.string ⟨#[]⟩,.slice none 0 0,.int .i64 0,.bool false,.slice none 0 0]
 rw [←hW_]
 clear hW_
 have q1:=five B1 (Below.refl _ _)
 have hWl:=B2.lt
 go_wp2_with fail
 clear q1
 obtain ⟨W2,hW_,hb2,B3⟩:=al1 W 53 #[.string nm,.slice A n c,.int .i64 key,.bool only]
 rw [←hW_]
 clear hW_
 have hbW2:=Below.trans hbW (Below.mono hb2 hbW.size)
 have hz3:=B3.lt
 refine (cloneC cols lo A n c _ hn (hC.ext hbW2)).mono ?_
 rintro e w3 ⟨Ac,cc,rfl,hown3,hb3⟩
 have hC3:Cs w3 W2.heap.size Ac n cc cols:=Cs.of_own hown3
 have B3:=B3.ext hb3
 have B2:=(B2.ext hb2).ext hb3
 have hbw3:=Below.trans hbW2 (Below.mono hb3 hbW2.size)
 have hz1:=hbW.size
 have hz2:=hb2.size
 have f:=B3.frozen 1
 have q:=B3.cell 1
 have hz33:=hb3.size
 clear hown3 hb3
 go_wp2_with fail
 clear f q
 obtain ⟨w4,hw4,B4,hlow4,hgr4⟩:=Blk.set1 (i:=1) B3 (.slice Ac n cc)
 rw [←hw4]
 clear hw4
 have B4:Blk w4 W.heap.size 53 #[.string nm,.slice Ac n cc,.int .i64 key,.bool only]:=B4
 have hbw4:=Below.trans hbw3 (hlow4 _ hz1)
 have B2:Blk w4 (w.heap.size+1) 153 #[.string ⟨#[]⟩,.slice none 0 0,.int .i64 0,.bool false,.slice none 0 0]:=B2.grown hgr4 (by simp;omega)
 have hgl:=hlow4 _ (Nat.le_refl _)
 have hg4:=hgr4.size
 have hgC:Cs w4 W2.heap.size Ac n cc cols:=hC3.grownL hgr4 hz3
 have D:=fun w' (h:Blk w' W.heap.size 53 #[.string nm,.slice Ac n cc,.int .i64 key,.bool only]∧Below w.heap.size w w')=>four h.1 (Below.refl _ _)
 refine wp_region_oneS (S:=fun w'=>Blk w' W.heap.size 53 #[.string nm,.slice Ac n cc,.int .i64 key,.bool only]∧Below w.heap.size w w') [(0,true),(1,true),(2,false),(3,false),(4,true),(5,false)] (by kernel_rfl) (by kernel_rfl) (by kernel_rfl) (by decide) ⟨B4,hbw4.drew⟩ ?_
 repeat ((with_reducible refine pG ?_);(first|refine pT ?_|refine pF ?_);try go_frame)
 refine pD fun K hK=>?_;go_simp
 have hpx:=hp.ext hbw4.drew
 refine (concat_ ps g m _ hpx.len hpx.blk hpx.cell (by rw [hpx.sum];exact hN) hpx.few).mono ?_
 rintro e w5 ⟨A5,c5,rfl,hown5,hb5⟩
 have hbw5:=Below.trans hbw4.drew (Below.mono hb5 hbw4.size)
 refine hK.out _ _ ⟨B4.ext (Below.trans (Below.refl _ _).drew hb5),hbw5⟩ ?_
 clear hK K
 refine pD fun K hK=>?_;go_simp
 have hR5:Rs w5 0 A5 (sumN ps) c5 rows:=⟨allC ps,(Row.of_own hown5).base (Nat.zero_le _),hpx.hs.ext hb5,hpx.sum.symm⟩
 refine (own_ rows 0 A5 (sumN ps) c5 _ hR5 (by rw [hpx.sum];exact hN) HL.out).mono ?_
 rintro e w6 ⟨A6,c6,rfl,hR6,hF6,hb6⟩
 have hb46:=Below.trans (Below.refl _ _).drew (Below.trans hb5 (Below.mono hb6 hb5.size))
 have hbw6:=Below.trans hbw5 (Below.mono hb6 hbw5.size)
 refine hK.out _ _ ⟨B4.ext hb46,hbw6⟩ ?_
 clear hK K
 repeat ((with_reducible refine pG ?_);(first|refine pT ?_|refine pF ?_);try go_frame)
 clear D
 have B2:=B2.ext hb46
 have f0:=B2.frozen 0
 have f1:=B2.frozen 1
 have f2:=B2.frozen 2
 have f3:=B2.frozen 3
 have f4:=B2.frozen 4
 have q:=five B2 (Below.refl _ _)
 refine pD fun K hK=>?_;go_simp
 clear f0 f1 f2 f3 f4 q
 obtain ⟨w7,hw7,B7,hlow7,hgr7⟩:=Blk.set5 B2 (.string nm) (.slice Ac n cc) (.int .i64 key) (.bool only) (.slice A6 (sumN ps) c6)
 rw [←hw7]
 clear hw7
 have hbw7:=Below.trans hbw6 (hlow7 _ (Nat.le_succ _))
 have hz4:W2.heap.size≤w4.heap.size:=by omega
 have hz5:w4.heap.size≤w5.heap.size:=hb5.size
 refine hK.out _ _ ⟨(B4.ext hb46).grown hgr7 (by simp;omega),hbw7⟩ (wpPerm_done ?_)
 clear hK K
 have q:=five B7 (Below.refl _ _)
 go_wp2
 exact bodyPost_ret (v:=.agg #[.string nm,.slice Ac n cc,.int .i64 key,.bool only,.slice A6 (sumN ps) c6]) (by simp [results,Tryz.results106,go_sem,q];try rfl) rfl
  ⟨_,rfl,⟨Ac,n,cc,A6,sumN ps,c6,rfl,((hgC.ext hb46).grownL hgr7 (by omega)).base (by omega),(hR6.grownL hgr7 (by omega)).base (by omega),hF6⟩,hbw7⟩
def Small (r:List V):Prop:=∀ v∈r,v.s.size≤maxLen
theorem check_ (v:V) (w:World) (hs:v.s.size≤maxLen) :
  Calls Tryz.prog 174 #[.agg #[.int .i64 v.k,.int .i64 v.n,.string v.s]] w fun e w'=>e=.returned (.int .i64 (vchk v))∧Below w.heap.size w w':=check v.k v.n v.s w hs
theorem fits_ (S:Sch) (lo:Nat) (A:Option Addr) (n c:Nat) (r:List V) (lo':Nat) (Ar:Option Addr) (m cr:Nat) (w:World) (hC:Cs w lo A n c S.cols) (hn:n≤100000) (hr:Vs w lo' Ar m cr r) (hm:m≤100000) (hs:Small r) :
  Calls Tryz.prog 105 #[.agg (schA S A n c),.slice Ar m cr] w fun e w'=>e=.returned (.int .i64 (fitsL S.cols r))∧Below w.heap.size w w':=by
 obtain ⟨nm,cols,key,only⟩:=S
 simp only [schA] at hC ⊢
 have HS:=Lib.hid hs
 have HC:=Lib.hid hC
 have HR:=Lib.hid hr
 clear hs hC hr
 by_cases hmn:m=n
 case neg =>
  have e:fitsL cols r=1:=by
   unfold fitsL
   rw [if_pos (by rw [HR.out.2,HC.out.2];exact hmn)]
  rw [e]
  have hd:((m:Int) != (n:Int))=true:=by simp;omega
  go_enter Tryz.func105,Tryz.ntmps105
  go_wp2
  go_ret
  exact ⟨rfl,(Below.refl _ _).alloc (Nat.le_refl _) _⟩
 subst hmn
 have e:fitsL cols r=fitsGo cols r:=by
  unfold fitsL
  rw [if_neg (by rw [HR.out.2,HC.out.2];simp)]
 rw [e]
 clear e
 obtain ⟨z,hz⟩:∃ z,fitsGo cols r=z:=⟨_,rfl⟩
 rw [hz]
 have HZ:=Lib.hid hz
 clear hz
 have hd:((m:Int) != (m:Int))=false:=by simp
 go_enter Tryz.func105,Tryz.ntmps105
 go_upto_region 1 with fail
 obtain ⟨W,hW_,hbW,B1⟩:=al1 w 53 #[.string nm,.slice A m c,.int .i64 key,.bool only]
 rw [←hW_]
 clear hW_
 have q1:=four B1 (Below.refl _ _)
 go_wp2_with fail
 clear q1 hd
 go_loopw [17] (fun i wr=>∃ k:Nat,k≤m∧i=.int .i64 k∧Below W.heap.size W wr∧Hid (fitsGo (cols.drop k) (r.drop k)=z)) (fun i _=>m - (intOf i).toNat)
 case atStart=>exact ⟨0,Nat.zero_le _,rfl,Below.refl _ _,Lib.hid (by simpa using HZ.out)⟩
 case round =>
  obtain ⟨k,hk,rfl,hbw,HK⟩:=hrel
  have hw1:=Below.trans hbW (Below.mono hbw hbW.size)
  rcases Nat.lt_or_ge k m with hlt|hge
  case inr =>
   have hd:decide ((k:Int)<(m:Int))=false:=by simp;omega
   have hz0:z=0:=by rw [←HK.out,fitsGo_end (by rw [HR.out.2];exact hge)]
   clear HK HZ
   subst hz0
   go_wp2
   go_ret
   exact ⟨rfl,hw1⟩
  have hd:decide ((k:Int)<(m:Int))=true:=by simp;omega
  have hkm:(k:Int)<(m:Int):=by omega
  obtain ⟨v,hv⟩:∃ v,r[k]? = some v:=⟨_,List.getElem?_eq_getElem (by rw [HR.out.2];exact hlt)⟩
  obtain ⟨cl,hcl⟩:∃ cl,cols[k]? = some cl:=⟨_,List.getElem?_eq_getElem (by rw [HC.out.2];exact hlt)⟩
  obtain ⟨b,o,rfl,_,_,hb⟩:=HR.out.1.some_ (by omega)
  obtain ⟨b',o',rfl,_,_,hb'⟩:=HC.out.1.some_ (by omega)
  have hst:=fitsGo_step hv hcl
  rw [HK.out] at hst
  have HST:=Lib.hid hst
  have hsz:=HS.out v (List.mem_of_getElem? hv)
  have q:=fun o=>((HR.out.ext hw1).ext ((Below.refl _ _).alloc (Nat.le_refl _) o)).at_ hv
  have q0:=(HR.out.ext hw1).at_ hv
  have p:=fun o=>((HC.out.ext hw1).ext ((Below.refl _ _).alloc (Nat.le_refl _) o)).at_ hcl
  have p0:=fun o o'=>((HC.out.ext hw1).ext (((Below.refl _ _).alloc (Nat.le_refl _) o).alloc (by simp) o')).at_ hcl
  have q1:=fun o=>four B1 (hbw.alloc (by exact hbw.size) o)
  have q2:=fun o o'=>four B1 ((hbw.alloc (by exact hbw.size) o).alloc (by have:=hbw.size;simp;omega) o')
  clear hst hv hcl HK HZ
  obtain ⟨v0,v1,v2⟩:=v
  obtain ⟨c0,c1,c2⟩:=cl
  simp only at HST hsz
  go_wp2_with fail
  clear q q0 p p0 q1 q2
  obtain ⟨W2,hW_,hb2,B2,B3⟩:=al2 wr 58 50 #[.int .i64 v0,.int .i64 v1,.string v2] #[.string c0,.int .i64 c1,.bool c2]
  rw [←hW_]
  clear hW_
  refine (check_ ⟨v0,v1,v2⟩ _ hsz).mono ?_
  rintro e w3 ⟨rfl,hb3⟩
  have hbw3:=Below.trans hbw (Below.mono (Below.trans hb2 (Below.mono hb3 hb2.size)) hbw.size)
  have hw3:=Below.trans hbW (Below.mono hbw3 hbW.size)
  have q2:=(B2.ext hb3).three (Below.refl _ _)
  have q3:=(B3.ext hb3).three (Below.refl _ _)
  clear hb2 hb3 B2 B3 hbw hw1
  obtain ⟨p1,hp1⟩:∃ p,(vchk ⟨v0,v1,v2⟩ != 0)=p:=⟨_,rfl⟩
  cases p1 with
  | true =>
   have e:z=vchk ⟨v0,v1,v2⟩:=by
    rw [HST.out,if_pos (by simpa using hp1)]
   go_wp2
   go_ret
   exact ⟨ret_int e.symm,hw3⟩
  | false =>
   have h1:¬vchk ⟨v0,v1,v2⟩≠0:=by simpa using hp1
   have hst:=HST.out
   rw [if_neg h1] at hst
   by_cases hk0:v0=0
   ·cases c2 with
    | false =>
     have e:z=13:=by rw [hst,if_pos ⟨hk0,rfl⟩]
     have HE:=Lib.hid e
     subst hk0
     clear hst e h1
     go_wp2
     go_ret
     exact ⟨ret_int HE.out.symm,hw3⟩
    | true =>
     rw [if_neg (by simp),if_neg (by simp [hk0])] at hst
     have HN:=Lib.hid hst.symm
     subst hk0
     clear hst h1
     go_wp2
     go_roundw
     case rel=>exact ⟨k+1,by omega,by go_num,hbw3,HN⟩
     case measure=>simp [intOf];omega
   ·rw [if_neg (by simp [hk0])] at hst
    have hk1:(v0 == 0)=false:=by simpa using hk0
    have hk2:(v0 != 0)=true:=by simpa using hk0
    by_cases hkk:v0=c1
    ·rw [if_neg (by simp [hkk])] at hst
     have HN:=Lib.hid hst.symm
     have hk3:(v0 != c1)=false:=by simpa using hkk
     clear hst h1 hkk hk0
     go_wp2
     go_roundw
     case rel=>exact ⟨k+1,by omega,by go_num,hbw3,HN⟩
     case measure=>simp [intOf];omega
    ·rw [if_pos ⟨hk0,hkk⟩] at hst
     have HE:=Lib.hid hst
     have hk3:(v0 != c1)=true:=by simpa using hkk
     clear hst h1 hkk hk0
     go_wp2
     go_ret
     exact ⟨ret_int HE.out.symm,hw3⟩
theorem Hs.nth {w:World} {lo:Nat} {hs:List Value} {rows:List (List V)} (h:Hs w lo hs rows):Hs w 0 hs rows:=h.base (Nat.zero_le _)
theorem part_of {w:World} {lo n c:Nat} {A:Option Addr} {rows:List (List V)} (h:Rs w lo A n c rows):∃ cs,PartOk w ⟨A,n,c,cs⟩∧Hs w 0 cs rows∧n=rows.length:=by
 obtain ⟨hs,h1,h2,h3⟩:=h
 exact ⟨hs,⟨h1.base (Nat.zero_le _),by rw [h2.1];exact h3,h2.one_⟩,h2.nth,h3.symm⟩
theorem parts1 {w:World} {g:Nat} {t:TypeId} {lo n c:Nat} {A:Option Addr} {rows:List (List V)} (hb:Blk w g t #[.slice A n c]) (h:Rs w lo A n c rows):∃ ps,Parts w g 1 rows ps:=by
 obtain ⟨cs,h1,h2,h3⟩:=part_of h
 refine ⟨[⟨A,n,c,cs⟩],rfl,hb.lt,by decide,fun i p hp=>?_,by simp [sumN];exact h3,by simpa [allC] using h2⟩
 match i,hp with
 | 0,hp=>injection hp with hp;subst hp;exact ⟨hb.cell 0,h1⟩
theorem parts3 {w:World} {g:Nat} {t:TypeId} {lo n c lo' n' c' lo2 n2 c2:Nat} {A A' A2:Option Addr} {rows rows' rows2:List (List V)} (hb:Blk w g t #[.slice A n c,.slice A' n' c',.slice A2 n2 c2]) (h:Rs w lo A n c rows) (h':Rs w lo' A' n' c' rows') (h2:Rs w lo2 A2 n2 c2 rows2) :
  ∃ ps,Parts w g 3 (rows++(rows'++rows2)) ps:=by
 obtain ⟨cs,a1,a2,a3⟩:=part_of h
 obtain ⟨cs',b1,b2,b3⟩:=part_of h'
 obtain ⟨cs2,c1,c2',c3⟩:=part_of h2
 refine ⟨[⟨A,n,c,cs⟩,⟨A',n',c',cs'⟩,⟨A2,n2,c2,cs2⟩],rfl,hb.lt,by decide,fun i p hp=>?_,by simp [sumN];omega,by simpa [allC] using a2.append (b2.append c2')⟩
 match i,hp with
 | 0,hp=>injection hp with hp;subst hp;exact ⟨hb.cell 0,a1⟩
 | 1,hp=>injection hp with hp;subst hp;exact ⟨hb.cell 1,b1⟩
 | 2,hp=>injection hp with hp;subst hp;exact ⟨hb.cell 2,c1⟩
theorem Cs.base' {w:World} {lo n c:Nat} {A:Option Addr} {l:List Col} (h:Cs w lo A n c l):Cs w 0 A n c l:=h.base (Nat.zero_le _)
theorem TabR.grownL {w w':World} {g lo:Nat} {v:Value} {S:Sch} {rows:List (List V)} (h:TabR w lo v S rows) (hg:w.grownBy w' (some g)) (hl:g<lo):TabR w' lo v S rows:=by
 obtain ⟨A,n,c,A',n',c',e,h1,h2,h3⟩:=h
 exact ⟨A,n,c,A',n',c',e,h1.grownL hg hl,h2.grownL hg hl,h3⟩
theorem Rs.len {w:World} {lo n c:Nat} {A:Option Addr} {rows:List (List V)} (h:Rs w lo A n c rows):rows.length=n:=by obtain ⟨_,_,_,h⟩:=h;exact h
theorem Ok.small {cs:List Col} {key:Nat} {rows:List (List V)} (h:Ok cs key rows) (hc:cs.length≤100):∀ r∈rows,r.length≤100000:=fun r hr=>by
 have:=fits_len (h.fit r hr);omega
def PutP (S:Sch) (p:Int × List (List V)) (w:World) (e:Ending) (w':World):Prop:=∃ v,e=.returned (.tuple #[v,.int .i64 p.1])∧TabR w' w.heap.size v S p.2∧Below w.heap.size w w'
theorem put_ (S:Sch) (rows:List (List V)) (r:List V) (lo:Nat) (A:Option Addr) (n c:Nat) (A':Option Addr) (n' c':Nat) (lo':Nat) (Ar:Option Addr) (m cr:Nat) (w:World)
  (hC:Cs w lo A n c S.cols) (hR:Rs w lo A' n' c' rows) (hF:Fine A') (hr:Vs w lo' Ar m cr r) (hs:Small r) (hOk:Ok S.cols S.key rows) (hn:S.cols.length≤100) (hrows:rows.length≤1000) (hm:m≤100000) :
  Calls Tryz.prog 44 #[.agg (tabA S A n c A' n' c'),.slice Ar m cr] w (PutP S (putL S.cols S.key rows r) w):=by
 have hCn:n≤100:=by rw [←hC.2];exact hn
 have hRn:=hR.len
 have HSm:=Lib.hid (hOk.small hn)
 have HK:=Lib.hid (hOk.keyed (Nat.le_trans hn (by decide)))
 have HO:=Lib.hid hOk
 have HRN:=Lib.hid hRn
 have hn':n'≤1000:=by omega
 clear hRn hOk
 have hCx:=hC.base'
 have hfits:=fun w' (h:Below w.heap.size w w')=>fits_ S lo A n c r lo' Ar m cr w' (hC.ext h) (by omega) (hr.ext h) hm hs
 have hwith:=fun (rs:List (List V)) ps g m w' (h:Below w.heap.size w w') hp hN hl=>with_ S lo A n c A' n' c' rs ps g m w' (hC.ext h) (by omega) hp hN hl
 have hfind:=fun (k:V) w' (h:Below w.heap.size w w')=>find_ S k rows lo A n c A' n' c' w' (hR.ext h) HK.out HO.out.ord (by omega)
 have hkey:=fun v w' (h:Below w.heap.size w w') hv=>key_ S A n c A' n' c' r lo' Ar m cr v w' (hr.ext h) hv hm
 obtain ⟨p,hp⟩:∃ p,putL S.cols S.key rows r=p:=⟨_,rfl⟩
 rw [hp]
 have HP:=Lib.hid hp
 clear hp
 unfold putL at HP
 obtain ⟨e,he⟩:∃ e,fitsL S.cols r=e:=⟨_,rfl⟩
 rw [he] at HP hfits
 have HE:=Lib.hid he
 clear he
 have Hfits:=Lib.hid hfits
 have Hwith:=Lib.hid hwith
 have Hfind:=Lib.hid hfind
 have Hkey:=Lib.hid hkey
 clear hfits hwith hfind hkey hs hC
 obtain ⟨nm,cols,key,only⟩:=S
 simp only [tabA,schA] at Hfits Hwith Hfind Hkey HP hn HO HK HE hCx ⊢
 go_enter Tryz.func44,Tryz.ntmps44
 go_upto_region 1 with fail
 obtain ⟨W,hW_,hbW,B1,B2⟩:=al2 w 153 153 #[.string nm,.slice A n c,.int .i64 key,.bool only,.slice A' n' c'] #[.string ⟨#[]⟩,.slice none 0 0,.int .i64 0,.bool false,.slice none 0 0]
 rw [←hW_]
 clear hW_
 have q1:=five B1 (Below.refl _ _)
 have q1':=fun o=>five B1 ((Below.refl _ _).alloc (Nat.le_refl _) o)
 have hz1:=B2.lt
 go_wp2_with fail
 clear q1 q1'
 obtain ⟨W2,hW_,hb2,B3⟩:=al1 W 232 #[.string nm,.slice A n c,.int .i64 key,.bool only,.slice A' n' c']
 rw [←hW_]
 clear hW_
 have hbW2:=Below.trans hbW (Below.mono hb2 hbW.size)
 have B1:=B1.ext hb2
 have B2:=B2.ext hb2
 have hz2:=B3.lt
 clear hb2
 refine (Hfits.out _ hbW2).mono ?_
 rintro e2 w3 ⟨rfl,hb3⟩
 have hbw3:=Below.trans hbW2 (Below.mono hb3 hbW2.size)
 have B1:=B1.ext hb3
 have B2:=B2.ext hb3
 have B3:=B3.ext hb3
 have hz3:=hb3.size
 clear hb3
 by_cases he0:e=0
 case neg =>
  have hd:(e != 0)=true:=by simpa using he0
  have hpe:p=(e,rows):=by rw [←HP.out,if_pos he0]
  subst hpe
  have q1:=five B1 (Below.refl _ _)
  have q3:=five B3 (Below.refl _ _)
  go_wp2_with fail
  clear q1 q3
  obtain ⟨W4,hW_,hb4,B4⟩:=al1 w3 151 #[.slice A' n' c']
  rw [←hW_]
  clear hW_
  have hbwC:=Below.trans hbw3 (Below.mono hb4 hbw3.size)
  have hzC:=hb4.size
  have B2:=B2.ext hb4
  have hsmC:=HSm.out
  obtain ⟨ps,hps⟩:=parts1 B4 (hR.ext hbwC)
  clear hb4
  refine (Hwith.out rows ps _ _ _ hbwC hps (by omega) hsmC).mono ?_
  rintro e5 w5 ⟨v,rfl,hT,hb5⟩
  have hT':=hT
  obtain ⟨A5,n5,c5,A6,n6,c6,rfl,_⟩:=hT
  simp only [tabA] at hT' ⊢
  have hbw5:=Below.trans hbwC (Below.mono hb5 hbwC.size)
  have B2:=B2.ext hb5
  have f0:=B2.frozen 0
  have f1:=B2.frozen 1
  have f2:=B2.frozen 2
  have f3:=B2.frozen 3
  have f4:=B2.frozen 4
  have q:=five B2 (Below.refl _ _)
  go_wp2
  clear f0 f1 f2 f3 f4 q
  obtain ⟨w6,hw6,B6,hlow6,hgr6⟩:=Blk.set5 B2 (.string nm) (.slice A5 n5 c5) (.int .i64 key) (.bool only) (.slice A6 n6 c6)
  rw [←hw6]
  clear hw6
  have q:=five B6 (Below.refl _ _)
  exact bodyPost_ret (v:=.tuple #[.agg #[.string nm,.slice A5 n5 c5,.int .i64 key,.bool only,.slice A6 n6 c6],.int .i64 e]) (by simp [results,Tryz.results44,go_sem,q];try rfl) rfl
   ⟨_,rfl,(hT'.grownL hgr6 (by omega)).base (by omega),Below.trans hbw5 (hlow6 _ (Nat.le_succ _))⟩
 case pos =>
  subst he0
  rw [if_neg (by simp)] at HP
  have hd:((0:Int) != 0)=false:=by simp
  have hfit:fitsL cols r=0:=HE.out
  obtain ⟨kv,hkv,hke,_⟩:=key_chk HO.out.kl hfit
  rw [hke] at HP
  have HKV:=Lib.hid hkv
  clear hkv hke hfit
  have q3:=five B3 (Below.refl _ _)
  go_wp2_with fail
  clear q3 hd
  have D:=fun w' (h:Below w3.heap.size w3.drew w')=>five B3 (Below.trans (Below.refl _ _).drew h)
  refine wp_region_one [(0,true),(1,true),(2,true),(3,false),(4,false),(5,true),(6,true),(7,true),(8,true),(9,true)] (by kernel_rfl) (by kernel_rfl) (by kernel_rfl) (by decide) ?_
  repeat ((with_reducible refine pG ?_);(first|refine pT ?_|refine pF ?_);try go_frame)
  refine pD fun K hK=>?_;go_simp
  refine (Hkey.out kv _ hbw3.drew HKV.out).mono ?_
  rintro e4 w4 ⟨rfl,hb4⟩
  have hbw4:=Below.trans hbw3.drew (Below.mono hb4 hbw3.size)
  refine hK.out _ _ hb4 ?_
  clear hK K
  refine pD fun K hK=>?_;go_simp
  refine (Hfind.out kv _ hbw4).mono ?_
  rintro e5 w5 ⟨rfl,hb5⟩
  obtain ⟨at_,hat⟩:∃ a,atL key kv rows=a:=⟨_,rfl⟩
  obtain ⟨is_,his⟩:∃ a,isL key kv rows=a:=⟨_,rfl⟩
  rw [hat,his] at HP ⊢
  have hb45:=Below.trans hb4 (Below.mono hb5 hb4.size)
  refine hK.out _ _ hb45 ?_
  clear hK K
  repeat ((with_reducible refine pG ?_);(first|refine pT ?_|refine pF ?_);try go_frame)
  refine wpPerm_done ?_
  clear D
  have hbw5:=Below.trans hbw3.drew (Below.mono hb45 hbw3.size)
  have hbx:=Below.trans (Below.refl _ w3).drew hb45
  have B1:=B1.ext hbx
  have B2:=B2.ext hbx
  have B3:=B3.ext hbx
  have hatn:at_≤n':=by rw [←hat,←HRN.out];exact at_le _ _ _
  have hz5:=hbx.size
  have HAT:=Lib.hid hat
  have HIS:=Lib.hid his
  clear hat his hb4 hb5 hb45 hbw3 hbw4 hbx
  have hbw3:=hbw5
  clear hbw5
  cases is_ with
  | true =>
   have hpe:p=(7,rows):=by rw [←HP.out,if_pos rfl]
   subst hpe
   have q1:=five B1 (Below.refl _ _)
   have q3:=five B3 (Below.refl _ _)
   go_wp2_with fail
   clear q1 q3
   obtain ⟨W4,hW_,hb4,B4⟩:=al1 w5 151 #[.slice A' n' c']
   rw [←hW_]
   clear hW_
   have hbwC:=Below.trans hbw3 (Below.mono hb4 hbw3.size)
   have hzC:=hb4.size
   have B2:=B2.ext hb4
   have hsmC:=HSm.out
   obtain ⟨ps,hps⟩:=parts1 B4 (hR.ext hbwC)
   clear hb4
   refine (Hwith.out rows ps _ _ _ hbwC hps (by omega) hsmC).mono ?_
   rintro e5 w5 ⟨v,rfl,hT,hb5⟩
   have hT':=hT
   obtain ⟨A5,n5,c5,A6,n6,c6,rfl,_⟩:=hT
   simp only [tabA] at hT' ⊢
   have hbw5:=Below.trans hbwC (Below.mono hb5 hbwC.size)
   have B2:=B2.ext hb5
   have f0:=B2.frozen 0
   have f1:=B2.frozen 1
   have f2:=B2.frozen 2
   have f3:=B2.frozen 3
   have f4:=B2.frozen 4
   have q:=five B2 (Below.refl _ _)
   go_wp2
   clear f0 f1 f2 f3 f4 q
   obtain ⟨w6,hw6,B6,hlow6,hgr6⟩:=Blk.set5 B2 (.string nm) (.slice A5 n5 c5) (.int .i64 key) (.bool only) (.slice A6 n6 c6)
   rw [←hw6]
   clear hw6
   have q:=five B6 (Below.refl _ _)
   exact bodyPost_ret (v:=.tuple #[.agg #[.string nm,.slice A5 n5 c5,.int .i64 key,.bool only,.slice A6 n6 c6],.int .i64 7]) (by simp [results,Tryz.results44,go_sem,q];try rfl) rfl
    ⟨_,rfl,(hT'.grownL hgr6 (by omega)).base (by omega),Below.trans hbw5 (hlow6 _ (Nat.le_succ _))⟩
  | false =>
   rw [if_neg (by simp)] at HP
   by_cases hl:200≤rows.length
   ·have hpe:p=(4,rows):=by rw [←HP.out,if_pos hl]
    subst hpe
    have hd:decide (200≤(n':Int))=true:=by have:=HRN.out;simp;omega
    have q1:=five B1 (Below.refl _ _)
    have q3:=five B3 (Below.refl _ _)
    go_wp2_with fail
    clear q1 q3
    obtain ⟨W4,hW_,hb4,B4⟩:=al1 w5 151 #[.slice A' n' c']
    rw [←hW_]
    clear hW_
    have hbwC:=Below.trans hbw3 (Below.mono hb4 hbw3.size)
    have hzC:=hb4.size
    have B2:=B2.ext hb4
    have hsmC:=HSm.out
    obtain ⟨ps,hps⟩:=parts1 B4 (hR.ext hbwC)
    clear hb4
    refine (Hwith.out rows ps _ _ _ hbwC hps (by omega) hsmC).mono ?_
    rintro e5 w5 ⟨v,rfl,hT,hb5⟩
    have hT':=hT
    obtain ⟨A5,n5,c5,A6,n6,c6,rfl,_⟩:=hT
    simp only [tabA] at hT' ⊢
    have hbw5:=Below.trans hbwC (Below.mono hb5 hbwC.size)
    have B2:=B2.ext hb5
    have f0:=B2.frozen 0
    have f1:=B2.frozen 1
    have f2:=B2.frozen 2
    have f3:=B2.frozen 3
    have f4:=B2.frozen 4
    have q:=five B2 (Below.refl _ _)
    go_wp2
    clear f0 f1 f2 f3 f4 q
    obtain ⟨w6,hw6,B6,hlow6,hgr6⟩:=Blk.set5 B2 (.string nm) (.slice A5 n5 c5) (.int .i64 key) (.bool only) (.slice A6 n6 c6)
    rw [←hw6]
    clear hw6
    have q:=five B6 (Below.refl _ _)
    exact bodyPost_ret (v:=.tuple #[.agg #[.string nm,.slice A5 n5 c5,.int .i64 key,.bool only,.slice A6 n6 c6],.int .i64 4]) (by simp [results,Tryz.results44,go_sem,q];try rfl) rfl
     ⟨_,rfl,(hT'.grownL hgr6 (by omega)).base (by omega),Below.trans hbw5 (hlow6 _ (Nat.le_succ _))⟩
   ·rw [if_neg hl] at HP
    have hd:decide (200≤(n':Int))=false:=by have:=HRN.out;simp;omega
    have q1:=five B1 (Below.refl _ _)
    go_wp2_with fail
    clear q1 hd
    have hbw5:=hbw3.drew
    have B1:Blk w5.drew _ _ _:=B1
    have B2:Blk w5.drew _ _ _:=B2
    have B3:Blk w5.drew _ _ _:=B3
    have hz5:w3.heap.size≤w5.drew.heap.size:=hz5
    have hle:n'≤c':=by obtain ⟨_,h,_⟩:=hR;exact h.le_
    have hle:n'≤c':=by obtain ⟨_,h,_⟩:=hR;exact h.le_
    rcases hF with rfl|⟨bA,oA,rfl⟩
    ·obtain ⟨rfl,rfl,rfl⟩:n'=0∧c'=0∧rows=[]:=by
      obtain ⟨hs,R,H,hl⟩:=hR
      rcases R with h|⟨_,h,_⟩|⟨_,_,h,_⟩
      ·exact ⟨h.2.1,h.2.2.1,List.length_eq_zero_iff.1 (by omega)⟩
      ·cases h
      ·cases h
     obtain rfl:at_=0:=by omega
     refine wp_region_oneS (S:=fun w'=>(Blk w' w.heap.size 153 #[.string nm,.slice A n c,.int .i64 key,.bool only,.slice none 0 0]∧Blk w' W.heap.size 232 #[.string nm,.slice A n c,.int .i64 key,.bool only,.slice none 0 0])∧Below w.heap.size w w')
      [(0,true),(1,true),(2,true),(3,true),(4,true),(5,true),(6,true),(8,true),(9,true),(10,true),(11,true),(7,false),(12,false),(13,false),(14,false),(15,true)] (by kernel_rfl) (by kernel_rfl) (by kernel_rfl) (by decide) ⟨⟨B1,B3⟩,hbw5⟩ ?_
     have D:=fun w' (h:(Blk w' w.heap.size 153 #[.string nm,.slice A n c,.int .i64 key,.bool only,.slice none 0 0]∧Blk w' W.heap.size 232 #[.string nm,.slice A n c,.int .i64 key,.bool only,.slice none 0 0])∧Below w.heap.size w w')=>five h.1.1 (Below.refl _ _)
     have D3:=fun w' (h:(Blk w' w.heap.size 153 #[.string nm,.slice A n c,.int .i64 key,.bool only,.slice none 0 0]∧Blk w' W.heap.size 232 #[.string nm,.slice A n c,.int .i64 key,.bool only,.slice none 0 0])∧Below w.heap.size w w')=>five h.1.2 (Below.refl _ _)
     generalize w5.drew=wd at *
     repeat ((with_reducible refine pG ?_);(first|refine pT ?_|refine pF ?_);try go_frame)
     refine pD fun K hK=>?_;go_simp
     refine hK.out _ _ ⟨⟨B1.alloc _,B3.alloc _⟩,hbw5.alloc hbw5.size _⟩ ?_
     clear hK K
     refine pD fun K hK=>?_;go_simp
     refine hK.out _ _ ⟨⟨(B1.alloc _).alloc _,(B3.alloc _).alloc _⟩,(hbw5.alloc hbw5.size _).alloc (by have:=hbw5.size;simp;omega) _⟩ ?_
     clear hK K
     obtain ⟨W6,hW_,hb6,B5,B6⟩:=al2 wd 59 151 #[.slice Ar m cr] #[.slice none 0 0,.slice (some ⟨wd.heap.size,0,none⟩) 1 1,.slice none 0 0]
     rw [←hW_]
     clear hW_
     clear D D3
     have hbwC:=Below.trans hbw5 (Below.mono hb6 hbw5.size)
     have hzC:=hb6.size
     have B1:=B1.ext hb6
     have B3:=B3.ext hb6
     have B2:=B2.ext hb6
     have B5l:=B5.lt
     have hRr:Rs W6 0 (some ⟨wd.heap.size,0,none⟩) 1 1 [r]:=⟨[.slice Ar m cr],Row.of_blk B5 (Nat.zero_le _) 1 1 (Nat.le_refl _),Hs.one ⟨Ar,cr,by rw [hr.2],by rw [hr.2];exact (hr.ext hbwC).base (Nat.zero_le _)⟩,rfl⟩
     have hR1:Rs W6 0 none 0 0 (([]:List (List V)).take 0):=Rs.nil _ _
     have hR3:Rs W6 0 none 0 0 (([]:List (List V)).drop 0):=Rs.nil _ _
     obtain ⟨ps,hps⟩:=parts3 B6 hR1 hRr hR3
     refine pD fun K hK=>?_;go_simp
     refine (Hwith.out _ ps _ _ _ hbwC hps (by simp;try omega) ?_).mono ?_
     ·intro x hx
      rcases List.mem_append.1 hx with hx|hx
      ·exact HSm.out x (List.mem_of_mem_take hx)
      rcases List.mem_append.1 hx with hx|hx
      ·rw [List.mem_singleton] at hx
       rw [hx,hr.2];omega
      ·exact HSm.out x (List.mem_of_mem_drop hx)
     rintro e7 w7 ⟨v,rfl,hT,hb7⟩
     have hT':=hT
     obtain ⟨A5,n5,c5,A6,n6,c6,rfl,_⟩:=hT
     simp only [tabA] at hT' ⊢
     have hbw7:=Below.trans hbwC (Below.mono hb7 hbwC.size)
     have B2:=B2.ext hb7
     refine hK.out _ _ ⟨⟨B1.ext hb7,B3.ext hb7⟩,hbw7⟩ ?_
     clear hK K
     have f0:=B2.frozen 0
     have f1:=B2.frozen 1
     have f2:=B2.frozen 2
     have f3:=B2.frozen 3
     have f4:=B2.frozen 4
     have q:=five B2 (Below.refl _ _)
     refine pD fun K hK=>?_;go_simp
     clear f0 f1 f2 f3 f4 q
     obtain ⟨w8,hw8,B8,hlow8,hgr8⟩:=Blk.set5 B2 (.string nm) (.slice A5 n5 c5) (.int .i64 key) (.bool only) (.slice A6 n6 c6)
     rw [←hw8]
     clear hw8
     have hbw8:=Below.trans hbw7 (hlow8 _ (Nat.le_succ _))
     refine hK.out _ _ ⟨⟨(B1.ext hb7).grown hgr8 (by simp),(B3.ext hb7).grown hgr8 (by simp;omega)⟩,hbw8⟩ ?_
     clear hK K
     repeat ((with_reducible refine pG ?_);(first|refine pT ?_|refine pF ?_);try go_frame)
     refine wpPerm_done ?_
     have q:=five B8 (Below.refl _ _)
     go_wp2
     exact bodyPost_ret (v:=.tuple #[.agg #[.string nm,.slice A5 n5 c5,.int .i64 key,.bool only,.slice A6 n6 c6],.int .i64 0]) (by simp [results,Tryz.results44,go_sem,q];try rfl) rfl
      ⟨_,by rw [←HP.out],by rw [←HP.out];exact (hT'.grownL hgr8 (by omega)).base (by omega),hbw8⟩
    ·have hcut1:∀ w',Below w.heap.size w w'→Rs w' 0 (some ⟨bA,oA,none⟩) at_ at_ (rows.take at_):=fun w' hb=>by
      obtain ⟨hs,R,H,hl⟩:=hR.ext hb
      exact ⟨hs.take at_,(R.take at_ at_ at_ (Nat.le_refl _) hatn).base (Nat.zero_le _),(H.base (Nat.zero_le _)).take at_,by rw [List.length_take,hl];omega⟩
     have hcut3:∀ w',Below w.heap.size w w'→Rs w' 0 (some ⟨bA,oA+at_,none⟩) (n' - at_) (c' - at_) (rows.drop at_):=fun w' hb=>by
      obtain ⟨hs,R,H,hl⟩:=hR.ext hb
      exact ⟨hs.drop at_,(R.drop (n' - at_) (c' - at_) at_ (by omega) (by omega)).base (Nat.zero_le _),(H.base (Nat.zero_le _)).drop at_,by rw [List.length_drop,hl]⟩
     have hac:at_≤c':=by omega
     by_cases hca:c'=at_
     ·obtain rfl:n'=c':=by omega
      obtain rfl:n'=at_:=hca
      refine wp_region_oneS (S:=fun w'=>(Blk w' w.heap.size 153 #[.string nm,.slice A n c,.int .i64 key,.bool only,.slice (some ⟨bA,oA,none⟩) n' n']∧Blk w' W.heap.size 232 #[.string nm,.slice A n c,.int .i64 key,.bool only,.slice (some ⟨bA,oA,none⟩) n' n'])∧Below w.heap.size w w')
       [(0,true),(1,true),(2,true),(3,true),(4,true),(5,true),(6,true),(8,true),(9,true),(10,true),(11,true),(7,false),(12,false),(13,false),(14,false),(15,true)] (by kernel_rfl) (by kernel_rfl) (by kernel_rfl) (by decide) ⟨⟨B1,B3⟩,hbw5⟩ ?_
      have D:=fun w' (h:(Blk w' w.heap.size 153 #[.string nm,.slice A n c,.int .i64 key,.bool only,.slice (some ⟨bA,oA,none⟩) n' n']∧Blk w' W.heap.size 232 #[.string nm,.slice A n c,.int .i64 key,.bool only,.slice (some ⟨bA,oA,none⟩) n' n'])∧Below w.heap.size w w')=>five h.1.1 (Below.refl _ _)
      have D3:=fun w' (h:(Blk w' w.heap.size 153 #[.string nm,.slice A n c,.int .i64 key,.bool only,.slice (some ⟨bA,oA,none⟩) n' n']∧Blk w' W.heap.size 232 #[.string nm,.slice A n c,.int .i64 key,.bool only,.slice (some ⟨bA,oA,none⟩) n' n'])∧Below w.heap.size w w')=>five h.1.2 (Below.refl _ _)
      generalize w5.drew=wd at *
      repeat ((with_reducible refine pG ?_);(first|refine pT ?_|refine pF ?_);try go_frame)
      refine pD fun K hK=>?_;go_simp
      refine hK.out _ _ ⟨⟨B1.alloc _,B3.alloc _⟩,hbw5.alloc hbw5.size _⟩ ?_
      clear hK K
      refine pD fun K hK=>?_;go_simp
      refine hK.out _ _ ⟨⟨(B1.alloc _).alloc _,(B3.alloc _).alloc _⟩,(hbw5.alloc hbw5.size _).alloc (by have:=hbw5.size;simp;omega) _⟩ ?_
      clear hK K
      obtain ⟨W6,hW_,hb6,B5,B6⟩:=al2 wd 59 151 #[.slice Ar m cr] #[.slice (some ⟨bA,oA,none⟩) n' n',.slice (some ⟨wd.heap.size,0,none⟩) 1 1,.slice (some ⟨bA,oA,none⟩) 0 0]
      rw [←hW_]
      clear hW_
      clear D D3
      have hbwC:=Below.trans hbw5 (Below.mono hb6 hbw5.size)
      have hzC:=hb6.size
      have B1:=B1.ext hb6
      have B3:=B3.ext hb6
      have B2:=B2.ext hb6
      have B5l:=B5.lt
      have hRr:Rs W6 0 (some ⟨wd.heap.size,0,none⟩) 1 1 [r]:=⟨[.slice Ar m cr],Row.of_blk B5 (Nat.zero_le _) 1 1 (Nat.le_refl _),Hs.one ⟨Ar,cr,by rw [hr.2],by rw [hr.2];exact (hr.ext hbwC).base (Nat.zero_le _)⟩,rfl⟩
      have hR1:=hcut1 W6 hbwC
      have hR3:Rs W6 0 (some ⟨bA,oA,none⟩) 0 0 (rows.drop n'):=⟨[],Row.empty _ _ _ _,by rw [List.drop_eq_nil_of_le (by have:=HRN.out;omega)];exact Hs.nil _ _,by rw [List.drop_eq_nil_of_le (by have:=HRN.out;omega)];rfl⟩
      obtain ⟨ps,hps⟩:=parts3 B6 hR1 hRr hR3
      refine pD fun K hK=>?_;go_simp
      refine (Hwith.out _ ps _ _ _ hbwC hps (by simp;try omega) ?_).mono ?_
      ·intro x hx
       rcases List.mem_append.1 hx with hx|hx
       ·exact HSm.out x (List.mem_of_mem_take hx)
       rcases List.mem_append.1 hx with hx|hx
       ·rw [List.mem_singleton] at hx
        rw [hx,hr.2];omega
       ·exact HSm.out x (List.mem_of_mem_drop hx)
      rintro e7 w7 ⟨v,rfl,hT,hb7⟩
      have hT':=hT
      obtain ⟨A5,n5,c5,A6,n6,c6,rfl,_⟩:=hT
      simp only [tabA] at hT' ⊢
      have hbw7:=Below.trans hbwC (Below.mono hb7 hbwC.size)
      have B2:=B2.ext hb7
      refine hK.out _ _ ⟨⟨B1.ext hb7,B3.ext hb7⟩,hbw7⟩ ?_
      clear hK K
      have f0:=B2.frozen 0
      have f1:=B2.frozen 1
      have f2:=B2.frozen 2
      have f3:=B2.frozen 3
      have f4:=B2.frozen 4
      have q:=five B2 (Below.refl _ _)
      refine pD fun K hK=>?_;go_simp
      clear f0 f1 f2 f3 f4 q
      obtain ⟨w8,hw8,B8,hlow8,hgr8⟩:=Blk.set5 B2 (.string nm) (.slice A5 n5 c5) (.int .i64 key) (.bool only) (.slice A6 n6 c6)
      rw [←hw8]
      clear hw8
      have hbw8:=Below.trans hbw7 (hlow8 _ (Nat.le_succ _))
      refine hK.out _ _ ⟨⟨(B1.ext hb7).grown hgr8 (by simp),(B3.ext hb7).grown hgr8 (by simp;omega)⟩,hbw8⟩ ?_
      clear hK K
      repeat ((with_reducible refine pG ?_);(first|refine pT ?_|refine pF ?_);try go_frame)
      refine wpPerm_done ?_
      have q:=five B8 (Below.refl _ _)
      go_wp2
      exact bodyPost_ret (v:=.tuple #[.agg #[.string nm,.slice A5 n5 c5,.int .i64 key,.bool only,.slice A6 n6 c6],.int .i64 0]) (by simp [results,Tryz.results44,go_sem,q];try rfl) rfl
       ⟨_,by rw [←HP.out],by rw [←HP.out];exact (hT'.grownL hgr8 (by omega)).base (by omega),hbw8⟩
     ·have hca':¬at_=c':=fun e=>hca e.symm
      refine wp_region_oneS (S:=fun w'=>(Blk w' w.heap.size 153 #[.string nm,.slice A n c,.int .i64 key,.bool only,.slice (some ⟨bA,oA,none⟩) n' c']∧Blk w' W.heap.size 232 #[.string nm,.slice A n c,.int .i64 key,.bool only,.slice (some ⟨bA,oA,none⟩) n' c'])∧Below w.heap.size w w')
       [(0,true),(1,true),(2,true),(3,true),(4,true),(5,true),(6,true),(8,true),(9,true),(10,true),(11,true),(7,false),(12,false),(13,false),(14,false),(15,true)] (by kernel_rfl) (by kernel_rfl) (by kernel_rfl) (by decide) ⟨⟨B1,B3⟩,hbw5⟩ ?_
      have D:=fun w' (h:(Blk w' w.heap.size 153 #[.string nm,.slice A n c,.int .i64 key,.bool only,.slice (some ⟨bA,oA,none⟩) n' c']∧Blk w' W.heap.size 232 #[.string nm,.slice A n c,.int .i64 key,.bool only,.slice (some ⟨bA,oA,none⟩) n' c'])∧Below w.heap.size w w')=>five h.1.1 (Below.refl _ _)
      have D3:=fun w' (h:(Blk w' w.heap.size 153 #[.string nm,.slice A n c,.int .i64 key,.bool only,.slice (some ⟨bA,oA,none⟩) n' c']∧Blk w' W.heap.size 232 #[.string nm,.slice A n c,.int .i64 key,.bool only,.slice (some ⟨bA,oA,none⟩) n' c'])∧Below w.heap.size w w')=>five h.1.2 (Below.refl _ _)
      generalize w5.drew=wd at *
      repeat ((with_reducible refine pG ?_);(first|refine pT ?_|refine pF ?_);try go_frame)
      refine pD fun K hK=>?_;go_simp
      refine hK.out _ _ ⟨⟨B1.alloc _,B3.alloc _⟩,hbw5.alloc hbw5.size _⟩ ?_
      clear hK K
      refine pD fun K hK=>?_;go_simp
      refine hK.out _ _ ⟨⟨(B1.alloc _).alloc _,(B3.alloc _).alloc _⟩,(hbw5.alloc hbw5.size _).alloc (by have:=hbw5.size;simp;omega) _⟩ ?_
      clear hK K
      obtain ⟨W6,hW_,hb6,B5,B6⟩:=al2 wd 59 151 #[.slice Ar m cr] #[.slice (some ⟨bA,oA,none⟩) at_ at_,.slice (some ⟨wd.heap.size,0,none⟩) 1 1,.slice (some ⟨bA,oA+at_,none⟩) (n' - at_) (c' - at_)]
      rw [←hW_]
      clear hW_
      clear D D3
      have hbwC:=Below.trans hbw5 (Below.mono hb6 hbw5.size)
      have hzC:=hb6.size
      have B1:=B1.ext hb6
      have B3:=B3.ext hb6
      have B2:=B2.ext hb6
      have B5l:=B5.lt
      have hRr:Rs W6 0 (some ⟨wd.heap.size,0,none⟩) 1 1 [r]:=⟨[.slice Ar m cr],Row.of_blk B5 (Nat.zero_le _) 1 1 (Nat.le_refl _),Hs.one ⟨Ar,cr,by rw [hr.2],by rw [hr.2];exact (hr.ext hbwC).base (Nat.zero_le _)⟩,rfl⟩
      have hR1:=hcut1 W6 hbwC
      have hR3:=hcut3 W6 hbwC
      obtain ⟨ps,hps⟩:=parts3 B6 hR1 hRr hR3
      refine pD fun K hK=>?_;go_simp
      refine (Hwith.out _ ps _ _ _ hbwC hps (by simp;try omega) ?_).mono ?_
      ·intro x hx
       rcases List.mem_append.1 hx with hx|hx
       ·exact HSm.out x (List.mem_of_mem_take hx)
       rcases List.mem_append.1 hx with hx|hx
       ·rw [List.mem_singleton] at hx
        rw [hx,hr.2];omega
       ·exact HSm.out x (List.mem_of_mem_drop hx)
      rintro e7 w7 ⟨v,rfl,hT,hb7⟩
      have hT':=hT
      obtain ⟨A5,n5,c5,A6,n6,c6,rfl,_⟩:=hT
      simp only [tabA] at hT' ⊢
      have hbw7:=Below.trans hbwC (Below.mono hb7 hbwC.size)
      have B2:=B2.ext hb7
      refine hK.out _ _ ⟨⟨B1.ext hb7,B3.ext hb7⟩,hbw7⟩ ?_
      clear hK K
      have f0:=B2.frozen 0
      have f1:=B2.frozen 1
      have f2:=B2.frozen 2
      have f3:=B2.frozen 3
      have f4:=B2.frozen 4
      have q:=five B2 (Below.refl _ _)
      refine pD fun K hK=>?_;go_simp
      clear f0 f1 f2 f3 f4 q
      obtain ⟨w8,hw8,B8,hlow8,hgr8⟩:=Blk.set5 B2 (.string nm) (.slice A5 n5 c5) (.int .i64 key) (.bool only) (.slice A6 n6 c6)
      rw [←hw8]
      clear hw8
      have hbw8:=Below.trans hbw7 (hlow8 _ (Nat.le_succ _))
      refine hK.out _ _ ⟨⟨(B1.ext hb7).grown hgr8 (by simp),(B3.ext hb7).grown hgr8 (by simp;omega)⟩,hbw8⟩ ?_
      clear hK K
      repeat ((with_reducible refine pG ?_);(first|refine pT ?_|refine pF ?_);try go_frame)
      refine wpPerm_done ?_
      have q:=five B8 (Below.refl _ _)
      go_wp2
      exact bodyPost_ret (v:=.tuple #[.agg #[.string nm,.slice A5 n5 c5,.int .i64 key,.bool only,.slice A6 n6 c6],.int .i64 0]) (by simp [results,Tryz.results44,go_sem,q];try rfl) rfl
       ⟨_,by rw [←HP.out],by rw [←HP.out];exact (hT'.grownL hgr8 (by omega)).base (by omega),hbw8⟩
end Go.Proofs.YtgbcdkmjcokclaaGreat.tb
namespace Go.Proofs.YtgbcdkmjcokclaaGreat.tp
open Go.ChangeShapes Go.WideShapes Go.ChangeAt Go.RowKit Go.Proofs.YtgbcdkmjcokclaaGreat.lib
theorem sl_to {α β:Type} {E:Enc α} {enc:β→List Value} {f:β→α} (hE:∀ {w F cs a},E.rel w F cs (f a)→cs=enc a) {w:World} {F:Blocks} {A:Option Addr} {n c:Nat} {l:List β} (h:Sl E w F A n c (l.map f)):RowF w F A n c (flatK enc l)∧l.length=n:=by
 obtain ⟨css,h1,h2,h3⟩:=h
 have e:css=l.map enc:=by
  have hl:css.length=l.length:=by rw [h2.1,List.length_map]
  refine List.ext_getElem? fun i=>?_
  rw [List.getElem?_map]
  cases hx:l[i]? with
  | none =>
   rw [List.getElem?_eq_none_iff] at hx
   rw [List.getElem?_eq_none (by omega)]
   rfl
  | some y =>
   have hi:=(List.getElem?_eq_some_iff.1 hx).1
   have hc:css[i]? = some css[i]:=List.getElem?_eq_getElem (by omega)
   rw [hc,hE (h2.2 i css[i] (f y) hc (by rw [List.getElem?_map,hx];rfl))]
   rfl
 subst e
 exact ⟨by rw [show flatK enc l=(l.map enc).flatten from List.flatMap_def ..];exact h1,by simpa using h3⟩
theorem sl_of {α β:Type} {E:Enc α} {enc:β→List Value} {f:β→α} {w:World} {F:Blocks} (hE:∀ a,E.rel w F (enc a) (f a)) {A:Option Addr} {n c:Nat} {l:List β} (h:RowF w F A n c (flatK enc l)) (hl:l.length=n):Sl E w F A n c (l.map f):=by
 refine ⟨l.map enc,by rw [show (l.map enc).flatten=flatK enc l from (List.flatMap_def ..).symm];exact h,⟨by simp,fun i cs x h1 h2=>?_⟩,by simpa using hl⟩
 rw [List.getElem?_map] at h1 h2
 cases hx:l[i]? with
 | none=>rw [hx] at h1;cases h1
 | some y =>
  rw [hx] at h1 h2
  injection h1 with h1
  injection h2 with h2
  subst h1 h2
  exact hE y
def valTo (v:val.V):Val:=(v.k,v.n,v.s)
def colTo (x:tb.Col):ColD:=(x.name,x.kind,x.null)
def rowTo (r:List val.V):RowD:=r.map valTo
def tabTo (S:tb.Sch) (rows:List (List val.V)):Tab:=((S.name,S.cols.map colTo,(S.key:Int),S.only),rows.map rowTo)
theorem val_inv {w:World} {F:Blocks} {cs:List Value} {v:val.V} (h:eVal.rel w F cs (valTo v)):cs=tb.encV v:=by
 obtain ⟨_,_,e1,e2,_,_,e3,e4,e5⟩:=h
 rw [e1,e2,e3,e4,e5]
 rfl
theorem col_inv {w:World} {F:Blocks} {cs:List Value} {v:tb.Col} (h:eCol.rel w F cs (colTo v)):cs=tb.encC v:=by
 obtain ⟨_,_,e1,e2,_,_,e3,e4,e5⟩:=h
 rw [e1,e2,e3,e4,e5]
 rfl
theorem val_mk (w:World) (F:Blocks) (v:val.V):eVal.rel w F (tb.encV v) (valTo v):=⟨[_],_,rfl,rfl,[_],[_],rfl,rfl,rfl⟩
theorem col_mk (w:World) (F:Blocks) (v:tb.Col):eCol.rel w F (tb.encC v) (colTo v):=⟨[_],_,rfl,rfl,[_],[_],rfl,rfl,rfl⟩
section
variable {w:World} {F:Blocks} {A:Option Addr} {n c lo:Nat}
theorem vs_of {r:List val.V} (h:Sl eVal w F A n c (rowTo r)):tb.Vs w 0 A n c r:=by
 obtain ⟨h1,h2⟩:=sl_to (enc:=tb.encV) val_inv h
 exact ⟨h1.row,h2⟩
theorem of_vs {r:List val.V} (h:tb.Vs w lo A n c r) (hF:∀ b,lo≤b→F b):Sl eVal w F A n c (rowTo r):=sl_of (val_mk w F) (RowF.of_row h.1 (fun b hb _=>hF b hb)) h.2
theorem cs_of {l:List tb.Col} (h:Sl eCol w F A n c (l.map colTo)):tb.Cs w 0 A n c l:=by
 obtain ⟨h1,h2⟩:=sl_to (enc:=tb.encC) col_inv h
 exact ⟨h1.row,h2⟩
theorem of_cs {l:List tb.Col} (h:tb.Cs w lo A n c l) (hF:∀ b,lo≤b→F b):Sl eCol w F A n c (l.map colTo):=sl_of (col_mk w F) (RowF.of_row h.1 (fun b hb _=>hF b hb)) h.2
theorem rs_of {rows:List (List val.V)} (h:Sl eRow w F A n c (rows.map rowTo)):tb.Rs w 0 A n c rows:=by
 obtain ⟨css,h1,h2,h3⟩:=h
 refine ⟨css.flatten,h1.row,?_,by simpa using h3⟩
 have hk:=h2.klen
 have hl:css.flatten.length=rows.length:=by rw [h2.flen,List.length_map];exact Nat.mul_one _
 refine ⟨hl,fun i u r hu hr=>?_⟩
 have hi:=(List.getElem?_eq_some_iff.1 hr).1
 have hcl:css.length=rows.length:=by rw [h2.1,List.length_map]
 have hc:css[i]? = some css[i]:=List.getElem?_eq_getElem (by omega)
 obtain ⟨A',n',c',e,hS⟩:=h2.2 i css[i] (rowTo r) hc (by rw [List.getElem?_map,hr];rfl)
 have hf:=flat_at css hk i 0 css[i] (.slice A' n' c') hc (by rw [e];rfl)
 rw [show i * eRow.k+0=i from Nat.mul_one i] at hf
 rw [hf] at hu
 injection hu with hu
 subst hu
 have hv:=vs_of hS
 exact ⟨A',c',by rw [hv.2],by rw [hv.2];exact hv⟩
theorem of_rs {rows:List (List val.V)} (h:tb.Rs w lo A n c rows) (hF:∀ b,lo≤b→F b):Sl eRow w F A n c (rows.map rowTo):=by
 obtain ⟨hs,h1,h2,h3⟩:=h
 have hfl:(hs.map fun u=>[u]).flatten=hs:=by
  clear h1 h2
  induction hs with
  | nil=>rfl
  | cons y l ih=>rw [List.map_cons,List.flatten_cons,ih];rfl
 refine ⟨hs.map fun u=>[u],by rw [hfl];exact RowF.of_row h1 (fun b hb _=>hF b hb),⟨by rw [List.length_map,List.length_map];exact h2.1,fun i cs x e1 e2=>?_⟩,by simpa using h3⟩
 rw [List.getElem?_map] at e1 e2
 cases hx:rows[i]? with
 | none=>rw [hx] at e2;cases e2
 | some r =>
  obtain ⟨A',c',hu,hv⟩:=h2.at_ hx
  rw [hx] at e2
  rw [hu] at e1
  injection e1 with e1
  injection e2 with e2
  subst e1 e2
  exact ⟨A',_,c',rfl,of_vs hv hF⟩
end
def TabE (t:Tab) (er:Int) (w:World) (e:Ending) (w':World):Prop:=∃ cs:List Value,e=.returned (.tuple #[.agg cs.toArray,.int .i64 er])∧eTab.rel w' (fun b=>w.heap.size≤b) cs t∧Below w.heap.size w w'
theorem tput_ {w:World} {F G:Blocks} {cs:List Value} {S:tb.Sch} {rows:List (List val.V)} {r:List val.V} {A:Option Addr} {n c:Nat} (h:eTab.rel w F cs (tabTo S rows)) (hr:Sl eVal w G A n c (rowTo r)) (hs:tb.Small r) (hOk:tb.Ok S.cols S.key rows) (hn:S.cols.length≤100) (hrows:rows.length≤1000) (hm:n≤100000) :
  Calls Tryz.prog 44 #[.agg cs.toArray,.slice A n c] w (TabE (tabTo S (tb.putL S.cols S.key rows r).2) (tb.putL S.cols S.key rows r).1 w):=by
 obtain ⟨A1,n1,c1,A2,n2,c2,rfl,h1,h2,hf⟩:=eTab_invF h
 refine (tb.put_ S rows r 0 A1 n1 c1 A2 n2 c2 0 A n c w (cs_of h1) (rs_of h2) hf (vs_of hr) hs hOk hn hrows hm).mono ?_
 rintro e w' ⟨v,rfl,⟨A3,n3,c3,A4,n4,c4,rfl,k1,k2,k3⟩,hb⟩
 exact ⟨_,rfl,eTab_mk (x:=tabTo S (tb.putL S.cols S.key rows r).2) (of_cs k1 (fun b h=>h)) (of_rs k2 (fun b h=>h)) k3,hb⟩
theorem flat_set {K:Nat} (css:List (List Value)) (hk:∀ z∈css,z.length=K) (i:Nat) (cs:List Value) (hi:i<css.length) (hc:cs.length=K):(css.set i cs).flatten=laid css.flatten (i * K) cs:=by
 have e:css=css.take i++[css[i]]++css.drop (i+1):=by simp
 have hl:(css.take i).flatten.length=i * K:=by
  rw [flat_len _ (fun z hz=>hk z (List.mem_of_mem_take hz)),List.length_take,Nat.min_eq_left (Nat.le_of_lt hi)]
 have e2:css.flatten=(css.take i).flatten++css[i]++(css.drop (i+1)).flatten:=by
  have h:=congrArg List.flatten e
  rw [List.flatten_append,List.flatten_append,List.flatten_singleton] at h
  exact h
 rw [List.set_eq_take_append_cons_drop,if_pos hi,e2,←hl,laid_mid _ _ _ _ (by rw [hc,hk _ (List.getElem_mem hi)])]
 simp
theorem laid_app (a b:List Value) (o:Nat) (vs:List Value) (h:o+vs.length≤a.length):laid (a++b) o vs=laid a o vs++b:=by
 unfold laid
 rw [List.take_append_of_le_length (by omega),List.drop_append_of_le_length (by omega)]
 simp
theorem laid_set (l:List Value) (o j:Nat) (cs:List Value) (u:Value) (hj:j<cs.length) (ho:o+cs.length≤l.length) (h:(l.drop o).take cs.length=cs):laid l o (cs.set j u)=l.set (o+j) u:=by
 have e:l=l.take o++cs++l.drop (o+cs.length):=by
  conv=>lhs;rw [←List.take_append_drop o l]
  rw [List.append_assoc]
  congr 1
  conv=>lhs;rw [←List.take_append_drop cs.length (l.drop o)]
  rw [h,List.drop_drop]
 unfold laid
 rw [List.length_set]
 conv=>rhs;rw [e]
 have hl:(l.take o).length=o:=by rw [List.length_take];omega
 rw [List.append_assoc,List.append_assoc,List.set_append_right _ _ (by omega),hl,Nat.add_sub_cancel_left,List.set_append_left _ _ hj]
theorem own_laid {w w':World} {B K b n c i:Nat} {t:TypeId} {css:List (List Value)} {cs:List Value} (h:w.ownsRow B t K (.slice (some ⟨b,0,none⟩) n c) n css.flatten) (hk:∀ z∈css,z.length=K) (hl:css.length=n) (hi:i<n) (hc:cs.length=K)
  (hb:∀ cur:List Value,Blk w b t cur.toArray→cur.take (n * K)=css.flatten→n * K≤cur.length→Blk w' b t (laid cur (i * K) cs).toArray):w'.ownsRow B t K (.slice (some ⟨b,0,none⟩) n c) n (css.set i cs).flatten:=by
 rcases h.2 with ⟨z,_⟩|⟨g,cap,cur,z,h2,h3,h4,h5,h6,h7⟩
 ·cases z
 ·injection z with z z1 z2
  injection z with z
  injection z with z
  subst z
  have hfl:css.flatten.length=n * K:=by rw [flat_len _ hk,hl]
  have hbK:i * K+cs.length≤css.flatten.length:=by rw [hfl,hc,←Nat.succ_mul];exact Nat.mul_le_mul_right _ hi
  have hB:=hb cur.toList (by rw [Array.toArray_toList];exact h3) h7 (by rw [Array.length_toList,h6];exact Nat.mul_le_mul_right _ h4)
  have hsp:cur.toList=css.flatten++cur.toList.drop (n * K):=by
   conv=>lhs;rw [←List.take_append_drop (n * K) cur.toList]
   rw [h7]
  have hlen:(laid cur.toList (i * K) cs).length=cur.toList.length:=laid_len _ _ _ (by rw [hsp,List.length_append];omega)
  refine ⟨by rw [flat_len (k:=K) (css.set i cs) (fun z hz=>by
    rcases List.mem_or_eq_of_mem_set hz with hz|rfl
    ·exact hk z hz
    ·exact hc),List.length_set,hl],.inr ⟨b,cap,(laid cur.toList (i * K) cs).toArray,by rw [z2],h2,hB,h4,h5,by rw [List.size_toArray,hlen,Array.length_toList];exact h6,?_⟩⟩
  rw [flat_set css hk i cs (by omega) hc,List.toList_toArray]
  conv=>lhs;rw [hsp]
  rw [laid_app _ _ _ _ hbK,List.take_append_of_le_length (by rw [laid_len _ _ _ hbK];omega),List.take_of_length_le (by rw [laid_len _ _ _ hbK,hfl];exact Nat.le_refl _)]
theorem OwnE.laid_ {α:Type} {E:Enc α} {t:TypeId} {w w':World} {B b n c i:Nat} {F:Blocks} {xs:List α} {cs:List Value} {x:α} (h:OwnE E t w B F (some ⟨b,0,none⟩) n c xs) (hi:i<n) (hx:E.rel w' F cs x) (hk:Keep F w w') (hw:w'=w.setCells b (i * E.k) cs) :
  OwnE E t w' B F (some ⟨b,0,none⟩) n c (xs.set i x):=by
 obtain ⟨css,h1,h2,h3⟩:=h
 refine ⟨css.set i cs,own_laid h1 h2.klen (h2.1.trans h3) hi (E.len hx) (fun cur hB _ hl=>?_),(h2.keep hk).set_ hx,by rw [List.length_set];exact h3⟩
 have hs:i * E.k+cs.length≤cur.length:=by
  rw [E.len hx,←Nat.succ_mul]
  exact Nat.le_trans (Nat.mul_le_mul_right _ hi) hl
 rw [hw]
 exact (Blk.lay cs (i * E.k) hB hs).1
theorem OwnE.set1 {α:Type} {E:Enc α} {t:TypeId} {w w':World} {B b n c i j:Nat} {F:Blocks} {xs:List α} {x0 x:α} {u:Value} (h:OwnE E t w B F (some ⟨b,0,none⟩) n c xs) (hi:xs[i]? = some x0) (hj:j<E.k) (hx:∀ cs0,E.rel w' F cs0 x0→E.rel w' F (cs0.set j u) x) (hk:Keep F w w') (hw:w'=w.setCell ⟨b,i * E.k+j,none⟩ u) :
  OwnE E t w' B F (some ⟨b,0,none⟩) n c (xs.set i x):=by
 obtain ⟨css,h1,h2,h3⟩:=h
 have hin:i<n:=by rw [←h3];exact (List.getElem?_eq_some_iff.1 hi).1
 obtain ⟨cs0,hc0,hr0⟩:=h2.at_ hi
 have hcl:=E.len hr0
 refine ⟨css.set i (cs0.set j u),own_laid h1 h2.klen (h2.1.trans h3) hin (by rw [List.length_set];exact hcl) (fun cur hB ht hl=>?_),(h2.keep hk).set_ (hx cs0 (E.keep hr0 hk)),by rw [List.length_set];exact h3⟩
 have hs:i * E.k+cs0.length≤cur.length:=by
  rw [hcl,←Nat.succ_mul]
  exact Nat.le_trans (Nat.mul_le_mul_right _ hin) hl
 have hil:i<css.length:=(List.getElem?_eq_some_iff.1 hc0).1
 have he:(cur.drop (i * E.k)).take cs0.length=cs0:=by
  have e1:cur=css.flatten++cur.drop (n * E.k):=by
   conv=>lhs;rw [←List.take_append_drop (n * E.k) cur]
   rw [ht]
  have hfl:css.flatten.length=n * E.k:=by rw [h2.flen,h3]
  have hnk:i * E.k+E.k≤n * E.k:=by rw [←Nat.succ_mul];exact Nat.mul_le_mul_right _ hin
  rw [e1,List.drop_append_of_le_length (by rw [hfl];omega),flat_drop css i h2.klen,List.drop_eq_getElem_cons hil,List.flatten_cons,List.append_assoc]
  have hg:css[i]=cs0:=by
   have:=List.getElem?_eq_getElem hil
   rw [hc0] at this
   injection this with this
   exact this.symm
  rw [hg,List.take_append_of_le_length (Nat.le_refl _),List.take_length]
 rw [laid_set _ _ _ _ _ (by omega) hs he,hw]
 have:=hB.set_ (i * E.k+j) u
 rwa [List.setIfInBounds_toArray] at this
theorem OwnE.there {α:Type} {E:Enc α} {t:TypeId} {w:World} {B b n c i:Nat} {F:Blocks} {xs:List α} (h:OwnE E t w B F (some ⟨b,0,none⟩) n c xs) (hi:i<n):w.there b (i * E.k) E.k:=by
 obtain ⟨css,h1,h2,h3⟩:=h
 rcases h1.2 with ⟨z,_⟩|⟨g',cap,cur,z,_,hB,h4,_,h6,_⟩
 ·cases z
 ·injection z with z _ z2
  injection z with z
  injection z with z
  subst z
  exact Blk.there (cs:=cur.toList) (by rw [Array.toArray_toList];exact hB) (by rw [Array.length_toList,h6,←Nat.succ_mul];exact Nat.mul_le_mul_right _ (by omega))
theorem OwnE.blk {α:Type} {E:Enc α} {t:TypeId} {w:World} {B b n c:Nat} {F:Blocks} {xs:List α} (h:OwnE E t w B F (some ⟨b,0,none⟩) n c xs):∃ cur,Blk w b t cur:=by
 obtain ⟨css,h1,h2,h3⟩:=h
 rcases h1.2 with ⟨z,_⟩|⟨g',cap,cur,z,_,hB,_⟩
 ·cases z
 ·injection z with z _ _
  injection z with z
  injection z with z
  subst z
  exact ⟨cur,hB⟩
theorem OwnE.at_ {α:Type} {E:Enc α} {t:TypeId} {w:World} {B b n c i:Nat} {F:Blocks} {xs:List α} {x:α} (h:OwnE E t w B F (some ⟨b,0,none⟩) n c xs) (hi:xs[i]? = some x):∃ cs,E.rel w F cs x∧∀ (j:Nat) u,cs[j]? = some u→w.cell? ⟨b,i * E.k+j,none⟩=some u:=by
 obtain ⟨css,h1,h2,h3⟩:=h
 obtain ⟨cs,hc,hr⟩:=h2.at_ hi
 refine ⟨cs,hr,fun j u hu=>?_⟩
 have:=(Row.of_own h1).at_ (flat_at css h2.klen i j cs u hc hu)
 rwa [Nat.zero_add] at this
theorem wp_append_full {P:Program} {w:World} {o:Oper} {a:Act} {K:Act→World→Prop} {Q:Exit→Act→World→Prop} (dd:Tmp) (s x:Operand) (t:TypeId) (hd:o.dst=some dd)
  (hop:o.op=Op.call { callee:=Callee.builtin Builtin.append,args:=#[s,x],argTypes:=#[t,t] })
  (e:TypeId) (i:TypeInfo) (z:Value) (size bytes:Nat) (h1:P.underlying t=some (.slice e)) (h2:P.info? e=some i) (h3:i.zero=some z) (h4:i.size=size) (h5:i.bytes=bytes) (h6:z.cells.size=size) (h7:0<size)
  (ao:Option Addr) (n cap:Nat) (olds:List Value) (hs:a.eval s=.slice ao n cap) (hnone:ao=none→n=0∧cap=0) (hlo:olds.length=n * size) (holds:∀ b,ao=some b→∀ j u,olds[j]? = some u→w.cell? (b.add j)=some u)
  (ad:Addr) (m c:Nat) (news:List Value) (hx:a.eval x=.slice (some ad) m c) (hn:news.length=m * size) (hc:∀ j u,news[j]? = some u→w.cell? (ad.add j)=some u) (h1c:∀ u∈news,u.oneCell'=true)
  (hfull:cap<n+m) (b1:n+m≤maxLen) (b2:(n+m) * bytes≤140737488355328)
  (hK:∀ A c' w',w'.ownsRow w.heap.size e size (.slice A (n+m) c') (n+m) (olds++news)→w.grownBy w' none→K { a with tmps:=a.tmps.setIfInBounds dd (.slice A (n+m) c') } w'):o.wp P a w K Q:=by
 have hK:∀ v' w',w'.ownsRow w.heap.size e size v' (n+m) (olds++news)→w.grownBy w' none→K (a.put o.dst v') w':=fun v' w' r1 r2=>by
  obtain ⟨A,c',rfl⟩:=own_slice r1
  rw [hd]
  exact hK A c' w' r1 r2
 cases ao with
 | some b =>
  obtain ⟨v',w',hrun,r1,r2⟩:=run_append_arg_grows (P:=P) w t o.type e i z size bytes h1 h2 h3 h4 h5 h6 h7 b n cap olds hlo (holds b rfl) ad m c news hn hc hfull b1 b2
  unfold Oper.wp
  simp [execOp,hop,resolve,invoke,builtin,hs,hx,hrun,Result.andThen]
  exact hK v' w' r1 r2
 | none =>
  obtain ⟨rfl,rfl⟩:=hnone rfl
  have ho:olds=[]:=List.length_eq_zero_iff.1 (by rw [hlo,Nat.zero_mul])
  subst ho
  have hown:w.ownsRow w.heap.size e size (.slice none 0 0) 0 []:=⟨by simp,.inl ⟨rfl,rfl⟩⟩
  refine wp_append_own w s x t hop w.heap.size e i z size bytes h1 h2 h3 h4 h5 h6 h7 _ 0 [] hs hown ad m c news hx hn hc h1c b1 b2 (Nat.le_refl _) ?_
  intro v' w' ho' hg _
  exact hK v' w' ho' hg
theorem Sl.src {α:Type} {E:Enc α} {w:World} {F:Blocks} {A:Option Addr} {n c:Nat} {x:List α} (h:Sl E w F A n c x):∃ css,Els E w F css x∧css.flatten.length=n * E.k∧(A=none→n=0∧c=0)∧∀ b,A=some b→∀ j u,css.flatten[j]? = some u→w.cell? (b.add j)=some u:=by
 obtain ⟨css,h1,h2,h3⟩:=h
 refine ⟨css,h2,by rw [h2.flen,h3],fun e=>?_,fun b e j u hu=>?_⟩
 ·rcases h1 with q|⟨ad,q,_⟩|⟨b,off,q,_⟩
  ·exact ⟨q.2.1,q.2.2.1⟩
  ·rw [e] at q;cases q
  ·rw [e] at q;cases q
 ·subst e
  exact h1.row.src' j u hu
theorem results_row2_tmp {P:Program} {fn:Func} {p q u:Tmp} {ty ty2:TypeId} (h:fn.results=#[.cell p ty,.cell q ty2,.tmp u]) (tmps:Array Value) (w:World) (g g2:Nat) (t t2:TypeId) (cs cs2:Array Value) (fr fr2:Nat × Nat) (d d2:TypeDesc)
  (hp:tmps.getD p undef=.pointer (some ⟨g,0,none⟩)) (hg:w.heap[g]? = some (.cells cs t fr)) (hu:P.underlying ty=some d) (hd:(match d with | .struct _ | .array _ _=>true|_=>false)=true) (hi:(P.info? ty).map (·.size)=some cs.size)
  (hp2:tmps.getD q undef=.pointer (some ⟨g2,0,none⟩)) (hg2:w.heap[g2]? = some (.cells cs2 t2 fr2)) (hu2:P.underlying ty2=some d2) (hd2:(match d2 with | .struct _ | .array _ _=>true|_=>false)=true) (hi2:(P.info? ty2).map (·.size)=some cs2.size)
  {y:Value} (hy:tmps.getD u undef=y):(results fn tmps).run P w=.ok (.tuple #[.agg cs,.agg cs2,y]) w:=by
 subst hy
 have hp':tmps[p]?.getD undef=.pointer (some ⟨g,0,none⟩):=by simpa using hp
 have hp2':tmps[q]?.getD undef=.pointer (some ⟨g2,0,none⟩):=by simpa using hp2
 simp [results,h,hp',hp2',asAddr,run_loadVar_row w g t ty cs fr d hg hu hd hi,run_loadVar_row w g2 t2 ty2 cs2 fr2 d2 hg2 hu2 hd2 hi2]
theorem put1_ {w:World} {F G:Blocks} {cs:List Value} {S:tb.Sch} {rows:List (List val.V)} {r:List val.V} {A:Option Addr} {n c br:Nat} (h:eTab.rel w F cs (tabTo S rows)) (hbr:Blk w br 59 #[.slice A n c]) (hr:Sl eVal w G A n c (rowTo r)) (hs:tb.Small r) (hOk:tb.Ok S.cols S.key rows) (hn:S.cols.length≤100) (hrows:rows.length≤1000) (hm:n≤1000) :
  Calls Tryz.prog 43 #[.agg cs.toArray,.pointer (some ⟨br,0,none⟩)] w fun e w'=>∃ ct cc:List Value,e=.returned (.tuple #[.agg ct.toArray,.agg cc.toArray,.int .i64 (tb.putL S.cols S.key rows r).1])∧eTab.rel w' (fun b=>w.heap.size≤b) ct (tabTo S (tb.putL S.cols S.key rows r).2)∧eChg.rel w' (fun b=>w.heap.size≤b) cc (⟨#[]⟩,1,rowTo r)∧Below w.heap.size w w':=by
 have HT:=Lib.hid h
 obtain ⟨A1,n1,c1,A2,n2,c2,rfl,h1,h2⟩:=eTab_inv h
 obtain ⟨p,hp⟩:∃ p,tb.putL S.cols S.key rows r=p:=⟨_,rfl⟩
 obtain ⟨er,rows'⟩:=p
 have HP:=Lib.hid (fun (w':World) (hb:Below w.heap.size w w')=>tput_ (eTab.ext HT.out hb) (hr.ext hb) hs hOk hn hrows (by omega))
 have HP:=HP.out
 rw [hp] at HP ⊢
 have HP:=Lib.hid HP
 have HR:=Lib.hid hr
 have HBR:=Lib.hid hbr
 have HRL:=Lib.hid hr.len
 have hbrl:=hbr.lt
 simp only
 clear h h1 h2 hp hbr hr
 go_enter Tryz.func43,Tryz.ntmps43
 go_upto_region 1 with fail
 obtain ⟨W,hW_,hb1,B0,B1,B2⟩:=al3 w 153 153 155 #[.string (tabTo S rows).1.1,.slice A1 n1 c1,.int .i64 (tabTo S rows).1.2.2.1,.bool (tabTo S rows).1.2.2.2,.slice A2 n2 c2] #[.string ⟨#[]⟩,.slice none 0 0,.int .i64 0,.bool false,.slice none 0 0] #[.string ⟨#[]⟩,.int .i64 0,.slice none 0 0]
 rw [←hW_]
 clear hW_
 obtain ⟨g0,hg0⟩:∃ g,w.heap.size=g:=⟨_,rfl⟩
 obtain ⟨g1,hg1⟩:∃ g,w.heap.size+1=g:=⟨_,rfl⟩
 obtain ⟨g2,hg2⟩:∃ g,w.heap.size+1+1=g:=⟨_,rfl⟩
 have HGS:=Lib.hid (show w.heap.size≤g1∧w.heap.size≤g2∧g1<g2 by omega)
 rw [hg2] at B2 ⊢
 rw [hg1] at B1 ⊢
 rw [hg0] at B0 ⊢
 clear hg0 hg1 hg2
 have HBR1:=Lib.hid (HBR.out.ext hb1)
 have HGW:=Lib.hid (And.intro B1.lt B2.lt)
 have HB1:=Lib.hid (And.intro B1 B2)
 have HF1:=Lib.hid hb1
 have HPW:=Lib.hid (HP.out W hb1)
 have q0:=five B0 (Below.refl _ _)
 have qr:=HBR1.out.cell 0
 clear B0 B1 B2 hb1 HP HBR
 go_wp2_with fail
 refine HPW.out.mono ?_
 rintro e w1 ⟨ct,rfl,hrt,hb2⟩
 have HRT:=Lib.hid hrt
 obtain ⟨A3,n3,c3,A4,n4,c4,rfl,_,_⟩:=eTab_inv hrt
 have HBR2:=Lib.hid (HBR1.out.ext hb2)
 have HB2:=Lib.hid (And.intro (HB1.out.1.ext hb2) (HB1.out.2.ext hb2))
 have HF2:=Lib.hid (HF1.out.trans (Below.mono hb2 HF1.out.size))
 have hs1:=HF1.out.size
 have hs2:=hb2.size
 clear q0 qr hrt HPW HBR1 HB1 hb2 HF1 HT
 go_upto_region 2 with fail
 obtain ⟨W2,hW_,hb3,B6⟩:=al1 w1 153 #[.string (tabTo S rows').1.1,.slice A3 n3 c3,.int .i64 (tabTo S rows').1.2.2.1,.bool (tabTo S rows').1.2.2.2,.slice A4 n4 c4]
 rw [←hW_]
 clear hW_
 obtain ⟨g6,hg6⟩:∃ g,w1.heap.size=g:=⟨_,rfl⟩
 have hB2l:g2<w1.heap.size:=HB2.out.2.lt
 have HB2l_:=Lib.hid (show g1<W.heap.size∧g2<W.heap.size∧W.heap.size≤w1.heap.size from ⟨HGW.out.1,HGW.out.2,hs2⟩)
 have HG6:=Lib.hid (show g1<g6∧g2<g6 by have:=HGS.out;omega)
 rw [hg6] at B6 ⊢
 clear hg6 hB2l
 have HB3:=Lib.hid (And.intro (HB2.out.1.ext hb3) (HB2.out.2.ext hb3))
 have HBR3:=Lib.hid (HBR2.out.ext hb3)
 have HF3:=Lib.hid (HF2.out.trans (Below.mono hb3 HF2.out.size))
 have HRT3:=Lib.hid (eTab.ext HRT.out hb3)
 have hs3:=hb3.size
 have HSB:=Lib.hid (show ∀ w',Below W2.heap.size W2 w'→(Blk w' g6 153 #[.string (tabTo S rows').1.1,.slice A3 n3 c3,.int .i64 (tabTo S rows').1.2.2.1,.bool (tabTo S rows').1.2.2.2,.slice A4 n4 c4]∧Blk w' br 59 #[.slice A n c]) from fun w' q=>⟨B6.ext q,HBR3.out.ext q⟩)
 have HNE:=Lib.hid (show br≠g1∧br≠g2 from ⟨by have:=HGS.out;omega,by have:=HGS.out;omega⟩)
 clear B6 HB2 HBR2 HF2 HRT hb3
 have D:=fun w' (hS:Blk w' g6 153 #[.string (tabTo S rows').1.1,.slice A3 n3 c3,.int .i64 (tabTo S rows').1.2.2.1,.bool (tabTo S rows').1.2.2.2,.slice A4 n4 c4]∧Blk w' br 59 #[.slice A n c])=>And.intro (five hS.1 (Below.refl _ _)) (hS.2.cell 0)
 refine wp_region_oneS (S:=fun w'=>Blk w' g6 153 #[.string (tabTo S rows').1.1,.slice A3 n3 c3,.int .i64 (tabTo S rows').1.2.2.1,.bool (tabTo S rows').1.2.2.2,.slice A4 n4 c4]∧Blk w' br 59 #[.slice A n c]) [(0,true),(1,true),(4,true),(2,false),(3,true),(5,false),(6,false),(7,true)] (by kernel_rfl) (by kernel_rfl) (by kernel_rfl) (by decide) (HSB.out _ (Below.refl _ _).drew) ?_
 repeat ((with_reducible refine pG ?_);(first|refine pT ?_|refine pF ?_);try go_frame)
 have HOR:=Lib.hid (townRow_ (HR.out.ext HF3.out.drew) (show okRow (rowTo r) by unfold okRow;have:=HRL.out;omega))
 refine pD fun K hK=>?_;go_simp
 refine HOR.out.mono ?_
 rintro e w4 ⟨A5,c5,rfl,ho5,hb4⟩
 have hbw4:=Below.trans (Below.refl W2.heap.size W2).drew hb4
 refine hK.out _ _ (HSB.out _ hbw4) ?_
 clear hK K HOR
 repeat ((with_reducible refine pG ?_);(first|refine pT ?_|refine pF ?_);try go_frame)
 have HO5:=Lib.hid (ho5.sl (G:=fun b=>W2.heap.size≤b) (fun b h _=>h) (fun b h=>h.1))
 have HRT4:=Lib.hid (eTab.ext HRT3.out hbw4)
 have HB4:=Lib.hid (And.intro (HB3.out.1.ext hbw4) (HB3.out.2.ext hbw4))
 have HF4:=Lib.hid (HF3.out.trans (Below.mono hbw4 HF3.out.size))
 have HS4:=Lib.hid (HSB.out _ hbw4)
 have hs4:=hbw4.size
 clear hb4 hbw4 ho5 HB3 HF3 HRT3
 obtain ⟨cz,hcz⟩:∃ z,z=([.string (tabTo S rows').1.1,.slice A3 n3 c3,.int .i64 (tabTo S rows').1.2.2.1,.bool (tabTo S rows').1.2.2.2,.slice A4 n4 c4]:List Value):=⟨_,rfl⟩
 have hczl:cz.length=5:=by rw [hcz];rfl
 have honz:∀ u∈cz,u.oneCell'=true:=by rw [hcz];exact eTab.one HRT4.out
 have hszz:(Tryz.prog.info? 153).map (·.size)=some cz.length:=by rw [hczl];kernel_rfl
 have hth:=Blk.there (o:=0) (n:=5) HB4.out.1 (by simp)
 refine wpPerm_do rfl (wanted_free rfl) (fun K hK=>?_)
 refine wp_store_wide 153 (.tmp 3) (.tmp 14) rfl rfl g1 0 cz rfl (by rw [hcz];rfl) (by rw [hczl];exact hth) hszz honz ?_
 obtain ⟨B7,hg7⟩:=Blk.lay cz 0 HB4.out.1 (by rw [hczl];simp)
 rw [laid_all _ _ (by rw [hczl];rfl)] at B7
 have hk7:=Keep.grown (F:=fun b=>b≠g1) hg7 (fun g' h1 h2=>by injection h1 with h1;exact h2 h1.symm)
 have hS7:=And.intro (Blk.keep HS4.out.1 hk7 (by have:=HG6.out;omega)) (Blk.keep HS4.out.2 hk7 HNE.out.1)
 refine hK.out _ _ hS7 ?_
 clear hK K
 have B27:=Blk.keep HB4.out.2 hk7 (by have:=HGS.out;omega)
 have hbw7:=HF4.out.grown hg7 HF4.out.size (fun k hk=>by injection hk with hk;have:=HGS.out;omega)
 have HRT7:=Lib.hid (eTab.keep (eTab.mono HRT4.out (G:=fun b=>W.heap.size≤b) (fun b h=>h)) (hk7.mono (fun b h=>by have:=HB2l_.out;omega)))
 have HO7:=Lib.hid (HO5.out.keep (hk7.mono (fun b h=>by have:=HB2l_.out;omega)))
 generalize w4.setCells g1 0 cz=w7 at *
 obtain ⟨cc,hcc⟩:∃ z,z=([.string ⟨#[]⟩,.int .i64 1,.slice A5 (rowTo r).length c5]:List Value):=⟨_,rfl⟩
 have hccl:cc.length=3:=by rw [hcc];rfl
 have honc:∀ u∈cc,u.oneCell'=true:=by rw [hcc];exact eChg.one (eChg_mk (x:=(⟨#[]⟩,1,rowTo r)) HO7.out)
 have hszc:(Tryz.prog.info? 155).map (·.size)=some cc.length:=by rw [hccl];kernel_rfl
 have hth2:=Blk.there (o:=0) (n:=3) B27 (by simp)
 refine wpPerm_do rfl (wanted_free rfl) (fun K hK=>?_)
 refine wp_store_wide 155 (.tmp 4) (.tmp 17) rfl rfl g2 0 cc rfl (by rw [hcc];rfl) (by rw [hccl];exact hth2) hszc honc ?_
 obtain ⟨B8,hg8⟩:=Blk.lay cc 0 B27 (by rw [hccl];simp)
 rw [laid_all _ _ (by rw [hccl];rfl)] at B8
 have hk8:=Keep.grown (F:=fun b=>b≠g2) hg8 (fun g' h1 h2=>by injection h1 with h1;exact h2 h1.symm)
 refine hK.out _ _ ⟨Blk.keep hS7.1 hk8 (by have:=HG6.out;omega),Blk.keep hS7.2 hk8 HNE.out.2⟩ ?_
 clear hK K
 have B18:=Blk.keep B7 hk8 (by have:=HGS.out;omega)
 have hbw8:=hbw7.grown hg8 hbw7.size (fun k hk=>by injection hk with hk;have:=HGS.out;omega)
 have HRT8:=Lib.hid (eTab.keep HRT7.out (hk8.mono (fun b h=>by have:=HB2l_.out;omega)))
 have HO8:=Lib.hid (HO7.out.keep (hk8.mono (fun b h=>by have:=HB2l_.out;omega)))
 generalize w7.setCells g2 0 cc=w8 at *
 clear hS7 hk7 hk8 hg7 hg8 HS4 HB4 hth hth2 B27 B7 HRT7 HRT4 HO7 HO5 HF4 hbw7 D HSB HBR3
 repeat ((with_reducible refine pG ?_);(first|refine pT ?_|refine pF ?_);try go_frame)
 refine wpPerm_done ?_
 go_wp2
 refine bodyPost_ret (v:=.tuple #[.agg cz.toArray,.agg cc.toArray,.int .i64 er]) (results_row2_tmp rfl _ _ g1 g2 _ _ _ _ (0,0) (0,0) _ _ rfl B18 Tryz.underlying153 rfl (by rw [List.size_toArray];exact hszz) rfl B8 Tryz.underlying155 rfl (by rw [List.size_toArray];exact hszc) rfl) rfl ⟨cz,cc,rfl,?_,?_,hbw8⟩
 ·rw [hcz]
  exact eTab.mono HRT8.out (fun b h=>Nat.le_trans hs1 h)
 ·rw [hcc]
  exact eChg_mk (x:=(⟨#[]⟩,1,rowTo r)) (HO8.out.mono (fun b h=>by omega))
end Go.Proofs.YtgbcdkmjcokclaaGreat.tp
