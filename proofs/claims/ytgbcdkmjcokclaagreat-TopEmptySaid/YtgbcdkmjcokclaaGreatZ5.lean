/- Laws of its own that the claim's proof needs; no condition beyond those that each states. -/
import Derived.Test.YtgbcdkmjcokclaaGreatZ4
import Derived.Tactics
import Derived.Tactics2
import Derived.Defers
import Derived.Laws.Pointers
import Derived.Laws.LoneSync
import Derived.RegionTactic
import Derived.RegionCalls
import Derived.ChangeAlike
import Derived.OwnWalk
import Derived.Test.YtgbcdkmjcokclaaGreatZ1
import Derived.Lib.Bytealg
import Derived.Laws.RangeAny
import Derived.Laws.RangeString
import Derived.LoopTactic
import Derived.Laws.AppendOwn
import Derived.Deep.AppendLies
import Derived.Maps.AppendAt
import Derived.Laws.BytesString
import Derived.Laws.Cells
import Derived.Lib.SliceRun
import Derived.WalkSpells
import Derived.MapKept
import Derived.Maps.OwnOps
import Derived.Deep.CutRange
import Derived.Deep.CutBlock
import Derived.Lib.MinMax
import Derived.Laws.Rows
import Derived.Lib.AppendZeros
import Derived.Laws.AppendOwnNone
set_option linter.unusedVariables false
set_option maxRecDepth 1000000
set_option maxHeartbeats 16000000
namespace Go.Proofs.YtgbcdkmjcokclaaGreat.pg
open Go.Proofs.YtgbcdkmjcokclaaGreat.lx
structure Nd where
 op:Int
 a:Int
 b:Int
 k:Int
 n:Int
 s:List UInt8
 nm:List UInt8
structure Pp where
 at_:Nat
 err:Int
structure Bs where
 p:Pp
 e:List Nd
def wAt (W:List Wd) (p:Pp):Wd:=(W[p.at_]?).getD endW
def cur (W:List Wd) (p:Pp):Wd:=if p.err=0 then wAt W p else endW
def failP (x:Int) (p:Pp):Pp:=if p.err=0 then ⟨p.at_,x⟩ else p
def stepP (p:Pp):Pp:=⟨p.at_+1,p.err⟩
def okIs (W:List Wd) (s:List UInt8) (p:Pp):Bool:=(decide ((cur W p).k=1) || decide ((cur W p).k=4)) && ((cur W p).s == s)
def mustP (W:List Wd) (s:List UInt8) (p:Pp):Pp:=if okIs W s p=true then stepP p else failP 6 p
def reserved:List (List UInt8):=[[97,110,100],[98,101,103,105,110],[98,111,111,108],[98,121],[99,111,109,109,105,116],[99,111,117,110,116],[99,114,101,97,116,101],[100,101,108,101,116,101],[100,101,115,99],[100,114,111,112],[102,97,108,115,101],[102,114,111,109],[103,114,111,117,112],[105,110,115,101,114,116],[105,110,116],[105,110,116,111],[105,115],[106,111,105,110],[107,101,121],[108,105,109,105,116],[109,97,120],[109,105,110],[110,111,116],[110,117,108,108],[111,110],[111,110,108,121],[111,114],[111,114,100,101,114],[112,114,105,109,97,114,121],[114,111,108,108,98,97,99,107],[115,97,118,101,112,111,105,110,116],[115,101,108,101,99,116],[115,101,116],[115,117,109],[116,97,98,108,101],[116,101,120,116],[116,111],[116,114,117,101],[117,112,100,97,116,101],[118,97,108,117,101,115],[119,104,101,114,101]]
def nameOk (s:List UInt8):Bool:=decide (1≤s.length) && (decide (s.length≤12) && (letB (s.headD 0) && (s.all nameB && !(reserved.contains s))))
def nameIs (W:List Wd) (p:Pp):Bool:=decide ((cur W p).k=1) && nameOk (cur W p).s
def nameP (W:List Wd) (p:Pp):List UInt8 × Pp:=if nameIs W p=true then ((cur W p).s,stepP p) else ([],failP 6 p)
def colP (W:List Wd) (p:Pp):List UInt8 × Pp:=match nameP W p with
 | (s,q)=>if okIs W [46] q=true then (match nameP W (stepP q) with|(t,r)=>(s++([46]++t),r)) else (s,q)
def putP (n:Nd) (b:Bs):Int × Bs:=if 60≤b.e.length then (0,⟨failP 4 b.p,b.e⟩) else ((b.e.length:Int),⟨b.p,b.e++[n]⟩)
def nd2 (op a b:Int):Nd:=⟨op,a,b,0,0,[],[]⟩
def ndV (k n:Int) (s:List UInt8):Nd:=⟨1,0,0,k,n,s,[]⟩
def ndC (s:List UInt8):Nd:=⟨2,0,0,0,0,[],s⟩
abbrev Sub:=Bs→Int × Bs
abbrev Ops:=List (List UInt8 × Int)
def opAt (W:List Wd) (ops:Ops) (p:Pp):Option Int :=
 if (cur W p).k=1∨(cur W p).k=4 then (ops.find? (fun x=>x.1 == (cur W p).s)).map (·.2) else none
def opS (W:List Wd) (ops:Ops) (p:Pp):Option Int :=
 if (cur W p).k=4 then (ops.find? (fun x=>x.1 == (cur W p).s)).map (·.2) else none
def stepB (b:Bs):Bs:=⟨stepP b.p,b.e⟩
def pairP (sub:Sub) (op a:Int) (b:Bs):Int × Bs:=match sub (stepB b) with
 | (c,q)=>putP (nd2 op a c) q
def loopP (W:List Wd) (sub:Sub) (ops:Ops):Nat→Int→Bs→Int × Bs
 | 0,a,b=>(a,b)
 | n+1,a,b=>match opAt W ops b.p with
  | some op=>(match pairP sub op a b with|(a',b')=>loopP W sub ops n a' b')
  | none=>(a,b)
def pairsP (W:List Wd) (sub:Sub) (ops:Ops) (b:Bs):Int × Bs:=match sub b with
 | (a,q)=>loopP W sub ops W.length a q
def cmps:Ops:=[([61],8),([60,62],9),([60],10),([60,61],11),([62],12),([62,61],13)]
def cmpP (W:List Wd) (sub:Sub) (b:Bs):Int × Bs:=match sub b with
 | (a,q)=>if okIs W [105,115] q.p=true then putP (nd2 5 a 0) ⟨mustP W [110,117,108,108] (stepP q.p),q.e⟩
  else match opS W cmps q.p with
  | some op=>pairP sub op a q
  | none=>(a,q)
def preP (W:List Wd) (s:List UInt8) (op:Int) (sub nxt:Sub) (b:Bs):Int × Bs :=
 if okIs W s b.p=true then (match sub (stepB b) with|(a,q)=>putP (nd2 op a 0) q) else nxt b
def consts (s:List UInt8):Option Nd :=
 if s=[116,114,117,101] then some (ndV 1 1 []) else if s=[102,97,108,115,101] then some (ndV 1 0 []) else if s=[110,117,108,108] then some (ndV 0 0 []) else none
def constAt (W:List Wd) (p:Pp):Option Nd:=if (cur W p).k=1 then consts (cur W p).s else none
def oneP (W:List Wd) (sub:Sub) (b:Bs):Int × Bs :=
 if (cur W b.p).k=2 then putP (ndV 2 (cur W b.p).n []) (stepB b)
 else if (cur W b.p).k=3 then putP (ndV 3 0 (cur W b.p).s) (stepB b)
 else match constAt W b.p with
 | some n=>putP n (stepB b)
 | none=>if okIs W [40] b.p=true then (match sub (stepB b) with|(a,q)=>(a,⟨mustP W [41] q.p,q.e⟩))
  else match colP W b.p with
  | (s,q)=>if q.err=0 then putP (ndC s) ⟨q,b.e⟩ else (0,⟨q,b.e⟩)
def pr (W:List Wd):Nat→Nat→Sub
 | 0,_=>fun b=>(0,b)
 | f+1,0=>pairsP W (pr W f 1) [([111,114],6)]
 | f+1,1=>pairsP W (pr W f 2) [([97,110,100],7)]
 | f+1,2=>preP W [110,111,116] 3 (pr W f 2) (pr W f 3)
 | f+1,3=>cmpP W (pr W f 4)
 | f+1,4=>pairsP W (pr W f 5) [([43],14),([45],15)]
 | f+1,5=>pairsP W (pr W f 6) [([42],16)]
 | f+1,6=>preP W [45] 4 (pr W f 6) (pr W f 7)
 | f+1,_+7=>oneP W (pr W f 0)
structure On (W:List Wd) (p q:Pp):Prop where
 le:p.at_≤q.at_
 lt:q.at_<W.length
theorem On.trans {W:List Wd} {p q r:Pp} (h:On W p q) (k:On W q r):On W p r:=⟨Nat.le_trans h.le k.le,k.lt⟩
theorem On.refl {W:List Wd} {p:Pp} (h:p.at_<W.length):On W p p:=⟨Nat.le_refl _,h⟩
end Go.Proofs.YtgbcdkmjcokclaaGreat.pg
namespace Go.Proofs.YtgbcdkmjcokclaaGreat.lx
open Go.ChangeShapes Go.WideShapes Go.ChangeAt Go.RowKit Go.Proofs.YtgbcdkmjcokclaaGreat.lib
theorem disable (w:World):(callFunc 223 #[]).run Tryz.prog w=.ok (.value (.tuple #[])) w:=run_call_mark0 Tryz.func223 (by kernel_rfl) (by kernel_rfl) (by kernel_rfl) .disable (by kernel_rfl) w
theorem enable (w:World):(callFunc 225 #[]).run Tryz.prog w=.ok (.value (.tuple #[])) w:=run_call_mark0 Tryz.func225 (by kernel_rfl) (by kernel_rfl) (by kernel_rfl) .enable (by kernel_rfl) w
theorem acquire (a:Addr) (w:World):(callFunc 226 #[.pointer (some a)]).run Tryz.prog w=.ok (.value (.tuple #[])) w:=run_call_marked Tryz.func226 (by kernel_rfl) (by kernel_rfl) (by kernel_rfl) .acquire (by kernel_rfl) a w
theorem releaseMerge (a:Addr) (w:World):(callFunc 228 #[.pointer (some a)]).run Tryz.prog w=.ok (.value (.tuple #[])) w:=run_call_marked Tryz.func228 (by kernel_rfl) (by kernel_rfl) (by kernel_rfl) .releaseMerge (by kernel_rfl) a w
theorem store_deferred (a:Addr) (x:Value) (u:FrameMode) (w:World) (hc:w.cell? a=some x) (hz:w.frozen? a=false) :
  CallsD Tryz.prog 155 #[.pointer (some a),.bool true] u w fun e u' w'=>u'=u∧(e=.returned (.tuple #[])∧w'=w.drew.setCell a (.int .u32 1)):=by
 have hc':w.drew.cell? a=some x:=by go_simp
 have hz':w.drew.frozen? a=false:=by go_simp
 have hst:=run_call_store (P:=Tryz.prog) Tryz.func197 (by kernel_rfl) (by kernel_rfl) (by kernel_rfl) (by kernel_rfl) (k:=.u32) (y:=1) hc' hz'
 go_enter_d Tryz.func155,Tryz.ntmps155
 go_wp2
 go_region_calls
 all_goals (go_end0;exact ⟨rfl,rfl⟩)
theorem unlock_deferred (a:Addr) (u:FrameMode) (w:World) (hc:w.cell? a=some (.int .i32 1)) (hz:w.frozen? a=false) :
  CallsD Tryz.prog 154 #[.pointer (some a)] u w fun e u' w'=>u'=u∧(e=.returned (.tuple #[])∧w'=w.setCell a (.int .i32 0)):=by
 have hd:=disable
 have he:=enable
 have hr:=releaseMerge
 have hadd:=run_call_add (P:=Tryz.prog) Tryz.func229 (by kernel_rfl) (by kernel_rfl) (by kernel_rfl) .i32 (by kernel_rfl) (y:=-1) (s:=0) hc hz (by simp [go_sem];rfl)
 have hcv:=run_convert_to_unsafe (P:=Tryz.prog) (src:=352) (dst:=93) Tryz.underlying352 Tryz.underlying93 (by kernel_rfl) hc
 go_enter_d Tryz.func154,Tryz.ntmps154
 go_wp2
 go_end0
 go_wp2
 go_end0
 exact ⟨rfl,rfl⟩
theorem lock_free (a:Addr) (w:World) (hc:w.cell? a=some (.int .i32 0)) (hz:w.frozen? a=false) :
  Calls Tryz.prog 153 #[.pointer (some a)] w fun e w'=>e=.returned (.tuple #[])∧w'=w.setCell a (.int .i32 1):=by
 have hd:=disable
 have he:=enable
 have ha:=acquire
 have hcas:=run_call_cas_hit (P:=Tryz.prog) Tryz.func224 (by kernel_rfl) (by kernel_rfl) (by kernel_rfl) .i32 (by kernel_rfl) (y:=1) hc hz
 have hc':(w.setCell a (.int .i32 1)).cell? a=some (.int .i32 1):=World.cell?_setCell_same w a _ hc
 have hcv:=run_convert_to_unsafe (P:=Tryz.prog) (src:=352) (dst:=93) Tryz.underlying352 Tryz.underlying93 (by kernel_rfl) hc'
 go_enter Tryz.func153,Tryz.ntmps153
 go_wp2
 first|go_end0|(simp only [Exit.inBlock,Exit.then];refine bodyPost_ret (results_none rfl _ _ _) rfl ?_)|refine bodyPost_ret (results_none rfl _ _ _) rfl ?_
 go_wp2
 go_end0
 exact ⟨rfl,rfl⟩
end Go.Proofs.YtgbcdkmjcokclaaGreat.lx
namespace Go.Proofs.YtgbcdkmjcokclaaGreat.lib
open Go.ChangeShapes Go.WideShapes Go.ChangeAt Go.RowKit
inductive Tr
 | nil
 | take (i:Nat) (r:Tr)
 | one (i:Nat) (r:Tr)
 | two (i j:Nat) (ri rj:Tr)
def Tr.depth:Tr→Nat
 | .nil=>0
 | .take _ r=>r.depth+1
 | .one _ r=>r.depth+1
 | .two _ _ ri rj=>max ri.depth rj.depth+1
section
variable {P:Program} {ops:Array Oper} {Q:Exit→Act→World→Prop} {md:Region.Mode} {S:World→Prop}
end
end Go.Proofs.YtgbcdkmjcokclaaGreat.lib
namespace Go.Proofs.YtgbcdkmjcokclaaGreat.lx
open Go.ChangeShapes Go.WideShapes Go.ChangeAt Go.RowKit Go.Proofs.YtgbcdkmjcokclaaGreat.lib
theorem own_ne {w:World} {base size n g:Nat} {e t:TypeId} {v:Value} {xs:List Value} {cs:Array Value} (h:w.ownsRow base e size v n xs) (hb:Blk w g t cs) (hne:e≠t):some g≠v.ownBlock:=by
 intro hg
 rcases h.2 with ⟨rfl,_⟩|⟨g',cap,cur,rfl,_,hh,_⟩
 ·cases hg
 ·have:g=g':=by simpa [Value.ownBlock] using hg
  subst this
  unfold Blk at hb
  rw [hb] at hh
  injection hh with hh
  injection hh with _ h2 _
  exact hne h2.symm
theorem six {w:World} {g:Nat} {t:TypeId} {x0 x1 x2 x3 x4 x5:Value} (h:Blk w g t #[x0,x1,x2,x3,x4,x5]) {w':World} (hb:Below w.heap.size w w') :
  w'.cell? ⟨g,0,none⟩=some x0∧w'.cell? ⟨g,1,none⟩=some x1∧w'.cell? ⟨g,2,none⟩=some x2∧w'.cell? ⟨g,3,none⟩=some x3∧w'.cell? ⟨g,4,none⟩=some x4∧w'.cell? ⟨g,5,none⟩=some x5 :=
 ⟨(h.ext hb).cell 0,(h.ext hb).cell 1,(h.ext hb).cell 2,(h.ext hb).cell 3,(h.ext hb).cell 4,(h.ext hb).cell 5⟩
theorem size_mk (l:List UInt8):(ByteArray.mk l.toArray).size=l.length:=by simp [ByteArray.size]
def cellsW (ws:List Wd):List Value:=ws.flatMap fun x=>[.int .i64 x.k,.int .i64 x.n,.string ⟨x.s.toArray⟩]
theorem own_ext {w w':World} {base:Nat} {e:TypeId} {size n:Nat} {v:Value} {xs:List Value} (h:w.ownsRow base e size v n xs) (hb:Below w.heap.size w w'):w'.ownsRow base e size v n xs:=by
 refine h.kept (w':=w') (row:=none) ⟨hb.os,hb.tape,hb.output,hb.size,fun k hk _=>hb.block k hk⟩ ?_
 cases ho:v.ownBlock with
 | none=>exact .inl rfl
 | some b=>exact .inr (by simp)
theorem own_far {w:World} {base:Nat} {e t:TypeId} {size n g:Nat} {v:Value} {xs:List Value} {cs:Array Value} (h:w.ownsRow base e size v n xs) (hb:Blk w g t cs) (hne:e≠t) (i:Nat) (u:Value):(w.setCell ⟨g,i,none⟩ u).ownsRow base e size v n xs:=by
 have h1:=own_ne h hb hne
 refine h.kept (row:=some g) ⟨by simp [World.setCell],by simp [World.setCell],by simp [World.setCell],by simp [World.setCell],fun k hk hkg=>Below.heap_setCell w _ u k (fun e=>hkg (by rw [e]))⟩ (.inr (Ne.symm h1))
theorem three_at {w:World} {g:Nat} {t:TypeId} {x y z:Value} (h:Blk w g t #[x,y,z]):∀ j u,[x,y,z][j]? = some u→w.cell? ((⟨g,0,none⟩:Addr).add j)=some u:=by
 intro j u hj
 have hj3:j<3:=(List.getElem?_eq_some_iff.1 hj).1
 have e:(⟨g,0,none⟩:Addr).add j=⟨g,j,none⟩:=by unfold Addr.add;split <;> simp_all
 rw [e,h.cell]
 match j,hj3,hj with
 | 0,_,hj=>exact hj
 | 1,_,hj=>exact hj
 | 2,_,hj=>exact hj
theorem beqBA (a b:ByteArray):(a == b)=true↔a=b:=by
 constructor
 ·intro h
  apply ByteArray.ext
  exact eq_of_beq (α:=Array UInt8) h
 ·rintro rfl
  exact beq_self_eq_true a.data
theorem tl_beq (a b:ByteArray):(a.toList == b.toList)=(a == b):=by
 rw [Bool.eq_iff_iff,beqBA,beq_iff_eq,ByteArray.toList_eq,ByteArray.toList_eq]
 exact ⟨fun h=>bytes_inj h,fun h=>by rw [h]⟩
def hasB (xs:List ByteArray) (s:ByteArray):Bool:=xs.any (fun x=>s == x)
theorem fold_push:∀ (l:List UInt8) (s:ByteArray),(l.map fun c=>(c.toNat:Int)).foldl (fun r n=>r.push (UInt8.ofNat n.toNat)) s=⟨(s.data.toList++l).toArray⟩
 | [],s=>by simp
 | c::l,s=>by
  simp only [List.map_cons,List.foldl_cons]
  rw [fold_push l]
  apply ByteArray.ext
  simp
theorem own_slice {w:World} {base size n:Nat} {e:TypeId} {v:Value} {xs:List Value} (h:w.ownsRow base e size v n xs):∃ A c,v=.slice A n c:=by
 rcases h.2 with ⟨rfl,rfl⟩|⟨g,cap,cur,rfl,_⟩
 ·exact ⟨_,_,rfl⟩
 ·exact ⟨_,_,rfl⟩
def fin (q:Int × List Wd):Int × List Wd:=if q.1=0 then (0,q.2++[endW]) else (q.1,[])
theorem one_cells (ws:List Wd):∀ u∈cellsW ws,u.oneCell'=true:=by
 intro u hu
 unfold cellsW at hu
 rw [List.mem_flatMap] at hu
 obtain ⟨x,_,hx⟩:=hu
 simp at hx
 rcases hx with rfl|rfl|rfl <;> rfl
def Wds (w:World) (g:Nat) (ws:List Wd):Prop:=g<w.heap.size∧∀ (j:Nat) u,(cellsW ws)[j]? = some u→w.cell? ⟨g,j,none⟩=some u
theorem Wds.ext {w w':World} {g:Nat} {ws:List Wd} (h:Wds w g ws) (hb:Below w.heap.size w w'):Wds w' g ws :=
 ⟨Nat.lt_of_lt_of_le h.1 hb.size,fun j u hu=>(hb.cell (by exact h.1)).trans (h.2 j u hu)⟩
theorem cellsW_at:∀ (ws:List Wd) (i:Nat) (x:Wd),ws[i]? = some x→(cellsW ws)[i * 3]? = some (.int .i64 x.k)∧(cellsW ws)[i * 3+1]? = some (.int .i64 x.n)∧(cellsW ws)[i * 3+2]? = some (.string ⟨x.s.toArray⟩)
 | [],i,x,h=>by cases h
 | y::r,0,x,h=>by
  injection h with h
  subst h
  exact ⟨rfl,rfl,rfl⟩
 | y::r,i+1,x,h=>by
  have ih:=cellsW_at r i x h
  have e:cellsW (y::r)=[.int .i64 y.k,.int .i64 y.n,.string ⟨y.s.toArray⟩]++cellsW r:=rfl
  have e1:(i+1) * 3=3+i * 3:=by omega
  rw [e,e1]
  refine ⟨?_,?_,?_⟩
  ·rw [List.getElem?_append_right (by simp)];simpa using ih.1
  ·rw [List.getElem?_append_right (by simp;omega),show 3+i * 3+1 - [Value.int .i64 y.k,.int .i64 y.n,.string ⟨y.s.toArray⟩].length=i * 3+1 by simp;omega];exact ih.2.1
  ·rw [List.getElem?_append_right (by simp;omega),show 3+i * 3+2 - [Value.int .i64 y.k,.int .i64 y.n,.string ⟨y.s.toArray⟩].length=i * 3+2 by simp;omega];exact ih.2.2
theorem Wds.at_ {w:World} {g i:Nat} {ws:List Wd} {x:Wd} (h:Wds w g ws) (hx:ws[i]? = some x) :
  w.cell? ⟨g,i * 3,none⟩=some (.int .i64 x.k)∧w.cell? ⟨g,i * 3+1,none⟩=some (.int .i64 x.n)∧w.cell? ⟨g,i * 3+2,none⟩=some (.string ⟨x.s.toArray⟩):=by
 obtain ⟨h1,h2,h3⟩:=cellsW_at ws i x hx
 exact ⟨h.2 _ _ h1,h.2 _ _ h2,h.2 _ _ h3⟩
theorem bch0 {w w1 w2:World} (h:Below w.heap.size w w1) (k:Below w1.heap.size w1 w2):Below w.heap.size w w2:=Below.trans h (Below.mono k h.size)
end Go.Proofs.YtgbcdkmjcokclaaGreat.lx
namespace Go.Proofs.YtgbcdkmjcokclaaGreat.lib
open Go.ChangeShapes Go.WideShapes Go.ChangeAt Go.RowKit Go.MapKept
def MapAt (w:World) (b:Nat) (M:List (List UInt8 × Value)):Prop :=
 ∃ es clock,w.heap[b]? = some (.map es clock)∧es.toList.map (fun e=>(e.key,e.val))=M.map (fun x=>(Value.string ⟨x.1.toArray⟩,x.2))
def mlook (M:List (List UInt8 × Value)) (l:List UInt8) (z:Value):Value × Bool:=match M.find? (fun x=>x.1 == l) with
 | some x=>(x.2,true)
 | none=>(z,false)
theorem MapAt.lt {w:World} {b:Nat} {M:List (List UInt8 × Value)} (h:MapAt w b M):b<w.heap.size:=by
 obtain ⟨es,clock,hb,_⟩:=h
 exact (Array.getElem?_eq_some_iff.1 hb).1
theorem MapAt.new (w:World):MapAt (w.alloc (.map #[] 0)) w.heap.size []:=⟨#[],0,(heap_alloc w _).1,rfl⟩
theorem MapAt.same {w w':World} {b:Nat} {M:List (List UInt8 × Value)} (h:MapAt w b M) (hb:w'.heap[b]? = w.heap[b]?):MapAt w' b M:=by
 obtain ⟨es,clock,h1,h2⟩:=h
 exact ⟨es,clock,hb.trans h1,h2⟩
theorem MapAt.ext {w w':World} {b:Nat} {M:List (List UInt8 × Value)} (h:MapAt w b M) (hb:Below w.heap.size w w'):MapAt w' b M:=h.same (hb.block b h.lt)
theorem MapAt.grown {w w':World} {row:Option Nat} {b:Nat} {M:List (List UInt8 × Value)} (h:MapAt w b M) (hg:w.grownBy w' row) (hr:some b≠row):MapAt w' b M:=h.same (hg.block b h.lt hr)
theorem MapAt.notCells {w:World} {b:Nat} {M:List (List UInt8 × Value)} (h:MapAt w b M) (cs:Array Value) (t:TypeId):w.heap[b]?≠some (.cells cs t):=by
 obtain ⟨es,clock,h1,_⟩:=h
 rw [h1]
 intro e
 injection e with e
 cases e
theorem mk_inj {l m:List UInt8} (h:(⟨l.toArray⟩:ByteArray)=⟨m.toArray⟩):l=m:=by
 have:=congrArg (fun b:ByteArray=>b.data.toList) h
 simpa using this
theorem findNow_lit (l:List UInt8):∀ (M:List (List UInt8 × Value)) (es:List MapEntry) (i:Nat),es.map (fun e=>(e.key,e.val))=M.map (fun x=>(Value.string ⟨x.1.toArray⟩,x.2)) →
  (M.find? (fun x=>x.1 == l)=none∧Instr.findNow .string (.string ⟨l.toArray⟩) es i=some none) ∨
  ∃ x j,M.find? (fun x=>x.1 == l)=some x∧Instr.findNow .string (.string ⟨l.toArray⟩) es i=some (some (j,x.2))
 | [],[],i,_=>.inl ⟨rfl,rfl⟩
 | [],_::_,i,h=>by cases h
 | _::_,[],i,h=>by cases h
 | x::M,e::es,i,h=>by
  simp only [List.map_cons,List.cons.injEq,Prod.mk.injEq] at h
  obtain ⟨⟨h1,h2⟩,h3⟩:=h
  obtain ⟨r,hr,hiff⟩:=sameNow_of_keys (d:=.string) (a:=.string ⟨l.toArray⟩) (b:=e.key) trivial (by rw [h1];exact trivial)
  by_cases hx:x.1=l
  ·refine .inr ⟨x,i,by simp [hx],?_⟩
   obtain rfl:r=true:=hiff.2 (by rw [h1,hx])
   simp [Instr.findNow,hr,h2]
  ·have hb:r=false:=by
    cases r with
    | false=>rfl
    | true =>
     have:=hiff.1 rfl
     rw [h1] at this
     injection this with this
     exact absurd (mk_inj this).symm hx
   subst hb
   have hf:(x::M).find? (fun x=>x.1 == l)=M.find? (fun x=>x.1 == l):=by
    rw [List.find?_cons_of_neg (by simpa using hx)]
   rw [hf]
   have hn:Instr.findNow .string (.string ⟨l.toArray⟩) (e::es) i=Instr.findNow .string (.string ⟨l.toArray⟩) es (i+1):=by
    simp [Instr.findNow,hr]
   rw [hn]
   exact findNow_lit l M es (i+1) h3
section
variable {P:Program} {w:World} {ops:Array Oper} {rest:List Oper} {o:Oper} {a:Act} {Q:Exit→Act→World→Prop}
theorem look_lit (c:Bool) {t k e:TypeId} (ht:P.underlying t=some (.map k e)) (hk:P.underlying k=some .string) {z:Value} (hz:(zeroValue e).run P w=.ok z w) {b:Nat} {M:List (List UInt8 × Value)} (h:MapAt w b M) (l:List UInt8) :
  (Instr.lookup t (.map (some b)) (.string ⟨l.toArray⟩) c).run P w=.ok (if c then .tuple #[(mlook M l z).1,.bool (mlook M l z).2] else (mlook M l z).1) w:=by
 obtain ⟨es,clock,hb,he⟩:=h
 have hik:IsKey .string (.string ⟨l.toArray⟩):=trivial
 rcases findNow_lit l M es.toList 0 he with ⟨h1,h2⟩|⟨x,j,h1,h2⟩
 ·simp [Instr.lookup,run_underlying ht,MapKept.run_getObj_map hb,run_checkKey hk hik,run_findKey hk h2,hz,Result.andThen,mlook,h1]
 ·simp [Instr.lookup,run_underlying ht,MapKept.run_getObj_map hb,run_checkKey hk hik,run_findKey hk h2,Result.andThen,mlook,h1]
theorem put_lit {t k e:TypeId} (ht:P.underlying t=some (.map k e)) (hk:P.underlying k=some .string) {b:Nat} {M:List (List UInt8 × Value)} (h:MapAt w b M) (l:List UInt8) (v:Value) (hn:M.find? (fun x=>x.1 == l)=none) :
  ∃ w',(Instr.mapUpdate t (.map (some b)) (.string ⟨l.toArray⟩) v).run P w=.ok () w'∧MapAt w' b (M++[(l,v)])∧w.grownBy w' (some b):=by
 obtain ⟨es,clock,hb,he⟩:=h
 have hik:IsKey .string (.string ⟨l.toArray⟩):=trivial
 rcases findNow_lit l M es.toList 0 he with ⟨h1,h2⟩|⟨x,j,h1,h2⟩
 ·refine ⟨{ w with heap:=w.heap.setIfInBounds b (.map (es.push { key:=.string ⟨l.toArray⟩,val:=v,born:=clock }) (clock+1)) },by simp [Instr.mapUpdate,run_underlying ht,MapKept.run_getObj_map hb,run_checkKey hk hik,run_findKey hk h2,MapKept.run_setObj_map _ hb,Result.andThen],⟨_,_,(heap_set hb).1,?_⟩,⟨rfl,rfl,rfl,by simp,fun i _ hi=>(heap_set hb).2 i (fun e=>hi (by rw [e]))⟩⟩
  simp [he]
 ·rw [hn] at h1;cases h1
theorem wpList_look_lit (hg:o.guard=none) (m x:Operand) (t:TypeId) (c:Bool) (hop:o.op=Op.lookup t m x c) (k e:TypeId) (ht:P.underlying t=some (.map k e)) (hk:P.underlying k=some .string) (z:Value) (hz:∀ w,(zeroValue e).run P w=.ok z w)
  (b:Nat) (M:List (List UInt8 × Value)) (hm:a.eval m=.map (some b)) (h:MapAt w b M) (l:List UInt8) (s:ByteArray) (hs:s=⟨l.toArray⟩) (hx:a.eval x=.string s)
  (hK:wpList P ops Q rest (a.put o.dst (if c then .tuple #[(mlook M l z).1,.bool (mlook M l z).2] else (mlook M l z).1)) w):wpList P ops Q (o::rest) a w:=by
 subst hs
 refine wpList_plain hg fun K' hK'=>?_
 unfold Oper.wp
 simp [execOp,hop,hm,hx,look_lit c ht hk (hz w) h l,Result.andThen]
 exact hK' _ _ hK
theorem wpList_put_lit (hg:o.guard=none) (m x y:Operand) (t:TypeId) (hop:o.op=Op.insert t m x y∨o.op=Op.mapUpdate t m x y) (k e:TypeId) (ht:P.underlying t=some (.map k e)) (hk:P.underlying k=some .string)
  (b:Nat) (M:List (List UInt8 × Value)) (hm:a.eval m=.map (some b)) (h:MapAt w b M) (l:List UInt8) (v:Value) (hx:a.eval x=.string ⟨l.toArray⟩) (hy:a.eval y=v) (hn:M.find? (fun x=>x.1 == l)=none)
  (hK:∀ w',MapAt w' b (M++[(l,v)])→w.grownBy w' (some b)→wpList P ops Q rest (a.put o.dst undef) w'):wpList P ops Q (o::rest) a w:=by
 refine wpList_plain hg fun K' hK'=>?_
 obtain ⟨w',hrun,h1,h2⟩:=put_lit ht hk h l v hn
 unfold Oper.wp
 rcases hop with hop|hop
 ·simp [execOp,hop,hm,hx,hy,hrun,Result.andThen]
  exact hK' _ _ (hK w' h1 h2)
 ·simp [execOp,hop,hm,hx,hy,hrun,Result.andThen]
  exact hK' _ _ (hK w' h1 h2)
end
end Go.Proofs.YtgbcdkmjcokclaaGreat.lib
namespace Go.Proofs.YtgbcdkmjcokclaaGreat.pg
open Go.ChangeShapes Go.WideShapes Go.ChangeAt Go.RowKit Go.Proofs.YtgbcdkmjcokclaaGreat.lib Go.Proofs.YtgbcdkmjcokclaaGreat.lx
section
variable {w w':World} {g:Nat} {W:List Wd} {b:Nat} {p:Pp} {a n c:Nat}
end
theorem two {w:World} {g:Nat} {t:TypeId} {x0 x1:Value} (h:Blk w g t #[x0,x1]) {w':World} (hb:Below w.heap.size w w') :
  w'.cell? ⟨g,0,none⟩=some x0∧w'.cell? ⟨g,1,none⟩=some x1:=⟨(h.ext hb).cell 0,(h.ext hb).cell 1⟩
theorem grown_set (w:World) (a:Addr) (u:Value):w.grownBy (w.setCell a u) (some a.block):=⟨rfl,rfl,rfl,by simp [World.setCell],fun k hk hne=>Below.heap_setCell _ _ _ _ (fun e=>hne (by rw [e]))⟩
theorem grown_of {w w':World} (h:Below w.heap.size w w') (row:Option Nat):w.grownBy w' row:=⟨h.os,h.tape,h.output,h.size,fun k hk _=>h.block k hk⟩
theorem grown_new {w w1 w2:World} {row:Option Nat} {r:Nat} (h:w.grownBy w1 row) (k:w1.grownBy w2 (some r)) (hr:w.heap.size≤r):w.grownBy w2 row :=
 ⟨k.os.trans h.os,k.tape.trans h.tape,k.output.trans h.output,Nat.le_trans h.size k.size,fun i hi hne=>(k.block i (Nat.lt_of_lt_of_le hi h.size) (fun e=>by injection e with e;omega)).trans (h.block i hi hne)⟩
def wordsM:List (List UInt8 × Value):=reserved.map fun s=>(s,.bool true)
theorem res_new:∀ k,k<41→∀ s,reserved[k]? = some s→(reserved.take k).find? (fun x=>x == s)=none:=by
 have h:(List.range 41).all (fun k=>((reserved.take k).find? (fun x=>x == (reserved[k]?).getD [])).isNone)=true:=by decide +kernel
 intro k hk s hs
 have:=List.all_eq_true.1 h k (List.mem_range.2 hk)
 rw [hs] at this
 simpa using this
theorem map_find (l:List (List UInt8)) (s:List UInt8):(l.map fun s=>(s,Value.bool true)).find? (fun x=>x.1 == s)=(l.find? (fun x=>x == s)).map fun s=>(s,Value.bool true):=by
 induction l with
 | nil=>rfl
 | cons a l ih =>
  by_cases h:a=s
  ·simp [h]
  ·simp only [List.map_cons]
   rw [List.find?_cons_of_neg (by simpa using h),List.find?_cons_of_neg (by simpa using h),ih]
theorem zeroB (w:World):(zeroValue 4).run Tryz.prog w=.ok (.bool false) w:=by kernel_rfl
theorem words_look (l:List UInt8):mlook wordsM l (.bool false)=(.bool (reserved.contains l),reserved.contains l):=by
 unfold mlook wordsM
 rw [map_find]
 cases h:reserved.find? (fun x=>x == l) with
 | none =>
  have:reserved.contains l=false:=by
   rw [Bool.eq_false_iff]
   intro hc
   rw [List.contains_iff_mem] at hc
   have:=List.find?_eq_none.1 h l hc
   simp at this
  simp only [Option.map_none,this]
 | some y =>
  have hy:=List.find?_some h
  have hm:=List.mem_of_find?_eq_some h
  have:reserved.contains l=true:=by
   rw [List.contains_iff_mem]
   have:y=l:=by simpa using hy
   rwa [this] at hm
  simp only [Option.map_some,this]
theorem four {w:World} {g:Nat} {t:TypeId} {x0 x1 x2 x3:Value} (h:Blk w g t #[x0,x1,x2,x3]) {w':World} (hb:Below w.heap.size w w') :
  w'.cell? ⟨g,0,none⟩=some x0∧w'.cell? ⟨g,1,none⟩=some x1∧w'.cell? ⟨g,2,none⟩=some x2∧w'.cell? ⟨g,3,none⟩=some x3 :=
 ⟨(h.ext hb).cell 0,(h.ext hb).cell 1,(h.ext hb).cell 2,(h.ext hb).cell 3⟩
theorem language_ (w:World):Calls Tryz.prog 231 #[] w fun e w'=>∃ g,e=.returned (.slice (some ⟨g,0,none⟩) 41 41)∧w.heap.size≤g∧Row w' 0 (some ⟨g,0,none⟩) 41 41 (reserved.map fun s=>Value.string ⟨s.toArray⟩)∧Below w.heap.size w w':=by
 go_enter Tryz.func231,Tryz.ntmps231
 go_wp2
 go_ret
 exact ⟨_,rfl,Nat.le_refl _,Row.of_blk (Blk.new w _ _) (Nat.zero_le _) 41 41 (Nat.le_refl _),(Below.refl _ _).alloc (Nat.le_refl _) _⟩
theorem read_ {w:World} {q:Nat} {s:Int} (h:Blk w q 288 #[.int .u32 0,.int .i32 s,.int .u32 0,.map none]) :
  Calls Tryz.prog 201 #[.pointer (some ⟨q,0,none⟩)] w fun e w'=>∃ m,e=.returned (.tuple #[])∧Blk w' q 288 #[.int .u32 0,.int .i32 s,.int .u32 0,.map (some m)]∧MapAt w' m wordsM∧w.grownBy w' (some q):=by
 have hq:=h.lt
 have hmm:=@run_makeMap Tryz.prog
 have q1:=(four h ((Below.refl w.heap.size w).alloc (Nat.le_refl _) (.map #[] 0))).2.2.2
 have f3:=(h.ext ((Below.refl w.heap.size w).alloc (Nat.le_refl _) (.map #[] 0))).frozen 3
 have H:=Lib.hid h
 clear h
 go_enter Tryz.func201,Tryz.ntmps201
 go_upto_region 1 with fail
 have hqm:q≠w.heap.size:=by omega
 have H1:Blk (w.setCell ⟨q,3,none⟩ (.map (some w.heap.size))) q 288 #[.int .u32 0,.int .i32 s,.int .u32 0,.map (some w.heap.size)]:=by simpa using H.out.set_ 3 (.map (some w.heap.size))
 have hg1:=grown_set w ⟨q,3,none⟩ (.map (some w.heap.size))
 have HM1:=MapAt.new (w.setCell ⟨q,3,none⟩ (.map (some w.heap.size)))
 have hz:(w.setCell ⟨q,3,none⟩ (.map (some w.heap.size))).heap.size=w.heap.size:=by simp [World.setCell]
 rw [hz] at HM1
 obtain ⟨m,hm⟩:∃ m,w.heap.size=m:=⟨_,rfl⟩
 rw [hm] at HM1 H1 hg1 hqm ⊢
 have hb1:=(Below.refl _ (w.setCell ⟨q,3,none⟩ (.map (some m)))).alloc (Nat.le_refl _) (.map #[] 0)
 have H2:=H1.ext hb1
 have hg2:=hg1.trans (grown_of hb1 (some q))
 have HM2:=HM1
 generalize hw2:(w.setCell ⟨q,3,none⟩ (.map (some m))).alloc (.map #[] 0)=w2 at *
 have HW:=Lib.hid (show w.heap.size≤m by omega)
 clear hw2 q1 f3 hmm hm hq H1 HM1 hg1 hb1 hz H
 go_wp2_with fail
 refine (language_ _).mono ?_
 rintro e w3 ⟨gl,rfl,hgl,hrow,hb3⟩
 have hml:=HM2.lt
 have hql:=H2.lt
 have HM3:=HM2.ext hb3
 have H3:=H2.ext hb3
 have hg3:=hg2.trans (grown_of hb3 (some q))
 have hne1:gl≠m:=by omega
 have hne2:gl≠q:=by omega
 clear HM2 H2 hb3 hgl hg2 hml hql
 go_wp2_with fail
 go_loopw [10] (fun i wr=>∃ k:Nat,i=.int .i64 k∧k≤41∧Blk wr q 288 #[.int .u32 0,.int .i32 s,.int .u32 0,.map (some m)]∧MapAt wr m ((reserved.take k).map fun s=>(s,.bool true))∧w3.grownBy wr (some m)) (fun i _=>41 - (intOf i).toNat)
 case atStart=>exact ⟨0,rfl,Nat.zero_le _,H3,HM3,World.grownBy.refl _ _⟩
 case round =>
  obtain ⟨k,rfl,hk,hB,hMk,hgk⟩:=hrel
  rcases Nat.lt_or_ge k 41 with hlt|hge
  case inr =>
   have hd:decide ((k:Int)<41)=false:=by simp;omega
   have e:reserved.take k=reserved:=List.take_of_length_le (show reserved.length≤k from hge)
   rw [e] at hMk
   have HF:=Lib.hid hMk
   have HB:=Lib.hid hB
   have HG:=Lib.hid (show w.grownBy wr (some q) from grown_new hg3 hgk HW.out)
   clear hge e hMk hB hgk
   go_wp2
   first|go_end0|refine bodyPost_ret (results_none rfl _ _ _) rfl ?_
   exact ⟨m,rfl,HB.out,HF.out,HG.out⟩
  have hd:decide ((k:Int)<41)=true:=by simp;omega
  have hk41:(k:Int)<41:=by omega
  obtain ⟨r,hr⟩:∃ r,reserved[k]? = some r:=⟨_,List.getElem?_eq_getElem (show k<reserved.length from hlt)⟩
  have hc:=(hrow.grown hgk (fun b off e=>by injection e with e;injection e with e _;rw [←e];simpa using hne1)).at_ (i:=k) (u:=.string ⟨r.toArray⟩) (by rw [List.getElem?_map,hr];rfl)
  simp only [Nat.zero_add] at hc
  have hfind:((reserved.take k).map fun s=>(s,Value.bool true)).find? (fun x=>x.1 == r)=none:=by rw [map_find,res_new k hlt r hr];rfl
  have ht:((reserved.take (k+1)).map fun s=>(s,Value.bool true))=((reserved.take k).map fun s=>(s,Value.bool true))++[(r,.bool true)]:=by rw [List.take_add_one,hr,Option.toList_some,List.map_append];rfl
  have qb:=four hB (Below.refl _ _)
  have HT:=Lib.hid ht
  have HFD:=Lib.hid hfind
  have HB:=Lib.hid hB
  have HMK:=Lib.hid hMk
  have HGK:=Lib.hid hgk
  clear ht hr hfind hB hMk hgk
  go_wp2_with (at_mapUpdate;refine wpList_put_lit rfl _ _ _ 286 (.inr rfl) 9 4 Tryz.underlying286 Tryz.underlying9 m _ rfl HMK.out r (.bool true) rfl rfl HFD.out ?_;intro w4 hM4 hg4)
  have HM4:=Lib.hid (show MapAt w4 m ((reserved.take (k+1)).map fun s=>(s,.bool true)) by rw [HT.out];exact hM4)
  have HB4:=Lib.hid (HB.out.grown hg4 (by simp;omega))
  have HG4:=Lib.hid (HGK.out.trans hg4)
  clear hM4 hg4 qb hc
  go_wp2
  go_roundw
  case rel=>exact ⟨k+1,by go_num,by omega,HB4.out,HM4.out,HG4.out⟩
  case measure=>simp [intOf];omega
theorem slow_ {w:World} {q:Nat} (h:Blk w q 288 #[.int .u32 0,.int .i32 0,.int .u32 0,.map none]) :
  Calls Tryz.prog 84 #[.pointer (some ⟨q,0,none⟩),.func (.func 201) #[.pointer (some ⟨q,0,none⟩)] #[]] w fun r w'=>∃ m,r=.returned (.tuple #[])∧Blk w' q 288 #[.int .u32 1,.int .i32 0,.int .u32 0,.map (some m)]∧MapAt w' m wordsM∧w.grownBy w' (some q):=by
 have h1:Blk (w.setCell ⟨q,1,none⟩ (.int .i32 1)) q 288 #[.int .u32 0,.int .i32 1,.int .u32 0,.map none]:=by simpa using h.set_ 1 (.int .i32 1)
 have hg1:=grown_set w ⟨q,1,none⟩ (.int .i32 1)
 have hc:=(four h (Below.refl _ _)).2.1
 have hf:=h.frozen 1
 have hl:=run_call_load (P:=Tryz.prog) Tryz.func152 (by kernel_rfl) (by kernel_rfl) (by kernel_rfl) .u32 (by kernel_rfl) (w:=w.setCell ⟨q,1,none⟩ (.int .i32 1)) (a:=⟨q,0,none⟩) (x:=0) (four h1 (Below.refl _ _)).1
 have hnot:∀ (x:Bool) (w:World),(Op.unary .not (.bool x)).run Tryz.prog w=.ok (.bool (!x)) w:=fun _ _=>rfl
 have H1:=Lib.hid h1
 have HG1:=Lib.hid hg1
 clear h h1 hg1
 go_enter_defers Tryz.func84,Tryz.ntmps84
 go_wp2_with (go_at_call 153;refine (lock_free ⟨q,1,none⟩ _ hc hf).mono ?_;rintro e w' ⟨rfl,rfl⟩)
 go_wp2_with (first|(go_at_call 83;go_in)|(refine (read_ H1.out).mono ?_;rintro e w2 ⟨m,rfl,h2,hM2,hg2⟩)|go_in)
 have HG2:=Lib.hid (HG1.out.trans hg2)
 have q2:=four h2 (Below.refl _ _)
 have z0:=h2.frozen 0
 have B3:Blk (w2.drew.setCell ⟨q,0,none⟩ (.int .u32 1)) q 288 #[.int .u32 1,.int .i32 1,.int .u32 0,.map (some m)]:=by simpa using (show Blk w2.drew q _ _ from h2).set_ 0 (.int .u32 1)
 have B4:Blk ((w2.drew.setCell ⟨q,0,none⟩ (.int .u32 1)).setCell ⟨q,1,none⟩ (.int .i32 0)) q 288 #[.int .u32 1,.int .i32 0,.int .u32 0,.map (some m)]:=by simpa using B3.set_ 1 (.int .i32 0)
 have q3:=four B3 (Below.refl _ _)
 have z1:=B3.frozen 1
 have hne:some m≠some q:=by
  intro e
  injection e with e
  exact hM2.notCells _ _ (by rw [e];exact h2)
 have HM2:MapAt w2.drew m wordsM:=hM2
 have HM4:=(HM2.grown (grown_set _ ⟨q,0,none⟩ (.int .u32 1)) hne).grown (grown_set _ ⟨q,1,none⟩ (.int .i32 0)) hne
 have HG4:=((HG2.out.trans (grown_of ((Below.refl _ w2).drew) _)).trans (grown_set _ ⟨q,0,none⟩ (.int .u32 1))).trans (grown_set _ ⟨q,1,none⟩ (.int .i32 0))
 refine leaves_cons (f:=155) (args:=#[.pointer (some ⟨q,0,none⟩),.bool true]) (by simp) (by simp [go_sem]) ?_
 refine (store_deferred ⟨q,0,none⟩ (.int .u32 0) .returning _ q2.1 z0).mono ?_
 rintro e u' w'' ⟨rfl,rfl,rfl⟩
 refine leaves_cons (f:=154) (args:=#[.pointer (some ⟨q,1,none⟩)]) (by simp [settle]) (by simp [go_sem]) ?_
 refine (unlock_deferred ⟨q,1,none⟩ _ _ q3.2.1 z1).mono ?_
 rintro e u' w'' ⟨rfl,rfl,rfl⟩
 have R:=Lib.hid (show ∃ m,Ending.returned (.tuple #[])=.returned (.tuple #[])∧Blk ((w2.drew.setCell ⟨q,0,none⟩ (.int .u32 1)).setCell ⟨q,1,none⟩ (.int .i32 0)) q 288 #[.int .u32 1,.int .i32 0,.int .u32 0,.map (some m)]∧MapAt ((w2.drew.setCell ⟨q,0,none⟩ (.int .u32 1)).setCell ⟨q,1,none⟩ (.int .i32 0)) m wordsM∧w.grownBy ((w2.drew.setCell ⟨q,0,none⟩ (.int .u32 1)).setCell ⟨q,1,none⟩ (.int .i32 0)) (some q) from ⟨m,rfl,B4,HM4,HG4⟩)
 simp only [Leaves,settle,results,Tryz.results84]
 exact ⟨.tuple #[],by first|rfl|simp,R.out⟩
theorem once_ {w:World} {q:Nat} (h:Blk w q 288 #[.int .u32 0,.int .i32 0,.int .u32 0,.map none]) :
  Calls Tryz.prog 28 #[.pointer (some ⟨q,0,none⟩),.func (.func 201) #[.pointer (some ⟨q,0,none⟩)] #[]] w fun r w'=>∃ m,r=.returned (.tuple #[])∧Blk w' q 288 #[.int .u32 1,.int .i32 0,.int .u32 0,.map (some m)]∧MapAt w' m wordsM∧w.grownBy w' (some q):=by
 have H:=Lib.hid h
 have hl:=run_call_load (P:=Tryz.prog) Tryz.func152 (by kernel_rfl) (by kernel_rfl) (by kernel_rfl) .u32 (by kernel_rfl) (w:=w) (a:=⟨q,0,none⟩) (x:=0) (four h (Below.refl _ _)).1
 have hnot:∀ (x:Bool) (w:World),(Op.unary .not (.bool x)).run Tryz.prog w=.ok (.bool (!x)) w:=fun _ _=>rfl
 clear h
 go_enter Tryz.func28,Tryz.ntmps28
 go_wp2_with (first|(go_at_call 84;refine (slow_ H.out).mono ?_;rintro e w2 ⟨m,rfl,h2,hM2,hg2⟩)|(go_at_call 83;go_in))
 have R:=Lib.hid (And.intro h2 (And.intro hM2 hg2))
 clear h2 hM2 hg2
 go_wp2
 first|go_end0|refine bodyPost_ret (results_none rfl _ _ _) rfl ?_
 exact ⟨m,rfl,R.out.1,R.out.2.1,R.out.2.2⟩
theorem again_ {w:World} {q m:Nat} (h:Blk w q 288 #[.int .u32 1,.int .i32 0,.int .u32 0,.map (some m)]) :
  Calls Tryz.prog 28 #[.pointer (some ⟨q,0,none⟩),.func (.func 201) #[.pointer (some ⟨q,0,none⟩)] #[]] w fun r w'=>r=.returned (.tuple #[])∧w=w':=by
 have hl:=run_call_load (P:=Tryz.prog) Tryz.func152 (by kernel_rfl) (by kernel_rfl) (by kernel_rfl) .u32 (by kernel_rfl) (w:=w) (a:=⟨q,0,none⟩) (x:=1) (four h (Below.refl _ _)).1
 have hnot:∀ (x:Bool) (w:World),(Op.unary .not (.bool x)).run Tryz.prog w=.ok (.bool (!x)) w:=fun _ _=>rfl
 clear h
 go_enter Tryz.func28,Tryz.ntmps28
 go_wp2_with (go_at_call 83;go_in)
 first|go_end0|refine bodyPost_ret (results_none rfl _ _ _) rfl ?_
 exact ⟨rfl,rfl⟩
structure StrB (s:ByteArray) (l:List UInt8):Prop where
 eq:s=⟨l.toArray⟩
theorem StrB.size {s:ByteArray} {l:List UInt8} (h:StrB s l):s.size=l.length:=by rw [h.eq];exact size_mk l
theorem StrB.get {s:ByteArray} {l:List UInt8} (h:StrB s l) (k:Nat) (hk:k<s.size) (hl:k<l.length):s[k]=l[k]:=by
 obtain ⟨rfl⟩:=h
 rfl
theorem nameOk_no {l:List UInt8} (k:Nat) (hk:k<l.length) (h:nameB l[k]=false):nameOk l=false:=by
 unfold nameOk
 have:l.all nameB=false:=by
  rw [Bool.eq_false_iff]
  intro h2
  rw [List.all_eq_true] at h2
  have:=h2 l[k] (List.getElem_mem hk)
  rw [h] at this
  cases this
 rw [this]
 simp
def Sp (w:World) (q:Nat):Prop:=Blk w q 288 #[.int .u32 0,.int .i32 0,.int .u32 0,.map none]∨∃ m,Blk w q 288 #[.int .u32 1,.int .i32 0,.int .u32 0,.map (some m)]∧MapAt w m wordsM
theorem Sp.lt {w:World} {q:Nat} (h:Sp w q):q<w.heap.size:=by
 rcases h with h|⟨m,h,_⟩
 ·exact h.lt
 ·exact h.lt
theorem Sp.ext {w w':World} {q:Nat} (h:Sp w q) (hb:Below w.heap.size w w'):Sp w' q:=by
 rcases h with h|⟨m,h,hM⟩
 ·exact .inl (h.ext hb)
 ·exact .inr ⟨m,h.ext hb,hM.ext hb⟩
theorem do_ {w:World} {q:Nat} (h:Sp w q) :
  Calls Tryz.prog 28 #[.pointer (some ⟨q,0,none⟩),.func (.func 201) #[.pointer (some ⟨q,0,none⟩)] #[]] w fun r w'=>∃ m,r=.returned (.tuple #[])∧Blk w' q 288 #[.int .u32 1,.int .i32 0,.int .u32 0,.map (some m)]∧MapAt w' m wordsM∧w.grownBy w' (some q):=by
 rcases h with h|⟨m,h,hM⟩
 ·exact once_ h
 ·refine (again_ h).mono ?_
  rintro e w' ⟨rfl,rfl⟩
  exact ⟨m,rfl,h,hM,World.grownBy.refl _ _⟩
theorem sname_ (l:List UInt8) (hl:l.length≤1000) {w:World} {q:Nat} (h:Sp w q) :
  Calls Tryz.prog 164 #[.pointer (some ⟨q,0,none⟩),.string ⟨l.toArray⟩] w fun e w'=>e=.returned (.bool (nameOk l))∧Sp w' q∧w.grownBy w' (some q):=by
 obtain ⟨s,hs⟩:∃ s:ByteArray,s=⟨l.toArray⟩:=⟨_,rfl⟩
 rw [←hs]
 have HS:=Lib.hid (StrB.mk hs)
 have hz:=HS.out.size
 have HZ:=Lib.hid hz
 have HSP:=Lib.hid h
 have hmf:∀ (fn:Fn) (first cap:Array Value) (w:World),(Instr.makeFunc fn first cap).run Tryz.prog w=.ok (.func fn first cap) w:=fun _ _ _ _=>rfl
 have hsb:s.size≤1000:=by omega
 obtain ⟨ok,hok⟩:∃ b,nameOk l=b:=⟨_,rfl⟩
 rw [hok]
 have HOK:=Lib.hid hok
 clear hs hz hok h
 go_enter Tryz.func164,Tryz.ntmps164
 rcases Nat.lt_or_ge s.size 1 with h1|h1
 case inl =>
  have d1:decide ((s.size:Int)<1)=true:=by simp;omega
  obtain rfl:ok=false:=by rw [←HOK.out];unfold nameOk;rw [decide_eq_false (show ¬1≤l.length by have:=HZ.out;omega)];rfl
  clear h1
  go_wp2
  go_ret
  exact ⟨rfl,HSP.out,World.grownBy.refl _ _⟩
 have d1:decide ((s.size:Int)<1)=false:=by simp;omega
 rcases Nat.lt_or_ge 12 s.size with h2|h2
 case inl =>
  have d2:decide ((12:Int)<(s.size:Int))=true:=by simp;omega
  obtain rfl:ok=false:=by rw [←HOK.out];unfold nameOk;rw [decide_eq_false (show ¬l.length≤12 by have:=HZ.out;omega)];simp
  clear h2
  go_wp2
  go_ret
  exact ⟨rfl,HSP.out,World.grownBy.refl _ _⟩
 have d2:decide ((12:Int)<(s.size:Int))=false:=by simp;omega
 have h0:(0:Int)<(s.size:Int):=by omega
 have h00:0<s.size:=by omega
 have hl0:0<l.length:=by have:=HZ.out;omega
 have hg0:=HS.out.get 0 h00 hl0
 obtain ⟨c,hc⟩:∃ c,(s[0]'h00).toNat=c:=⟨_,rfl⟩
 have HC:=Lib.hid (show (l.headD 0).toNat=c by
  have:l.headD 0=l[0]:=by
   cases l with
   | nil=>simp at hl0
   | cons a t=>rfl
  rw [this,←hg0];exact hc)
 clear hg0
 rcases Nat.lt_or_ge c 97 with h3|h3
 case inl =>
  have a1:decide ((c:Int)<97)=true:=by simp;omega
  obtain rfl:ok=false:=by
   rw [←HOK.out];unfold nameOk letB
   rw [HC.out,decide_eq_false (show ¬97≤c by omega)];simp
  clear h3
  go_wp2
  go_ret
  exact ⟨rfl,HSP.out,World.grownBy.refl _ _⟩
 have a1:decide ((c:Int)<97)=false:=by simp;omega
 rcases Nat.lt_or_ge 122 c with h4|h4
 case inl =>
  have a2:decide ((122:Int)<(c:Int))=true:=by simp;omega
  obtain rfl:ok=false:=by
   rw [←HOK.out];unfold nameOk letB
   rw [HC.out,decide_eq_false (show ¬c≤122 by omega)];simp
  clear h4
  go_wp2
  go_ret
  exact ⟨rfl,HSP.out,World.grownBy.refl _ _⟩
 have a2:decide ((122:Int)<(c:Int))=false:=by simp;omega
 have HL:=Lib.hid (show letB (l.headD 0)=true by unfold letB;rw [HC.out];simp;omega)
 go_wp2_with fail
 clear a1 a2 d1 d2 h0 hc h3 h4 HC
 go_loopw [27] (fun i w'=>∃ k:Nat,i=.int .i64 k∧k≤s.size∧Hid (∀ j (hj:j<l.length),j<k→nameB l[j]=true)∧w'=w) (fun i _=>s.size - (intOf i).toNat)
 case atStart=>exact ⟨0,rfl,Nat.zero_le _,Lib.hid (fun j hj h=>by omega),rfl⟩
 case round =>
  obtain ⟨k,rfl,hk,HNO,rfl⟩:=hrel
  rcases Nat.lt_or_ge k s.size with hlt|hge
  case inl =>
   have hd:decide (k<s.size)=true:=by simp;omega
   have hd2:decide ((k:Int)<(s.size:Int))=true:=by simp;omega
   have hl2:k<l.length:=by rw [←HZ.out];exact hlt
   have hg:=HS.out.get k hlt hl2
   obtain ⟨c,hc⟩:∃ c,(s[k]'hlt).toNat=c:=⟨_,rfl⟩
   have HC:=Lib.hid (show l[k].toNat=c by rw [←hg];exact hc)
   clear hg
   rcases Nat.lt_or_ge c 97 with h1|h1
   case inr =>
    rcases Nat.lt_or_ge 122 c with h2|h2
    case inr =>
     have a1:decide ((c:Int)<97)=false:=by simp;omega
     have a2:decide ((122:Int)<(c:Int))=false:=by simp;omega
     have HOKK:=Lib.hid (show nameB l[k]=true by
      unfold nameB letB
      rw [HC.out]
      simp
      omega)
     clear h1 h2
     go_wp2
     go_roundw
     case rel=>exact ⟨k+1,by go_num,by omega,Lib.hid (fun j hj h=>by
      by_cases hjk:j=k
      ·subst hjk;exact HOKK.out
      ·exact HNO.out j hj (by omega)),by trivial⟩
     case measure=>simp [intOf];omega
    have a1:decide ((c:Int)<97)=false:=by simp;omega
    have a2:decide ((122:Int)<(c:Int))=true:=by simp;omega
    have a4:decide ((c:Int)<48)=false:=by simp;omega
    have a5:decide ((57:Int)<(c:Int))=true:=by simp;omega
    have a6:((c:Int) != 95)=true:=by simp;omega
    have HNN:=Lib.hid (show nameB l[k]=false by
     unfold nameB letB digB
     have e:(l[k] == 95)=false:=by rw [beq_eq_false_iff_ne];intro e;have:=congrArg UInt8.toNat e;rw [HC.out] at this;simp at this;omega
     rw [HC.out,e]
     simp
     omega)
    obtain rfl:ok=false:=by rw [←HOK.out];exact nameOk_no k hl2 HNN.out
    clear h1 h2
    go_wp2
    go_ret
    exact ⟨rfl,HSP.out,World.grownBy.refl _ _⟩
   have a1:decide ((c:Int)<97)=true:=by simp;omega
   rcases Nat.lt_or_ge c 48 with h3|h3
   case inl =>
    have a4:decide ((c:Int)<48)=true:=by simp;omega
    have a6:((c:Int) != 95)=true:=by simp;omega
    have HNN:=Lib.hid (show nameB l[k]=false by
     unfold nameB letB digB
     have e:(l[k] == 95)=false:=by rw [beq_eq_false_iff_ne];intro e;have:=congrArg UInt8.toNat e;rw [HC.out] at this;simp at this;omega
     rw [HC.out,e]
     simp
     omega)
    obtain rfl:ok=false:=by rw [←HOK.out];exact nameOk_no k hl2 HNN.out
    clear h1 h3
    go_wp2
    go_ret
    exact ⟨rfl,HSP.out,World.grownBy.refl _ _⟩
   have a4:decide ((c:Int)<48)=false:=by simp;omega
   rcases Nat.lt_or_ge 57 c with h5|h5
   case inr =>
    have a5:decide ((57:Int)<(c:Int))=false:=by simp;omega
    have HOKK:=Lib.hid (show nameB l[k]=true by
     unfold nameB letB digB
     rw [HC.out]
     simp
     omega)
    clear h1 h3 h5
    go_wp2
    go_roundw
    case rel=>exact ⟨k+1,by go_num,by omega,Lib.hid (fun j hj h=>by
     by_cases hjk:j=k
     ·subst hjk;exact HOKK.out
     ·exact HNO.out j hj (by omega)),by trivial⟩
    case measure=>simp [intOf];omega
   have a5:decide ((57:Int)<(c:Int))=true:=by simp;omega
   by_cases h9:c=95
   ·have a6:((c:Int) != 95)=false:=by subst h9;rfl
    have HOKK:=Lib.hid (show nameB l[k]=true by
     unfold nameB
     have e:(l[k] == 95)=true:=by rw [beq_iff_eq];exact UInt8.toNat_inj.1 (by rw [HC.out,h9];rfl)
     rw [e]
     simp)
    clear h1 h3 h5 h9
    go_wp2
    go_roundw
    case rel=>exact ⟨k+1,by go_num,by omega,Lib.hid (fun j hj h=>by
     by_cases hjk:j=k
     ·subst hjk;exact HOKK.out
     ·exact HNO.out j hj (by omega)),by trivial⟩
    case measure=>simp [intOf];omega
   have a6:((c:Int) != 95)=true:=by simp;omega
   have HNN:=Lib.hid (show nameB l[k]=false by
    unfold nameB letB digB
    have e:(l[k] == 95)=false:=by rw [beq_eq_false_iff_ne];intro e;have:=congrArg UInt8.toNat e;rw [HC.out] at this;simp at this;omega
    rw [HC.out,e]
    simp
    omega)
   obtain rfl:ok=false:=by rw [←HOK.out];exact nameOk_no k hl2 HNN.out
   clear h1 h3 h5 h9
   go_wp2
   go_ret
   exact ⟨rfl,HSP.out,World.grownBy.refl _ _⟩
  have hd:decide (k<s.size)=false:=by simp;omega
  have hd2:decide ((k:Int)<(s.size:Int))=false:=by simp;omega
  have HALL:=Lib.hid (show l.all nameB=true by
   rw [List.all_eq_true]
   intro x hx
   obtain ⟨j,hj,rfl⟩:=List.getElem_of_mem hx
   exact HNO.out j hj (by have:=HZ.out;omega))
  have HN:=Lib.hid (show nameOk l = !(reserved.contains l) by
   unfold nameOk
   rw [HALL.out,HL.out,decide_eq_true (show 1≤l.length by omega),decide_eq_true (show l.length≤12 by have:=HZ.out;omega)]
   simp)
  obtain ⟨cb,hcb⟩:∃ cb,reserved.contains l=cb:=⟨_,rfl⟩
  obtain rfl:ok = !cb:=by rw [←HOK.out,HN.out,hcb]
  have HCB:=Lib.hid hcb
  clear HNO hge hcb
  go_wp2_with fail
  refine (do_ HSP.out).mono ?_
  rintro e w1 ⟨m,rfl,hB1,hM1,hg1⟩
  have q1:=four hB1 (Below.refl _ _)
  have HM1:=Lib.hid hM1
  have HR:=Lib.hid (And.intro (show Sp w1 q from .inr ⟨m,hB1,hM1⟩) hg1)
  clear hB1 hM1 hg1
  go_wp2_with (at_lookup;refine wpList_look_lit rfl _ _ 286 false rfl 9 4 Tryz.underlying286 Tryz.underlying9 (.bool false) zeroB m wordsM rfl HM1.out l s HS.out.eq rfl ?_;rw [words_look,HCB.out])
  go_ret
  exact ⟨rfl,HR.out.1,HR.out.2⟩
structure Cl where
 nm:List UInt8
 k:Int
 nul:Bool
def encC (x:Cl):List Value:=[.string ⟨x.nm.toArray⟩,.int .i64 x.k,.bool x.nul]
theorem kC (x:Cl):(encC x).length=3:=rfl
def idxC (cols:List Cl) (nm:List UInt8):Int:=match cols.findIdx? (fun x=>x.nm == nm) with
 | some i=>(i:Int)
 | none=>-1
def findC (cols:List Cl) (nm:List UInt8):Int × Bool:=match cols.findIdx? (fun x=>x.nm == nm) with
 | some i=>((i:Int),true)
 | none=>(0,false)
theorem idx_none {cols:List Cl} {nm:List UInt8} (h:∀ j (hj:j<cols.length),cols[j].nm≠nm):idxC cols nm = -1:=by
 unfold idxC
 have:cols.findIdx? (fun x=>x.nm == nm)=none:=by
  rw [List.findIdx?_eq_none_iff]
  intro x hx
  obtain ⟨j,hj,rfl⟩:=List.getElem_of_mem hx
  simpa using h j hj
 rw [this]
theorem idx_some {cols:List Cl} {nm:List UInt8} {k:Nat} {x:Cl} (hx:cols[k]? = some x) (hn:x.nm=nm) (h:∀ j (hj:j<cols.length),j<k→cols[j].nm≠nm):idxC cols nm=k:=by
 unfold idxC
 obtain ⟨hk,e⟩:=List.getElem?_eq_some_iff.1 hx
 have:cols.findIdx? (fun x=>x.nm == nm)=some k:=by
  rw [List.findIdx?_eq_some_iff_getElem]
  refine ⟨hk,by rw [e];simpa using hn,fun j hj=>?_⟩
  simpa using h j (by omega) hj
 rw [this]
theorem index_ (nm:List UInt8) (cols:List Cl) (A:Option Addr) (c px:Nat) {w:World} (hp:w.cell? ⟨px,0,none⟩=some (.string ⟨nm.toArray⟩)) (hpl:px<w.heap.size) (hr:Row w 0 A cols.length c (flatK encC cols)) (hl:cols.length≤1000) :
  Calls Tryz.prog 202 #[.slice A cols.length c,.func (.func 203) #[] #[.pointer (some ⟨px,0,none⟩)]] w fun e w'=>e=.returned (.int .i64 (idxC cols nm))∧Below w.heap.size w w':=by
 obtain ⟨n,hn⟩:∃ n,cols.length=n:=⟨_,rfl⟩
 obtain ⟨R,hR⟩:∃ R,idxC cols nm=R:=⟨_,rfl⟩
 rw [hR]
 have HR:=Lib.hid hR
 have HN:=Lib.hid hn
 have HRW:=Lib.hid hr
 have HP:=Lib.hid hp
 rw [hn] at hl ⊢
 clear hR hn hr hp
 go_enter Tryz.func202,Tryz.ntmps202
 go_wp2_with fail
 go_loopw [8] (fun i wr=>∃ k:Nat,i=.int .i64 k∧k≤n∧Hid (∀ j (hj:j<cols.length),j<k→cols[j].nm≠nm)∧Below w.heap.size w wr) (fun i _=>n - (intOf i).toNat)
 case atStart=>exact ⟨0,rfl,Nat.zero_le _,Lib.hid (fun j hj h=>by omega),Below.refl _ _⟩
 case round =>
  obtain ⟨k,rfl,hk,HNO,hb⟩:=hrel
  have HB:=Lib.hid hb
  rcases Nat.lt_or_ge k n with hlt|hge
  case inr =>
   have hd:decide ((k:Int)<(n:Int))=false:=by simp;omega
   have hd2:decide (k<n)=false:=by simp;omega
   obtain rfl:R = -1:=by rw [←HR.out];exact idx_none (fun j hj=>HNO.out j hj (by have:=HN.out;omega))
   clear hge hb
   go_wp2
   go_ret
   exact ⟨rfl,HB.out⟩
  have hd:decide ((k:Int)<(n:Int))=true:=by simp;omega
  have hd2:decide (k<n)=true:=by simp;omega
  have hkm:(k:Int)<(n:Int):=by omega
  obtain ⟨x,hx⟩:∃ x,cols[k]? = some x:=⟨_,List.getElem?_eq_getElem (by have:=HN.out;omega)⟩
  obtain ⟨b,off,rfl,_,_,hbl⟩:=HRW.out.some_ (by have:=HN.out;omega)
  have hrow:=HRW.out.ext hb
  have key:∀ (j:Nat) u,(encC x)[j]? = some u→wr.cell? ⟨b,off+k * 3+j,none⟩=some u:=fun j u hu=>by
   rw [Nat.add_assoc]
   exact hrow.at_ (flatK_at encC 3 kC cols k x j u hx hu)
  have c0:=key 0 _ rfl
  have c1:=key 1 _ rfl
  have c2:=key 2 _ rfl
  simp only [Nat.add_zero] at c0
  have cp:wr.cell? ⟨px,0,none⟩=some (.string ⟨nm.toArray⟩):=(hb.cell (by exact hpl)).trans HP.out
  have hpr:px<wr.heap.size:=Nat.lt_of_lt_of_le hpl hb.size
  have HX:=Lib.hid hx
  clear hx hrow key hb
  by_cases he:x.nm=nm
  case pos =>
   have hst:(x.nm.toArray == nm.toArray)=true:=by simpa using he
   have hsl:(x.nm == nm)=true:=by simpa using he
   obtain rfl:R=(k:Int):=by rw [←HR.out];exact idx_some HX.out he HNO.out
   subst he
   clear hst hsl
   go_wp2
   go_ret
   exact ⟨rfl,HB.out.alloc HB.out.size _⟩
  have hst:(x.nm.toArray == nm.toArray)=false:=by simpa using he
  have hsl:(x.nm == nm)=false:=by simpa using he
  have HE:=Lib.hid he
  clear he
  go_wp2
  go_roundw
  case rel=>exact ⟨k+1,by go_num,by omega,Lib.hid (fun j hj h=>by
   by_cases hjk:j=k
   ·subst hjk
    obtain ⟨_,e⟩:=List.getElem?_eq_some_iff.1 HX.out
    rw [e];exact HE.out
   ·exact HNO.out j hj (by omega)),HB.out.alloc HB.out.size _⟩
  case measure=>simp [intOf];omega
theorem find_idx (cols:List Cl) (nm:List UInt8):findC cols nm=(max (idxC cols nm) 0,decide (0≤idxC cols nm)):=by
 unfold findC idxC
 split
 ·next i h =>
  have:(0:Int)≤(i:Int):=Int.natCast_nonneg i
  simp
 ·rfl
theorem idx_bd (cols:List Cl) (nm:List UInt8) (h:cols.length≤1000):-1≤idxC cols nm∧idxC cols nm≤1000:=by
 unfold idxC
 split
 ·next i hi =>
  have:=List.findIdx?_eq_some_iff_getElem.1 hi
  obtain ⟨h1,_⟩:=this
  omega
 ·omega
theorem find_ (nm tn:List UInt8) (cols:List Cl) (A:Option Addr) (c:Nat) (key:Int) (only:Bool) {w:World} (hr:Row w 0 A cols.length c (flatK encC cols)) (hl:cols.length≤1000) :
  Calls Tryz.prog 165 #[.agg #[.string ⟨tn.toArray⟩,.slice A cols.length c,.int .i64 key,.bool only],.string ⟨nm.toArray⟩] w fun e w'=>e=.returned (.tuple #[.int .i64 (findC cols nm).1,.bool (findC cols nm).2])∧Below w.heap.size w w':=by
 have HRW:=Lib.hid hr
 obtain ⟨n,hn⟩:∃ n,cols.length=n:=⟨_,rfl⟩
 have hbd:=idx_bd cols nm hl
 have HI:=Lib.hid (fun (w':World) (px:Nat) (h1:w'.cell? ⟨px,0,none⟩=some (.string ⟨nm.toArray⟩)) (h2:px<w'.heap.size) (h3:Row w' 0 A cols.length c (flatK encC cols))=>index_ nm cols A c px h1 h2 h3 hl)
 have HFI:=find_idx cols nm
 obtain ⟨R,hR⟩:∃ R,idxC cols nm=R:=⟨_,rfl⟩
 have HI:=HI.out
 rw [hR] at HFI hbd HI
 rw [hn] at HI ⊢
 rw [HFI]
 have HI:=Lib.hid HI
 have HN:=Lib.hid hn
 have hmf:∀ (fn:Fn) (first cap:Array Value) (w:World),(Instr.makeFunc fn first cap).run Tryz.prog w=.ok (.func fn first cap) w:=fun _ _ _ _=>rfl
 clear hR hn hr HFI
 go_enter Tryz.func165,Tryz.ntmps165
 go_upto_region 1 with fail
 obtain ⟨W1,hW_,hb1,BS,BP⟩:=al2 w 53 9 #[.string ⟨tn.toArray⟩,.slice A n c,.int .i64 key,.bool only] #[.string ⟨nm.toArray⟩]
 rw [←hW_]
 clear hW_
 have hrow:=HRW.out.ext hb1
 rw [HN.out] at hrow
 have q1:=(four BS (Below.refl _ _)).2.1
 have HC:=Lib.hid (HI.out W1 _ (BP.cell 0) BP.lt hrow)
 have HB1:=Lib.hid hb1
 clear BS BP hrow hb1
 go_wp2_with fail
 refine (HC.out).mono ?_
 rintro e w2 ⟨rfl,hb2⟩
 have HB2:=Lib.hid (bch0 HB1.out hb2)
 clear hb2 q1
 go_wp2
 exact bodyPost_ret (v:=.tuple #[.int .i64 (max R 0),.bool (decide (0≤R))]) (by simp [results,Tryz.results165,go_sem];try rfl) rfl ⟨rfl,HB2.out⟩
def colA:Cl:=⟨[97],2,false⟩
theorem okA:nameOk [97]=true:=by decide +kernel
theorem check_ (l:List UInt8) (hl:l.length≤1000) (bc c:Nat) {w:World} (hc:Blk w bc 50 #[.string ⟨#[97]⟩,.int .i64 2,.bool false]) (hcc:1≤c) :
  Calls Tryz.prog 92 #[.agg #[.string ⟨l.toArray⟩,.slice (some ⟨bc,0,none⟩) 1 c,.int .i64 0,.bool false]] w fun e w'=>e=.returned (.int .i64 (if nameOk l=true then 0 else 12))∧Below w.heap.size w w':=by
 obtain ⟨ok,hok⟩:∃ ok,nameOk l=ok:=⟨_,rfl⟩
 rw [hok]
 have HOK:=Lib.hid hok
 have HC:=Lib.hid hc
 clear hok hc
 go_enter Tryz.func92,Tryz.ntmps92
 go_upto_region 2 with fail
 obtain ⟨W1,hW_,hb1,BS,BP⟩:=al2 w 53 288 #[.string ⟨l.toArray⟩,.slice (some ⟨bc,0,none⟩) 1 c,.int .i64 0,.bool false] #[.int .u32 0,.int .i32 0,.int .u32 0,.map none]
 rw [←hW_]
 clear hW_
 have qs:=four BS (Below.refl _ _)
 have HSP:=Lib.hid (sname_ l hl (show Sp W1 (w.heap.size+1) from .inl BP))
 have HBS:=Lib.hid BS
 have HC1:=Lib.hid (HC.out.ext hb1)
 have HB1:=Lib.hid hb1
 have hsz:=BP.lt
 have hbc:bc<w.heap.size:=HC.out.lt
 clear BS BP hb1
 go_wp2_with fail
 refine (HSP.out).mono ?_
 rw [HOK.out]
 rintro e w2 ⟨rfl,hsp,hg2⟩
 have BS2:=HBS.out.grown hg2 (by simp)
 have HC2:=Lib.hid (HC1.out.grown hg2 (by simp;omega))
 have HB2:=Lib.hid (HB1.out.grown hg2 (by omega) (by simp))
 clear qs
 have qs:=four BS2 (Below.refl _ _)
 have HBS2:=Lib.hid BS2
 have HSP2:=Lib.hid hsp
 have hsz2:w.heap.size+1<w2.heap.size:=hsp.lt
 clear BS2 hsp hg2
 cases ok with
 | false =>
  go_wp2
  go_ret
  exact ⟨rfl,HB2.out⟩
 | true =>
  go_wp2_with fail
  go_loopw [25] (fun i wr=>(i=.int .i64 0∧w2=wr)∨(i=.int .i64 1∧Below w.heap.size w wr∧Blk wr w.heap.size 53 #[.string ⟨l.toArray⟩,.slice (some ⟨bc,0,none⟩) 1 c,.int .i64 0,.bool false]∧Blk wr bc 50 #[.string ⟨#[97]⟩,.int .i64 2,.bool false])) (fun i _=>1 - (intOf i).toNat)
  case atStart=>exact .inl ⟨rfl,rfl⟩
  case round =>
   rcases hrel with ⟨rfl,rfl⟩|⟨rfl,hb,hs,hcl⟩
   ·have qc:=HC2.out.three (Below.refl _ _)
    go_upto_region 9 with fail
    obtain ⟨W4,hW_,hb4,BC⟩:=al1 w2 50 #[.string ⟨#[97]⟩,.int .i64 2,.bool false]
    rw [←hW_]
    clear hW_
    have HB4:=Lib.hid (Below.trans HB2.out (Below.mono hb4 HB2.out.size))
    have BS4:=HBS2.out.ext hb4
    have HC4:=Lib.hid (HC2.out.ext hb4)
    have HSP4:=Lib.hid (HSP2.out.ext hb4)
    have hrow:Row W4 0 (some ⟨bc,0,none⟩) [colA].length c (flatK encC [colA]):=Row.of_blk HC4.out (Nat.zero_le _) 1 c hcc
    have HF:=Lib.hid (find_ [97] l [colA] (some ⟨bc,0,none⟩) c 0 false hrow (by decide))
    have qc:=BC.three (Below.refl _ _)
    clear qs
    have qs:=four BS4 (Below.refl _ _)
    have HBC:=Lib.hid BC
    have HBS4:=Lib.hid BS4
    have hsz4:w2.heap.size<W4.heap.size:=BC.lt
    clear BC BS4 hrow hb4
    go_wp2_with fail
    refine (HF.out).mono ?_
    rintro e w5 ⟨rfl,hb5⟩
    have HB5:=Lib.hid (Below.trans HB4.out (Below.mono hb5 HB4.out.size))
    have BS5:=HBS4.out.ext hb5
    have BC5:=HBC.out.ext hb5
    have HC5:=Lib.hid (HC4.out.ext hb5)
    have HSP5:=Lib.hid (HSP4.out.ext hb5)
    have HSN:=Lib.hid (sname_ [97] (by decide) HSP5.out)
    have HSN:=HSN.out
    rw [okA] at HSN
    have HSN:=Lib.hid HSN
    clear qs qc
    have qs:=four BS5 (Below.refl _ _)
    have qc:=BC5.three (Below.refl _ _)
    have hsz5:w2.heap.size<w5.heap.size:=BC5.lt
    have HBS5:=Lib.hid BS5
    have HBC5:=Lib.hid BC5
    clear BS5 BC5 hb5
    unfold findC
    go_wp2_with fail
    refine (HSN.out).mono ?_
    rintro e w6 ⟨rfl,hsp6,hg6⟩
    have HB6:=Lib.hid (HB5.out.grown hg6 HB5.out.size (by simp))
    have BS6:=HBS5.out.grown hg6 (by simp)
    have BC6:=HBC5.out.grown hg6 (by simp;omega)
    have HC6:=Lib.hid (HC5.out.grown hg6 (by simp;omega))
    clear qs qc
    have qs:=four BS6 (Below.refl _ _)
    have qc:=BC6.three (Below.refl _ _)
    have HBS6:=Lib.hid BS6
    clear BS6 BC6 hsp6 hg6
    go_wp2
    go_roundw
    case rel=>exact .inr ⟨rfl,HB6.out,HBS6.out,HC6.out⟩
    case measure=>simp [intOf]
   ·clear qs
    have qs:=four hs (Below.refl _ _)
    have qc:=hcl.three (Below.refl _ _)
    have HB:=Lib.hid hb
    clear hs hcl hb
    go_wp2
    go_ret
    exact ⟨rfl,HB.out⟩
end Go.Proofs.YtgbcdkmjcokclaaGreat.pg
namespace Go.Proofs.YtgbcdkmjcokclaaGreat.tp
open Go.ChangeShapes Go.WideShapes Go.ChangeAt Go.RowKit Go.Proofs.YtgbcdkmjcokclaaGreat.lib
structure GoodS (nm:List UInt8) (cols:List pg.Cl) (key:Nat):Prop where
 nok:pg.nameOk nm=true
 nl:nm.length≤1000
 c1:1≤cols.length
 c6:cols.length≤6
 col:∀ (i:Nat) x,cols[i]? = some x→pg.nameOk x.nm=true∧x.nm.length≤1000∧pg.findC cols x.nm=((i:Int),true)∧1≤x.k∧x.k≤3
 ky:∃ x,cols[key]? = some x∧x.nul=false
theorem col3 {w:World} {b off n c:Nat} {cols:List pg.Cl} (h:Row w 0 (some ⟨b,off,none⟩) n c (flatK pg.encC cols)) {i:Nat} {x:pg.Cl} (hi:cols[i]? = some x) :
  w.cell? ⟨b,off+i * 3,none⟩=some (.string ⟨x.nm.toArray⟩)∧w.cell? ⟨b,off+i * 3+1,none⟩=some (.int .i64 x.k)∧w.cell? ⟨b,off+i * 3+2,none⟩=some (.bool x.nul):=by
 have key:∀ j u,(pg.encC x)[j]? = some u→w.cell? ⟨b,off+i * 3+j,none⟩=some u:=fun j u hu=>by
  rw [Nat.add_assoc];exact h.at_ (flatK_at pg.encC 3 pg.kC cols i x j u hi hu)
 exact ⟨key 0 _ rfl,key 1 _ rfl,key 2 _ rfl⟩
theorem checkG_ (nm:List UInt8) (cols:List pg.Cl) (key:Nat) (only:Bool) (A:Option Addr) (c:Nat) {w:World} (hG:GoodS nm cols key) (hr:Row w 0 A cols.length c (flatK pg.encC cols)) :
  Calls Tryz.prog 92 #[.agg #[.string ⟨nm.toArray⟩,.slice A cols.length c,.int .i64 key,.bool only]] w fun e w'=>e=.returned (.int .i64 0)∧Below w.heap.size w w':=by
 have HG:=Lib.hid hG
 have HR:=Lib.hid hr
 obtain ⟨n,hn⟩:∃ n,cols.length=n:=⟨_,rfl⟩
 have hn1:1≤n:=by rw [←hn];exact hG.c1
 have hn6:n≤6:=by rw [←hn];exact hG.c6
 have HN:=Lib.hid hn
 have HFI:=Lib.hid (fun (w':World) (i:Nat) (x:pg.Cl) (hx:cols[i]? = some x) (h:Row w' 0 A cols.length c (flatK pg.encC cols))=>pg.find_ x.nm nm cols A c key only h (by omega))
 obtain ⟨ky,hky,hkn⟩:=hG.ky
 have hkl:key<n:=by rw [←hn];exact (List.getElem?_eq_some_iff.1 hky).1
 have HKY:=Lib.hid (And.intro hky hkn)
 have HFI:=HFI.out
 rw [hn] at HFI hr ⊢
 have HFI:=Lib.hid HFI
 have HR:=Lib.hid hr
 obtain ⟨b,off,rfl,_,_,hbl⟩:=hr.some_ (by omega)
 clear hn hr hG hky hkn
 go_enter Tryz.func92,Tryz.ntmps92
 go_upto_region 2 with fail
 obtain ⟨W1,hW_,hb1,BS,BP⟩:=al2 w 53 288 #[.string ⟨nm.toArray⟩,.slice (some ⟨b,off,none⟩) n c,.int .i64 key,.bool only] #[.int .u32 0,.int .i32 0,.int .u32 0,.map none]
 rw [←hW_]
 clear hW_
 obtain ⟨gs,hgs⟩:∃ g,w.heap.size=g:=⟨_,rfl⟩
 obtain ⟨gp,hgp⟩:∃ g,w.heap.size+1=g:=⟨_,rfl⟩
 have hsp0:pg.Sp W1 gp:=.inl (hgp ▸ BP)
 have hne:gs≠gp:=by omega
 have HGP:=Lib.hid (show w.heap.size≤gs∧w.heap.size≤gp by omega)
 rw [hgp]
 rw [hgs] at BS ⊢
 have qs:=pg.four BS (Below.refl _ _)
 have HSN:=pg.sname_ nm HG.out.nl hsp0
 rw [HG.out.nok] at HSN
 have HSN:=Lib.hid HSN
 have HB1:=Lib.hid hb1
 have HBS:=Lib.hid BS
 clear BS BP hb1 hsp0 hgp hgs
 go_wp2_with fail
 refine HSN.out.mono ?_
 rintro e w2 ⟨rfl,hsp,hg2⟩
 have BS2:=HBS.out.grown hg2 (by simp;omega)
 have HB2:=Lib.hid (HB1.out.grown hg2 HB1.out.size (fun k hk=>by injection hk with hk;have:=HGP.out;omega))
 clear qs
 have qs:=pg.four BS2 (Below.refl _ _)
 have HBS2:=Lib.hid BS2
 have HSP2:=Lib.hid hsp
 clear BS2 hsp hg2 HSN HBS HB1
 have d1:decide ((n:Int)<1)=false:=by simp;omega
 have d2:decide ((6:Int)<(n:Int))=false:=by simp;omega
 go_wp2_with fail
 go_loopw [25] (fun i wr=>∃ k:Nat,i=.int .i64 k∧k≤n∧Hid (Below w.heap.size w wr)∧Hid (Blk wr gs 53 #[.string ⟨nm.toArray⟩,.slice (some ⟨b,off,none⟩) n c,.int .i64 key,.bool only])∧Hid (pg.Sp wr gp)) (fun i _=>n - (intOf i).toNat)
 case atStart=>exact ⟨0,rfl,Nat.zero_le _,HB2,HBS2,HSP2⟩
 case round =>
  clear HB2 HBS2 HSP2 qs
  obtain ⟨k,rfl,hk,HB,HBS,HSP⟩:=hrel
  rcases Nat.lt_or_ge k n with hlt|hge
  ·have hd:decide ((k:Int)<(n:Int))=true:=by simp;omega
   have hkn:(k:Int)<(n:Int):=by omega
   obtain ⟨x,hx⟩:∃ x,cols[k]? = some x:=⟨_,List.getElem?_eq_getElem (by rw [HN.out];omega)⟩
   have HX:=Lib.hid hx
   obtain ⟨g1,g2,g3,g4,g5⟩:=HG.out.col k x hx
   have HR4:=HR.out.ext HB.out
   have qc:=col3 HR4 hx
   clear HR4 hx
   go_upto_region 9 with fail
   obtain ⟨W4,hW_,hb4,BC⟩:=al1 wr 50 #[.string ⟨x.nm.toArray⟩,.int .i64 x.k,.bool x.nul]
   rw [←hW_]
   clear hW_
   obtain ⟨gc,hgc⟩:∃ g,wr.heap.size=g:=⟨_,rfl⟩
   rw [hgc] at BC ⊢
   have hgc1:gp<gc:=by rw [←hgc];exact HSP.out.lt
   clear hgc
   have HB4:=Lib.hid (Below.trans HB.out (Below.mono hb4 HB.out.size))
   have BS4:=HBS.out.ext hb4
   have HSP4:=Lib.hid (HSP.out.ext hb4)
   have HF:=HFI.out W4 k x HX.out (HR.out.ext HB4.out)
   rw [g3] at HF
   have HF:=Lib.hid HF
   clear qc
   have qc:=BC.three (Below.refl _ _)
   have qs:=pg.four BS4 (Below.refl _ _)
   have HBC:=Lib.hid BC
   have HBS4:=Lib.hid BS4
   clear BC BS4 hb4 HB HBS HSP
   go_wp2_with fail
   refine HF.out.mono ?_
   rintro e w5 ⟨rfl,hb5⟩
   have HB5:=Lib.hid (Below.trans HB4.out (Below.mono hb5 HB4.out.size))
   have BS5:=HBS4.out.ext hb5
   have BC5:=HBC.out.ext hb5
   have HSN:=pg.sname_ x.nm g2 (HSP4.out.ext hb5)
   rw [g1] at HSN
   have HSN:=Lib.hid HSN
   clear qs qc
   have qs:=pg.four BS5 (Below.refl _ _)
   have qc:=BC5.three (Below.refl _ _)
   have HBS5:=Lib.hid BS5
   have HBC5:=Lib.hid BC5
   clear BS5 BC5 hb5 HB4 HBS4 HBC HSP4 HF
   go_wp2_with fail
   refine HSN.out.mono ?_
   rintro e w6 ⟨rfl,hsp6,hg6⟩
   have HB6:=Lib.hid (HB5.out.grown hg6 HB5.out.size (fun k hk=>by injection hk with hk;have:=HGP.out;omega))
   have BS6:=HBS5.out.grown hg6 (by simp;omega)
   have BC6:=HBC5.out.grown hg6 (by simp;omega)
   have HSP6:=Lib.hid hsp6
   clear qs qc
   have qs:=pg.four BS6 (Below.refl _ _)
   have qc:=BC6.three (Below.refl _ _)
   have HBS6:=Lib.hid BS6
   clear BS6 BC6 hsp6 hg6 HB5 HBS5 HBC5 HSN
   have d3:decide (x.k<1)=false:=by simp;omega
   have d4:decide (3<x.k)=false:=by simp;omega
   go_wp2
   go_roundw
   case rel=>exact ⟨k+1,by go_num,by omega,HB6,HBS6,HSP6⟩
   case measure=>simp [intOf];omega
  ·obtain rfl:k=n:=by omega
   have hd:decide ((k:Int)<(k:Int))=false:=by simp
   have qs:=pg.four HBS.out (Below.refl _ _)
   have qk:=col3 (HR.out.ext HB.out) HKY.out.1
   rw [HKY.out.2] at qk
   have hki:(key:Int)<(k:Int):=by omega
   have d5:decide ((key:Int)<0)=false:=by simp
   have d6:decide ((k:Int)≤(key:Int))=false:=by simp;omega
   go_wp2
   go_ret
   exact ⟨rfl,HB.out⟩
theorem results_row_tmp {P:Program} {fn:Func} {p u:Tmp} {ty:TypeId} (h:fn.results=#[.cell p ty,.tmp u]) (tmps:Array Value) (w:World) (g:Nat) (t:TypeId) (cs:Array Value) (fr:Nat × Nat) (d:TypeDesc)
  (hp:tmps.getD p undef=.pointer (some ⟨g,0,none⟩)) (hg:w.heap[g]? = some (.cells cs t fr))
  (hu:P.underlying ty=some d) (hd:(match d with | .struct _ | .array _ _=>true|_=>false)=true) (hi:(P.info? ty).map (·.size)=some cs.size) {y:Value} (hy:tmps.getD u undef=y) :
  (results fn tmps).run P w=.ok (.tuple #[.agg cs,y]) w:=by
 subst hy
 have hp':tmps[p]?.getD undef=.pointer (some ⟨g,0,none⟩):=by simpa using hp
 simp [results,h,hp',asAddr,run_loadVar_row w g t ty cs fr d hg hu hd hi]
theorem results_row_tmp2 {P:Program} {fn:Func} {p u v:Tmp} {ty:TypeId} (h:fn.results=#[.cell p ty,.tmp u,.tmp v]) (tmps:Array Value) (w:World) (g:Nat) (t:TypeId) (cs:Array Value) (fr:Nat × Nat) (d:TypeDesc)
  (hp:tmps.getD p undef=.pointer (some ⟨g,0,none⟩)) (hg:w.heap[g]? = some (.cells cs t fr))
  (hu:P.underlying ty=some d) (hd:(match d with | .struct _ | .array _ _=>true|_=>false)=true) (hi:(P.info? ty).map (·.size)=some cs.size) {y z:Value} (hy:tmps.getD u undef=y) (hz:tmps.getD v undef=z) :
  (results fn tmps).run P w=.ok (.tuple #[.agg cs,y,z]) w:=by
 subst hy hz
 have hp':tmps[p]?.getD undef=.pointer (some ⟨g,0,none⟩):=by simpa using hp
 simp [results,h,hp',asAddr,run_loadVar_row w g t ty cs fr d hg hu hd hi]
def DBE (x:DBd) (er:Int) (w:World) (e:Ending) (w':World):Prop:=∃ cs:List Value,e=.returned (.tuple #[.agg cs.toArray,.int .i64 er])∧eDB.rel w' (fun b=>w.heap.size≤b) cs x∧Below w.heap.size w w'
def colOf (x:pg.Cl):ColD:=(⟨x.nm.toArray⟩,x.k,x.nul)
def schOf (nm:List UInt8) (cols:List pg.Cl) (key:Nat) (only:Bool):Sch:=(⟨nm.toArray⟩,cols.map colOf,(key:Int),only)
theorem cols_row {w:World} {F:Blocks} {A:Option Addr} {n c:Nat} {cols:List pg.Cl} (h:Sl eCol w F A n c (cols.map colOf)):Row w 0 A n c (flatK pg.encC cols)∧cols.length=n:=by
 obtain ⟨css,h1,h2,h3⟩:=h
 have e:css=cols.map pg.encC:=by
  have hl:css.length=cols.length:=by rw [h2.1,List.length_map]
  refine List.ext_getElem? fun i=>?_
  rw [List.getElem?_map]
  cases hx:cols[i]? with
  | none =>
   rw [List.getElem?_eq_none_iff] at hx
   rw [List.getElem?_eq_none (by omega)]
   rfl
  | some y =>
   have hi:=(List.getElem?_eq_some_iff.1 hx).1
   have hc:css[i]? = some css[i]:=List.getElem?_eq_getElem (by omega)
   have hr:=h2.2 i css[i] (colOf y) hc (by rw [List.getElem?_map,hx];rfl)
   rw [hc]
   obtain ⟨_,_,e1,e2,_,_,e3,e4,e5⟩:=hr
   rw [e1,e2,e3,e4,e5]
   rfl
 subst e
 refine ⟨?_,by simpa using h3⟩
 rw [show flatK pg.encC cols=(cols.map pg.encC).flatten from List.flatMap_def ..]
 exact h1.row
theorem OwnE.row {α:Type} {E:Enc α} {t:TypeId} {w:World} {B g:Nat} {F:Blocks} {A:Option Addr} {n c:Nat} {x:List α} (h:OwnE E t w B F A n c x) (hg:(Value.slice A n c).ownBlock=some g):A=some ⟨g,0,none⟩:=by
 obtain ⟨css,h1,_,_⟩:=h
 rcases h1.2 with ⟨z,_⟩|⟨g',cap,cur,z,_⟩
 ·injection z with z;rw [z] at hg;cases hg
 ·injection z with z;rw [z] at hg ⊢;injection hg with hg;rw [←hg]
theorem OwnE.keepX {α:Type} {E:Enc α} {T t:TypeId} {w w':World} {B:Nat} {F:Blocks} {A:Option Addr} {n c:Nat} {x:List α} (h:OwnE E t w B F A n c x) (hT:KeepT T w w') (ht:t≠T) (hk:Keep F w w'):OwnE E t w' B F A n c x:=by
 obtain ⟨css,h1,h2,h3⟩:=h
 exact ⟨css,own_keepT h1 hT ht,h2.keep hk,h3⟩
theorem four_ {w:World} {g:Nat} {t:TypeId} {x0 x1 x2 x3 x4 x5 x6 x7:Value} (h:Blk w g t #[x0,x1,x2,x3,x4,x5,x6,x7]):w.cell? ⟨g,0,none⟩=some x0∧w.cell? ⟨g,1,none⟩=some x1∧w.cell? ⟨g,2,none⟩=some x2∧w.cell? ⟨g,3,none⟩=some x3:=⟨h.cell 0,h.cell 1,h.cell 2,h.cell 3⟩
theorem create_ {w:World} {F FS:Blocks} {cs:List Value} {x:DBd} {A:Option Addr} {c:Nat} {nm:List UInt8} {cols:List pg.Cl} {key:Nat} {only:Bool} (h:eDB.rel w F cs x) (hok:okDB x) (hS:Sl eCol w FS A cols.length c (cols.map colOf)) (hG:GoodS nm cols key)
  (hm:Mono (cmpT ⟨nm.toArray⟩) x.1) (hfree:isG (cmpT ⟨nm.toArray⟩) x.1=false) (hlen:x.1.length<8) (hwk:x.2.1.length=0) :
  Calls Tryz.prog 37 #[.agg cs.toArray,.agg #[.string ⟨nm.toArray⟩,.slice A cols.length c,.int .i64 key,.bool only]] w (DBE (x.1.take (posG (cmpT ⟨nm.toArray⟩) x.1)++(schOf nm cols key only,[])::x.1.drop (posG (cmpT ⟨nm.toArray⟩) x.1),x.2) 0 w):=by
 have HS:=Lib.hid h
 have HSC:=Lib.hid hS
 have HG:=Lib.hid hG
 have HOK:=Lib.hid hok
 have HM:=Lib.hid hm
 have HFR:=Lib.hid hfree
 obtain ⟨p,hp⟩:∃ p,posG (cmpT ⟨nm.toArray⟩) x.1=p:=⟨_,rfl⟩
 have hpl:p≤x.1.length:=by rw [←hp];exact posG_le _ _
 rw [hp]
 have HP:=Lib.hid hp
 obtain ⟨nc,hnc⟩:∃ n,cols.length=n:=⟨_,rfl⟩
 have HNC:=Lib.hid hnc
 rw [hnc]
 obtain ⟨s,hs⟩:∃ s:ByteArray,s=⟨nm.toArray⟩:=⟨_,rfl⟩
 have HSS:=Lib.hid hs
 rw [←hs]
 obtain ⟨nt,hnt⟩:∃ n,x.1.length=n:=⟨_,rfl⟩
 have HNT:=Lib.hid hnt
 obtain ⟨A1,n1,c1,A2,n2,c2,A3,n3,c3,A4,n4,c4,rfl,h1,h2,h3,h4⟩:=eDB_inv h
 have e1:n1=nt:=by rw [←hnt];exact h1.len.symm
 have e2:n2=0:=by have:=h2.len;omega
 subst e1 e2
 rw [hnt] at hpl hlen
 clear h hS hG hok hm hfree hp hnc hs hnt hwk h1 h2 h3 h4
 go_enter Tryz.func37,Tryz.ntmps37
 go_upto_region 1 with fail
 obtain ⟨W,hW_,hb1,BD,BS,BR⟩:=al3 w 43 53 43 #[.slice A1 n1 c1,.slice A2 0 c2,.slice A3 n3 c3,.slice A4 n4 c4] #[.string s,.slice A nc c,.int .i64 key,.bool only] #[.slice none 0 0,.slice none 0 0,.slice none 0 0,.slice none 0 0]
 rw [←hW_]
 clear hW_
 obtain ⟨gd,hgd⟩:∃ g,w.heap.size=g:=⟨_,rfl⟩
 obtain ⟨gs,hgs⟩:∃ g,w.heap.size+1=g:=⟨_,rfl⟩
 obtain ⟨gr,hgr⟩:∃ g,w.heap.size+1+1=g:=⟨_,rfl⟩
 have HGS:=Lib.hid (show w.heap.size≤gd∧w.heap.size≤gs∧w.heap.size≤gr∧gd<gs∧gs<gr by omega)
 rw [hgr] at BR ⊢
 rw [hgs] at BS ⊢
 rw [hgd] at BD ⊢
 have HF:=Lib.hid (tbegun_ (eDB.ext HS.out hb1) HOK.out)
 have hgrW:gr<W.heap.size:=BR.lt
 have hgsW:gs<W.heap.size:=BS.lt
 have hgdW:gd<W.heap.size:=BD.lt
 have HBD:=Lib.hid BD
 have HBS:=Lib.hid BS
 have HBR:=Lib.hid BR
 have HB1:=Lib.hid hb1
 have qd:=four BD (Below.refl _ _)
 clear hgd hgs hgr BD BS BR hb1
 go_wp2_with fail
 refine HF.out.mono ?_
 rintro e w1 ⟨g,rfl,⟨A5,c5,A6,c6,A7,c7,A8,c8,hC⟩,hb2⟩
 have hgW:W.heap.size≤g:=hC.lo
 have HC:=Lib.hid hC
 have HBD1:=Lib.hid (HBD.out.ext hb2)
 have HBS1:=Lib.hid (HBS.out.ext hb2)
 have HBR1:=Lib.hid (HBR.out.ext hb2)
 have HB2:=Lib.hid (HB1.out.trans (Below.mono hb2 HB1.out.size))
 have HSC1:=Lib.hid (HSC.out.ext HB2.out)
 clear qd hC hb2 HF HBD HBS HBR HB1
 have HK:=checkG_ nm cols key only A c HG.out (w:=w1) (by have:=(cols_row HSC1.out).1;exact this)
 rw [←HSS.out,HNC.out] at HK
 have HK:=Lib.hid HK
 have qs:=four HBS1.out (Below.refl _ _)
 go_wp2_with fail
 refine HK.out.mono ?_
 rintro e w2 ⟨rfl,hb3⟩
 have HC2:=Lib.hid (HC.out.ext hb3)
 have HBD2:=Lib.hid (HBD1.out.ext hb3)
 have HBS2:=Lib.hid (HBS1.out.ext hb3)
 have HBR2:=Lib.hid (HBR1.out.ext hb3)
 have HB3:=Lib.hid (HB2.out.trans (Below.mono hb3 HB2.out.size))
 clear qs hb3 HK HC HBD1 HBS1 HBR1 HB2 HSC1
 go_wp2_with fail
 refine fail_ok.mono ?_
 rintro e w3 ⟨rfl,hb4⟩
 have HC3:=Lib.hid (HC2.out.ext hb4)
 have HBD3:=Lib.hid (HBD2.out.ext hb4)
 have HBS3:=Lib.hid (HBS2.out.ext hb4)
 have HBR3:=Lib.hid (HBR2.out.ext hb4)
 have HB4:=Lib.hid (HB3.out.trans (Below.mono hb4 HB3.out.size))
 clear hb4 HC2 HBD2 HBS2 HBR2 HB3
 have HT:=table_ HC3.out ⟨nm.toArray⟩ HOK.out.1 HM.out
 rw [HFR.out,HP.out,←HSS.out] at HT
 have HT:=Lib.hid HT
 have qs:=four HBS3.out (Below.refl _ _)
 go_wp2_with fail
 refine HT.out.mono ?_
 rintro e w4 ⟨rfl,hb5⟩
 have HC4:=Lib.hid (HC3.out.ext hb5)
 have HBD4:=Lib.hid (HBD3.out.ext hb5)
 have HBS4:=Lib.hid (HBS3.out.ext hb5)
 have HBR4:=Lib.hid (HBR3.out.ext hb5)
 have HB5:=Lib.hid (HB4.out.trans (Below.mono hb5 HB4.out.size))
 clear hb5 HC3 HBD3 HBS3 HBR3 HB4 qs HT
 have qs:=four HBS4.out (Below.refl _ _)
 have qd:=four HBD4.out (Below.refl _ _)
 have q7:=HC4.out.blk.cell 7
 have d1:decide ((8:Int)≤(n1:Int))=false:=by simp;omega
 go_upto_region 12 with fail
 clear qs qd q7 d1
 have BG4:=HC4.out.blk
 rw [HNT.out] at BG4
 have D:=fun w' (hS:Blk w' g 150 #[.slice A5 n1 c5,.slice A6 x.2.1.length c6,.slice A7 x.2.2.1.length c7,.slice A8 x.2.2.2.length c8,.int .u32 0,.int .i32 0,.int .u32 0,.int .i64 0]∧Blk w' gs 53 #[.string s,.slice A nc c,.int .i64 key,.bool only])=>(And.intro (hS.1.cell 0) (four hS.2 (Below.refl _ _)))
 have HSB:=Lib.hid (show ∀ w',Below w4.heap.size w4 w'→(Blk w' g 150 #[.slice A5 n1 c5,.slice A6 x.2.1.length c6,.slice A7 x.2.2.1.length c7,.slice A8 x.2.2.2.length c8,.int .u32 0,.int .i32 0,.int .u32 0,.int .i64 0]∧Blk w' gs 53 #[.string s,.slice A nc c,.int .i64 key,.bool only]) from fun w' h=>⟨BG4.ext h,HBS4.out.ext h⟩)
 clear BG4
 refine wp_region_tail (S:=fun w'=>Blk w' g 150 #[.slice A5 n1 c5,.slice A6 x.2.1.length c6,.slice A7 x.2.2.1.length c7,.slice A8 x.2.2.2.length c8,.int .u32 0,.int .i32 0,.int .u32 0,.int .i64 0]∧Blk w' gs 53 #[.string s,.slice A nc c,.int .i64 key,.bool only]) [(0,true),(1,true),(2,true),(3,true),(4,true),(5,true),(6,true),(7,true),(8,true),(9,false),(10,false),(11,false)] [(12,true),(13,true),(14,true),(15,false)] (by kernel_rfl) (by kernel_rfl) (HSB.out _ (Below.refl _ _).drew) ?_
 repeat ((with_reducible refine pG ?_);(first|refine pT ?_|refine pF ?_);try go_frame)
 clear D
 have HSW:=Lib.hid (show eTab.rel w4.drew FS [.string s,.slice A nc c,.int .i64 key,.bool only,.slice none 0 0] (schOf nm cols key only,[]) from by
  have h:=HSC.out.ext (HB5.out.drew)
  rw [HNC.out] at h
  rw [HSS.out]
  exact eTab_mk (x:=(schOf nm cols key only,[])) h (Sl.nil _ _) (.inl rfl))
 have HOT:=Lib.hid (townTable_ HSW.out (show okTab (schOf nm cols key only,[]) from ⟨by simp [schOf];have:=HG.out.c6;omega,by simp,by simp⟩))
 refine pD fun K hK=>?_;go_simp
 refine HOT.out.mono ?_
 rintro e w5 ⟨ct,rfl,hrt,hb6⟩
 have HRT:=Lib.hid hrt
 refine hK.out _ _ (HSB.out _ ((Below.refl _ _).drew.trans hb6)) ?_
 clear hK K HOT HSW hrt
 have hctl:ct.length=5:=eTab.len HRT.out
 have hcto:=eTab.one HRT.out
 obtain ⟨i0,hi0,hy0,hy1,hy2⟩:=info_parts (P:=Tryz.prog) (e:=153) (z:=.agg #[.string ⟨#[]⟩,.slice none 0 0,.int .i64 0,.bool false,.slice none 0 0]) (size:=5) (bytes:=80) (by kernel_rfl)
 have hd45:Below w4.heap.size w4 w5:=(Below.refl _ _).drew.trans hb6
 refine wpPerm_do rfl (wanted_free rfl) (fun K hK=>?_)
 refine wp_slice1d 61 37 153 (.tmp 60) rfl rfl ct rfl i0 _ Tryz.underlying37 hi0 hy0 (by rw [hy1,hctl]) (by rw [hctl];omega) (by rw [hctl];omega) ?_
 have hb7:Below w5.heap.size w5 (w5.alloc (.cells ct.toArray 153)):=(Below.refl _ _).alloc (Nat.le_refl _) _
 refine hK.out _ _ (HSB.out _ (hd45.trans (Below.mono hb7 hd45.size))) ?_
 clear hK K
 have BV:Blk (w5.alloc (.cells ct.toArray 153)) w5.heap.size 153 ct.toArray:=Blk.new _ _ _
 have hd6:=hd45.trans (Below.mono hb7 hd45.size)
 have hs45:=hd45.size
 generalize w5.alloc (.cells ct.toArray 153)=w6 at *
 have HC6:=Lib.hid (HC4.out.ext hd6)
 have HBR6:=Lib.hid (HBR4.out.ext hd6)
 have HB6:=Lib.hid (HB5.out.trans (Below.mono hd6 HB5.out.size))
 have HRT6:=Lib.hid (eTab.ext HRT.out hb7)
 have hg4:g<w4.heap.size:=HC4.out.blk.lt
 have lA:∀ b,A5=some ⟨b,0,none⟩→b<w4.heap.size:=fun b h=>(HC4.out.tab.lt h).2
 have lA2:∀ b,A6=some ⟨b,0,none⟩→b<w4.heap.size:=fun b h=>(HC4.out.wrk.lt h).2
 have hB4:W.heap.size≤w4.heap.size:=Nat.le_of_lt (Nat.lt_of_le_of_lt hgW hg4)
 have hsd:w4.drew.heap.size=w4.heap.size:=rfl
 have HI:=insT (i:=p) (gv:=w5.heap.size) (t:=(schOf nm cols key only,[])) (cs:=ct) HC6.out.tab (eTab.mono HRT6.out (fun b h=>⟨by omega,by omega,fun e=>by have:=lA b e;omega,fun e=>by have:=lA2 b e;omega⟩)) BV (fun b e=>⟨by have:=lA b e;omega,fun hf=>hf.2.2.1 e⟩) (by rw [HNT.out];exact hpl) (by rw [HNT.out];omega) (Nat.le_trans hB4 (Nat.le_trans hs45 (Nat.le_of_lt BV.lt)))
 rw [HNT.out] at HI
 have HI:=Lib.hid HI
 have HD46:=Lib.hid hd6
 clear HRT HRT6 BV hb6 hb7 hd45 hd6
 refine pD fun K hK=>?_;go_simp
 refine HI.out.mono ?_
 rintro e w7 ⟨A',c',rfl,ho,hg⟩
 have HO:=Lib.hid ho
 have hkA:Keep (fun b=>A5≠some ⟨b,0,none⟩) w6 w7:=Keep.grown hg (fun g' h1 h2=>h2 (HC6.out.tab.row (by rw [HNT.out];exact h1)))
 have hBg:∀ b,(Value.slice A5 n1 c5).ownBlock=some b→W.heap.size≤b:=fun b h=>(HC6.out.tab.lt (HC6.out.tab.row (by rw [HNT.out];exact h))).1
 have hgne:A5≠some ⟨g,0,none⟩:=fun e=>(HC6.out.ne g e).2 rfl
 have hWw:w.heap.size≤W.heap.size:=by have:=HGS.out.2.2.1;omega
 have hbw7:Below w.heap.size w w7:=HB6.out.grown hg HB6.out.size (fun k hk=>Nat.le_trans hWw (hBg k hk))
 have BG7:=Blk.keep HC6.out.blk hkA hgne
 have BR7:=Blk.keep HBR6.out hkA (fun e=>by have:=(HC6.out.tab.lt e).1;omega)
 refine hK.out _ _ ⟨Blk.keep (HSB.out w6 HD46.out).1 hkA hgne,Blk.keep (HSB.out w6 HD46.out).2 hkA (fun e=>by have:=(HC6.out.tab.lt e).1;omega)⟩ (wpTail_done ?_)
 clear hK K hg ho HI HSB
 repeat ((with_reducible refine pG ?_);(first|refine pT ?_|refine pF ?_);try go_frame)
 have f0:=BG7.frozen 0
 have q0:=BG7.cell 0
 refine pD fun K hK=>?_;go_simp
 refine hK.out _ _ trivial (wpPerm_done ?_)
 clear hK K f0 q0
 have hg8:=set_grown w7 g 0 (.slice A' (n1+1) c')
 have hkT:=KeepT.blk hg8 BG7
 have hk8:Keep (fun b=>b≠g) w7 (w7.setCell ⟨g,0,none⟩ (.slice A' (n1+1) c')):=Keep.grown hg8 (fun g' h1 h2=>by injection h1 with h1;exact h2 h1.symm)
 have BG8:=BG7.set_ 0 (.slice A' (n1+1) c')
 have BR8:=Blk.keep BR7 hk8 (by omega)
 have hbw8:=hbw7.grown hg8 hbw7.size (fun k hk=>by injection hk with hk;omega)
 have HT8:=Lib.hid (HO.out.keepX hkT (by decide) (hk8.mono (fun b h=>h.2.1)))
 have HW8:=Lib.hid ((HC6.out.wrk.keep hkA (fun b h h'=>(HC6.out.ne b h').1 h) (fun b h=>h.2.2.1)).keep hk8 (HC6.out.ne2) (fun b h=>h.2.1))
 have HH8:=Lib.hid ((HC6.out.hld.keep (hkA.mono (fun b h=>h.2.2.1))).keep (hk8.mono (fun b h=>h.2.1)))
 have HQ8:=Lib.hid ((HC6.out.wai.keep (hkA.mono (fun b h=>h.2.2.1))).keep (hk8.mono (fun b h=>h.2.1)))
 have hgl8:=BR8.lt
 generalize w7.setCell ⟨g,0,none⟩ (.slice A' (n1+1) c')=w8 at *
 have hxl:(x.1.take p++(schOf nm cols key only,[])::x.1.drop p).length=n1+1:=by simp [HNT.out];omega
 have HDB:=Lib.hid (show eDB.rel w8 (fun _=>True) [.slice A' (n1+1) c',.slice A6 x.2.1.length c6,.slice A7 x.2.2.1.length c7,.slice A8 x.2.2.2.length c8] (x.1.take p++(schOf nm cols key only,[])::x.1.drop p,x.2) from
  eDB_mk (x:=(x.1.take p++(schOf nm cols key only,[])::x.1.drop p,x.2)) (HT8.out.sl (fun _ _ _=>trivial) (fun _ _=>trivial)) (HW8.out.loose.sl (fun _ _ _=>trivial) (fun _ _=>trivial)) (HH8.out.sl.mono (fun _ _=>trivial)) (HQ8.out.sl.mono (fun _ _=>trivial)))
 have HOK':=Lib.hid (show okDB (x.1.take p++(schOf nm cols key only,[])::x.1.drop p,x.2) from ⟨by rw [hxl];omega,fun t ht=>by
   rcases List.mem_append.1 ht with ht|ht
   ·exact HOK.out.2.1 t (List.mem_of_mem_take ht)
   ·rcases List.mem_cons.1 ht with rfl|ht
    ·exact ⟨by simp [schOf];have:=HG.out.c6;omega,by simp,by simp⟩
    ·exact HOK.out.2.1 t (List.mem_of_mem_drop ht),HOK.out.2.2⟩)
 have q:=four_ BG8
 clear HT8 HW8 HH8 HQ8 hk8 hg8 hkT hkA BG7 BR7 HO HC6 HBR6 hbw7 BG8
 go_wp2_with fail
 refine (town_ HDB.out HOK'.out).mono ?_
 rintro e9 w9 hO
 obtain ⟨cz,rfl,hr9,hb9⟩:=hO.owned
 clear hO
 have hczl:cz.length=4:=eDB.len hr9
 have hone:=eDB.one hr9
 have hsz9:(Tryz.prog.info? 43).map (·.size)=some cz.length:=by rw [hczl];kernel_rfl
 have BR9:=BR8.ext hb9
 have hth:=Blk.there (o:=0) (n:=4) BR9 (by simp)
 have hrl:gr<w8.heap.size:=hgl8
 have hwr:w.heap.size≤gr:=HGS.out.2.2.1
 have hbz8:=hbw8.trans (Below.mono hb9 hbw8.size)
 have hws:w.heap.size≤w8.heap.size:=hbw8.size
 obtain ⟨B9,hg9⟩:=Blk.lay cz 0 BR9 (by rw [hczl];simp)
 rw [laid_all _ _ (by rw [hczl];rfl)] at B9
 have hbw9:=hbz8.grown hg9 hbz8.size (fun k hk=>by injection hk with hk;omega)
 have HR9:=Lib.hid (eDB.mono (eDB.keep hr9 (Keep.grown hg9 (fun g hg h=>by injection hg with hg;omega))) (G:=fun b=>w.heap.size≤b) (fun b h=>Nat.le_trans hws h))
 clear hr9 hg9 hbz8
 go_wp2_with ((with_reducible show wpList _ _ _ (Oper.mk none (Op.store _ (Operand.tmp 4) _) _ _ _ _::_) _ _);(refine wpList_store_mid rfl 43 _ _ rfl gr 0 cz.toArray rfl rfl ?zs1 ?zt1 (all_oneCell_toArray hone) ?_))
 case zs1=>exact (show cz.toArray.size=4 by simp [hczl]) ▸ hth
 case zt1=>rw [List.size_toArray];exact hsz9
 clear hth BR9
 generalize w9.setCells gr 0 cz=wz at *
 go_wp2
 refine bodyPost_ret (v:=.tuple #[.agg cz.toArray,.int .i64 0]) (results_row_tmp rfl _ _ gr _ _ (0,0) _ rfl B9 Tryz.underlying43 rfl (by rw [List.size_toArray];exact hsz9) rfl) rfl ⟨cz,rfl,HR9.out,hbw9⟩
def okSes (x:DBd):Prop:=∀ y∈x.2.1,-1000≤y.1∧y.1≤1000
theorem begin_ {w:World} {F:Blocks} {cs:List Value} {x:DBd} {s:Int} (h:eDB.rel w F cs x) (hok:okDB x) (hs:0≤s∧s<8) (hm:Mono (cmpW s) x.2.1) (hfree:isG (cmpW s) x.2.1=false) (hse:okSes x) (hlen:x.2.1.length<900) :
  Calls Tryz.prog 12 #[.agg cs.toArray,.int .i64 s] w (DBE (x.1,x.2.1.take (posG (cmpW s) x.2.1)++(s,[],[])::x.2.1.drop (posG (cmpW s) x.2.1),x.2.2) 0 w):=by
 have HS:=Lib.hid h
 have HOK:=Lib.hid hok
 have HM:=Lib.hid hm
 have HFR:=Lib.hid hfree
 have HSE:=Lib.hid hse
 obtain ⟨p,hp⟩:∃ p,posG (cmpW s) x.2.1=p:=⟨_,rfl⟩
 have hpl:p≤x.2.1.length:=by rw [←hp];exact posG_le _ _
 rw [hp]
 have HP:=Lib.hid hp
 obtain ⟨nk,hnk⟩:∃ n,x.2.1.length=n:=⟨_,rfl⟩
 have HNK:=Lib.hid hnk
 obtain ⟨A1,n1,c1,A2,n2,c2,A3,n3,c3,A4,n4,c4,rfl,h1,h2,h3,h4⟩:=eDB_inv h
 rw [hnk] at hpl hlen
 clear h hok hm hfree hp hnk h1 h2 h3 h4 hse
 have d0:decide (s<0)=false:=by simp;omega
 have d8:decide (8≤s)=false:=by simp;omega
 go_enter Tryz.func12,Tryz.ntmps12
 go_upto_region 1 with fail
 obtain ⟨W,hW_,hb1,BD,BR⟩:=al2 w 43 43 #[.slice A1 n1 c1,.slice A2 n2 c2,.slice A3 n3 c3,.slice A4 n4 c4] #[.slice none 0 0,.slice none 0 0,.slice none 0 0,.slice none 0 0]
 rw [←hW_]
 clear hW_
 obtain ⟨gd,hgd⟩:∃ g,w.heap.size=g:=⟨_,rfl⟩
 obtain ⟨gr,hgr⟩:∃ g,w.heap.size+1=g:=⟨_,rfl⟩
 have HGS:=Lib.hid (show w.heap.size≤gd∧w.heap.size≤gr∧gd<gr by omega)
 rw [hgr] at BR ⊢
 rw [hgd] at BD ⊢
 have HF:=Lib.hid (tbegun_ (eDB.ext HS.out hb1) HOK.out)
 have hgrW:gr<W.heap.size:=BR.lt
 have hgdW:gd<W.heap.size:=BD.lt
 have HBD:=Lib.hid BD
 have HBR:=Lib.hid BR
 have HB1:=Lib.hid hb1
 have qd:=four BD (Below.refl _ _)
 clear hgd hgr BD BR hb1
 go_wp2_with fail
 refine HF.out.mono ?_
 rintro e w1 ⟨g,rfl,⟨A5,c5,A6,c6,A7,c7,A8,c8,hC⟩,hb2⟩
 have hgW:W.heap.size≤g:=hC.lo
 have HC:=Lib.hid hC
 have HBR1:=Lib.hid (HBR.out.ext hb2)
 have HB2:=Lib.hid (HB1.out.trans (Below.mono hb2 HB1.out.size))
 clear qd hC hb2 HF HBD HBR HB1
 have HT:=work_ HC.out s (HOK.out.2.2.1) HM.out ⟨by omega,by omega⟩ HSE.out
 rw [HFR.out,HP.out] at HT
 have HT:=Lib.hid HT
 go_wp2_with fail
 refine HT.out.mono ?_
 rintro e w4 ⟨rfl,hb5⟩
 have HC4:=Lib.hid (HC.out.ext hb5)
 have HBR4:=Lib.hid (HBR1.out.ext hb5)
 have HB5:=Lib.hid (HB2.out.trans (Below.mono hb5 HB2.out.size))
 clear hb5 HC HBR1 HB2 HT
 have q1:=HC4.out.blk.cell 1
 rw [HNK.out] at q1
 go_wp2_with fail
 clear q1
 obtain ⟨w6,hW_,hb6,BV⟩:=al1 w4 148 #[.int .i64 s,.slice none 0 0,.slice none 0 0]
 rw [←hW_]
 clear hW_
 have HC6:=Lib.hid (HC4.out.ext hb6)
 have HBR6:=Lib.hid (HBR4.out.ext hb6)
 have HB6:=Lib.hid (HB5.out.trans (Below.mono hb6 HB5.out.size))
 have hg4:g<w4.heap.size:=HC4.out.blk.lt
 have lA2:∀ b,A6=some ⟨b,0,none⟩→b<w4.heap.size:=fun b h=>(HC4.out.wrk.lt h).2
 have hB4:W.heap.size≤w4.heap.size:=Nat.le_of_lt (Nat.lt_of_le_of_lt hgW hg4)
 have HI:=insW (i:=p) (gv:=w4.heap.size) (t:=(s,[],[])) (cs:=[.int .i64 s,.slice none 0 0,.slice none 0 0]) HC6.out.wrk (eWrkT_mk (x:=(s,[],[])) (Sl.nil _ _) (Sl.nil _ _)) BV (fun b e=>⟨by have:=lA2 b e;omega,fun hf=>hf.2.2.2 e⟩) (by rw [HNK.out];exact hpl) (by rw [HNK.out];omega) (Nat.le_trans hB4 (Nat.le_of_lt BV.lt))
 rw [HNK.out] at HI
 have HI:=Lib.hid HI
 clear BV hb6
 refine HI.out.mono ?_
 rintro e w7 ⟨A',c',rfl,ho,hg⟩
 have HO:=Lib.hid ho
 have hkA:Keep (fun b=>A6≠some ⟨b,0,none⟩) w6 w7:=Keep.grown hg (fun g' h1 h2=>h2 (HC6.out.wrk.row (by rw [HNK.out];exact h1)))
 have hBg:∀ b,(Value.slice A6 nk c6).ownBlock=some b→W.heap.size≤b:=fun b h=>(HC6.out.wrk.lt (HC6.out.wrk.row (by rw [HNK.out];exact h))).1
 have hgne:A6≠some ⟨g,0,none⟩:=fun e=>HC6.out.ne2 g e rfl
 have hWw:w.heap.size≤W.heap.size:=by have:=HGS.out.2.1;omega
 have hbw7:Below w.heap.size w w7:=HB6.out.grown hg HB6.out.size (fun k hk=>Nat.le_trans hWw (hBg k hk))
 have BG7:=Blk.keep HC6.out.blk hkA hgne
 have BR7:=Blk.keep HBR6.out hkA (fun e=>by have:=(HC6.out.wrk.lt e).1;omega)
 clear hg ho HI
 have f1:=BG7.frozen 1
 have q1:=BG7.cell 1
 go_upto_region 8 with fail
 clear f1 q1
 have hg8:=set_grown w7 g 1 (.slice A' (nk+1) c')
 have hkT:=KeepT.blk hg8 BG7
 have hk8:Keep (fun b=>b≠g) w7 (w7.setCell ⟨g,1,none⟩ (.slice A' (nk+1) c')):=Keep.grown hg8 (fun g' h1 h2=>by injection h1 with h1;exact h2 h1.symm)
 have BG8:=BG7.set_ 1 (.slice A' (nk+1) c')
 have BR8:=Blk.keep BR7 hk8 (by omega)
 have hbw8:=hbw7.grown hg8 hbw7.size (fun k hk=>by injection hk with hk;omega)
 have HW8:=Lib.hid (HO.out.keepX hkT (by decide) (hk8.mono (fun b h=>h.2.1)))
 have HT8:=Lib.hid ((HC6.out.tab.keep hkA (fun b h h'=>(HC6.out.ne b h).1 h') (fun b h=>h.2.2.2)).keep hk8 (fun b h=>(HC6.out.ne b h).2) (fun b h=>h.2.1))
 have HH8:=Lib.hid ((HC6.out.hld.keep (hkA.mono (fun b h=>h.2.2.2))).keep (hk8.mono (fun b h=>h.2.1)))
 have HQ8:=Lib.hid ((HC6.out.wai.keep (hkA.mono (fun b h=>h.2.2.2))).keep (hk8.mono (fun b h=>h.2.1)))
 have hgl8:=BR8.lt
 generalize w7.setCell ⟨g,1,none⟩ (.slice A' (nk+1) c')=w8 at *
 have hxl:(x.2.1.take p++(s,[],[])::x.2.1.drop p).length=nk+1:=by simp [HNK.out];omega
 have HDB:=Lib.hid (show eDB.rel w8 (fun _=>True) [.slice A5 x.1.length c5,.slice A' (nk+1) c',.slice A7 x.2.2.1.length c7,.slice A8 x.2.2.2.length c8] (x.1,x.2.1.take p++(s,[],[])::x.2.1.drop p,x.2.2) from
  eDB_mk (x:=(x.1,x.2.1.take p++(s,[],[])::x.2.1.drop p,x.2.2)) (HT8.out.sl (fun _ _ _=>trivial) (fun _ _=>trivial)) (HW8.out.loose.sl (fun _ _ _=>trivial) (fun _ _=>trivial)) (HH8.out.sl.mono (fun _ _=>trivial)) (HQ8.out.sl.mono (fun _ _=>trivial)))
 have HOK':=Lib.hid (show okDB (x.1,x.2.1.take p++(s,[],[])::x.2.1.drop p,x.2.2) from ⟨HOK.out.1,HOK.out.2.1,by rw [hxl];omega,fun t ht=>by
   rcases List.mem_append.1 ht with ht|ht
   ·exact HOK.out.2.2.2.1 t (List.mem_of_mem_take ht)
   ·rcases List.mem_cons.1 ht with rfl|ht
    ·exact ⟨by simp,by simp,by simp⟩
    ·exact HOK.out.2.2.2.1 t (List.mem_of_mem_drop ht),HOK.out.2.2.2.2⟩)
 have q:=four_ BG8
 clear HT8 HW8 HH8 HQ8 hk8 hg8 hkT hkA BG7 BR7 HO HC6 HBR6 hbw7 BG8
 go_wp2_with fail
 refine (town_ HDB.out HOK'.out).mono ?_
 rintro e9 w9 hO
 obtain ⟨cz,rfl,hr9,hb9⟩:=hO.owned
 clear hO
 have hczl:cz.length=4:=eDB.len hr9
 have hone:=eDB.one hr9
 have hsz9:(Tryz.prog.info? 43).map (·.size)=some cz.length:=by rw [hczl];kernel_rfl
 have BR9:=BR8.ext hb9
 have hth:=Blk.there (o:=0) (n:=4) BR9 (by simp)
 have hrl:gr<w8.heap.size:=hgl8
 have hwr:w.heap.size≤gr:=HGS.out.2.1
 have hbz8:=hbw8.trans (Below.mono hb9 hbw8.size)
 have hws:w.heap.size≤w8.heap.size:=hbw8.size
 obtain ⟨B9,hg9⟩:=Blk.lay cz 0 BR9 (by rw [hczl];simp)
 rw [laid_all _ _ (by rw [hczl];rfl)] at B9
 have hbw9:=hbz8.grown hg9 hbz8.size (fun k hk=>by injection hk with hk;omega)
 have HR9:=Lib.hid (eDB.mono (eDB.keep hr9 (Keep.grown hg9 (fun g hg h=>by injection hg with hg;omega))) (G:=fun b=>w.heap.size≤b) (fun b h=>Nat.le_trans hws h))
 clear hr9 hg9 hbz8
 go_wp2_with ((with_reducible show wpList _ _ _ (Oper.mk none (Op.store _ (Operand.tmp 4) _) _ _ _ _::_) _ _);(refine wpList_store_mid rfl 43 _ _ rfl gr 0 cz.toArray rfl rfl ?zs1 ?zt1 (all_oneCell_toArray hone) ?_))
 case zs1=>exact (show cz.toArray.size=4 by simp [hczl]) ▸ hth
 case zt1=>rw [List.size_toArray];exact hsz9
 clear hth BR9
 generalize w9.setCells gr 0 cz=wz at *
 go_wp2
 refine bodyPost_ret (v:=.tuple #[.agg cz.toArray,.int .i64 0]) (results_row_tmp rfl _ _ gr _ _ (0,0) _ rfl B9 Tryz.underlying43 rfl (by rw [List.size_toArray];exact hsz9) rfl) rfl ⟨cz,rfl,HR9.out,hbw9⟩
end Go.Proofs.YtgbcdkmjcokclaaGreat.tp
namespace Go.Proofs.YtgbcdkmjcokclaaGreat.lk
open Go.ChangeShapes Go.WideShapes Go.ChangeAt Go.RowKit Go.Proofs.YtgbcdkmjcokclaaGreat.lib
structure Hd where
 s:Int
 t:ByteArray
 x:Bool
def Hd.arr (h:Hd):Array Value:=#[.int .i64 h.s,.string h.t,.bool h.x]
def Hd.cells (h:Hd):List Value:=[.int .i64 h.s,.string h.t,.bool h.x]
def cellsH (hs:List Hd):List Value:=hs.flatMap Hd.cells
structure Lk where
 hs:List Hd
 ws:List Hd
def mineB (h o:Hd):Bool:=o.s == h.s && o.t == h.t
def agB (h o:Hd):Bool:=h.s != o.s && (h.t == o.t && (h.x || o.x))
def woL (l:List Hd) (s:Int):List Hd:=l.filter fun o=>o.s != s
def hasB (L:Lk) (h:Hd):Bool:=match L.hs.findIdx? (mineB h) with
 | some i=>(match L.hs[i]? with|some o=>o.x || !h.x|none=>false)
 | none=>false
def freeB (L:Lk) (h:Hd):Bool:=hasB L h || !L.hs.any (agB h)
def askL (L:Lk) (h:Hd):Lk :=
 if freeB L h=false then ⟨L.hs,woL L.ws h.s++[h]⟩
 else if hasB L h=true then ⟨L.hs,woL L.ws h.s⟩
 else match L.hs.findIdx? (mineB h) with
  | some i=>⟨L.hs.set i h,woL L.ws h.s⟩
  | none=>⟨L.hs++[h],woL L.ws h.s⟩
def freeL (L:Lk) (s:Int):Lk:=⟨woL L.hs s,woL L.ws s⟩
theorem cellsH_append (a b:List Hd):cellsH (a++b)=cellsH a++cellsH b:=by simp [cellsH]
theorem cellsH_one (h:Hd):cellsH [h]=h.cells:=by simp [cellsH]
theorem cellsH_len:∀ l:List Hd,(cellsH l).length=l.length * 3
 | []=>rfl
 | h::r=>by
  have ih:=cellsH_len r
  have e:cellsH (h::r)=h.cells++cellsH r:=rfl
  rw [e,List.length_append,ih,List.length_cons]
  show 3+r.length * 3=_
  omega
theorem cellsH_at:∀ (l:List Hd) (i:Nat) (o:Hd),l[i]? = some o→(cellsH l)[i * 3]? = some (.int .i64 o.s)∧(cellsH l)[i * 3+1]? = some (.string o.t)∧(cellsH l)[i * 3+2]? = some (.bool o.x)
 | [],i,o,h=>by cases h
 | y::r,0,o,h=>by
  injection h with h
  subst h
  exact ⟨rfl,rfl,rfl⟩
 | y::r,i+1,o,h=>by
  have ih:=cellsH_at r i o h
  have e:cellsH (y::r)=y.cells++cellsH r:=rfl
  have e1:(i+1) * 3=3+i * 3:=by omega
  have e3:y.cells.length=3:=rfl
  rw [e,e1]
  refine ⟨?_,?_,?_⟩
  ·rw [List.getElem?_append_right (by omega),e3];simpa using ih.1
  ·rw [List.getElem?_append_right (by omega),e3,show 3+i * 3+1 - 3=i * 3+1 by omega];exact ih.2.1
  ·rw [List.getElem?_append_right (by omega),e3,show 3+i * 3+2 - 3=i * 3+2 by omega];exact ih.2.2
theorem one_cells (l:List Hd):∀ u∈cellsH l,u.oneCell'=true:=by
 intro u hu
 unfold cellsH at hu
 rw [List.mem_flatMap] at hu
 obtain ⟨x,_,hx⟩:=hu
 simp [Hd.cells] at hx
 rcases hx with rfl|rfl|rfl <;> rfl
def Hs (w:World) (A:Option Addr) (l:List Hd):Prop :=
 (A=none∧l=[])∨∃ b,A=some ⟨b,0,none⟩∧b<w.heap.size∧∀ (i:Nat) u,(cellsH l)[i]? = some u→w.cell? ⟨b,i,none⟩=some u
theorem Hs.below {w w':World} {B:Nat} {A:Option Addr} {l:List Hd} (h:Hs w A l) (hb:Below B w w') (hB:w.heap.size≤B):Hs w' A l:=by
 rcases h with h|⟨b,e,hlt,hc⟩
 ·exact .inl h
 ·exact .inr ⟨b,e,Nat.lt_of_lt_of_le hlt hb.size,fun i u hu=>(hb.cell (Nat.lt_of_lt_of_le hlt hB)).trans (hc i u hu)⟩
theorem Hs.ext {w w':World} {A:Option Addr} {l:List Hd} (h:Hs w A l) (hb:Below w.heap.size w w'):Hs w' A l:=h.below hb (Nat.le_refl _)
theorem Hs.grown {w w':World} {row:Option Nat} {A:Option Addr} {l:List Hd} (h:Hs w A l) (hg:w.grownBy w' row) (hr:∀ b,A=some ⟨b,0,none⟩→some b≠row):Hs w' A l:=by
 rcases h with h|⟨b,e,hlt,hc⟩
 ·exact .inl h
 ·exact .inr ⟨b,e,Nat.lt_of_lt_of_le hlt hg.size,fun i u hu=>(World.cell?_of_block (hg.block b hlt (hr b e))).trans (hc i u hu)⟩
theorem Hs.at_ {w:World} {b:Nat} {l:List Hd} (h:Hs w (some ⟨b,0,none⟩) l) {i:Nat} {o:Hd} (hi:l[i]? = some o) :
  w.cell? ⟨b,i * 3,none⟩=some (.int .i64 o.s)∧w.cell? ⟨b,i * 3+1,none⟩=some (.string o.t)∧w.cell? ⟨b,i * 3+2,none⟩=some (.bool o.x):=by
 obtain ⟨h1,h2,h3⟩:=cellsH_at l i o hi
 rcases h with h|⟨b',e,hlt,hc⟩
 ·cases h.1
 ·injection e with e
  injection e with e
  subst e
  exact ⟨hc _ _ h1,hc _ _ h2,hc _ _ h3⟩
theorem Hs.some_ {w:World} {A:Option Addr} {l:List Hd} (h:Hs w A l) (hn:0<l.length):∃ b,A=some ⟨b,0,none⟩∧b<w.heap.size:=by
 rcases h with h|⟨b,e,hlt,hc⟩
 ·rw [h.2] at hn;cases hn
 ·exact ⟨b,e,hlt⟩
theorem Hs.nil (w:World):Hs w none []:=.inl ⟨rfl,rfl⟩
theorem own_slice {w:World} {base:Nat} {t:TypeId} {size n:Nat} {v:Value} {xs:List Value} (h:w.ownsRow base t size v n xs):∃ A c,v=.slice A n c:=by
 rcases h.2 with ⟨rfl,rfl⟩|⟨g,cap,cur,rfl,_⟩
 ·exact ⟨none,0,rfl⟩
 ·exact ⟨_,cap,rfl⟩
theorem own_ext {w w':World} {base:Nat} {e:TypeId} {size n:Nat} {v:Value} {xs:List Value} (h:w.ownsRow base e size v n xs) (hb:Below w.heap.size w w'):w'.ownsRow base e size v n xs:=by
 refine h.kept (w':=w') (row:=none) ⟨hb.os,hb.tape,hb.output,hb.size,fun k hk _=>hb.block k hk⟩ ?_
 cases ho:v.ownBlock with
 | none=>exact .inl rfl
 | some b=>exact .inr (by simp)
theorem hs_of_own {w:World} {base:Nat} {t:TypeId} {A:Option Addr} {n c:Nat} {l:List Hd} (h:w.ownsRow base t 3 (.slice A n c) n (cellsH l)):Hs w A l:=by
 rcases h.2 with ⟨e,h0⟩|⟨g,cap,cur,e,hg,hgg,_,_,_,_⟩
 ·injection e with e1 e2 e3
  refine .inl ⟨e1,?_⟩
  have:=h.1
  rw [cellsH_len,h0] at this
  exact List.length_eq_zero_iff.1 (by omega)
 ·injection e with e1 e2 e3
  subst e1
  refine .inr ⟨g,rfl,(Array.getElem?_eq_some_iff.1 hgg).1,fun i u hu=>?_⟩
  have hi:i<(cellsH l).length:=(List.getElem?_eq_some_iff.1 hu).1
  rw [h.1] at hi
  rw [h.cellAt i hi]
  exact hu
def LkR (w:World) (v:Value) (L:Lk):Prop:=∃ A n c A' n' c',v=.agg #[.slice A n c,.slice A' n' c']∧L.hs.length=n∧Hs w A L.hs∧L.ws.length=n'∧Hs w A' L.ws
theorem LkR.ext {w w':World} {v:Value} {L:Lk} (h:LkR w v L) (hb:Below w.heap.size w w'):LkR w' v L:=by
 obtain ⟨A,n,c,A',n',c',e,h1,h2,h3,h4⟩:=h
 exact ⟨A,n,c,A',n',c',e,h1,h2.ext hb,h3,h4.ext hb⟩
theorem beqBA (a b:ByteArray):(a == b)=true↔a=b:=by
 constructor
 ·intro h
  apply ByteArray.ext
  exact eq_of_beq (α:=Array UInt8) h
 ·rintro rfl
  exact beq_self_eq_true a.data
theorem tl_beq (a b:ByteArray):(a.toList == b.toList)=(a == b):=by
 rw [Bool.eq_iff_iff,beqBA,beq_iff_eq,ByteArray.toList_eq,ByteArray.toList_eq]
 exact ⟨fun h=>bytes_inj h,fun h=>by rw [h]⟩
theorem against_ (h o:Hd) (w:World):Calls Tryz.prog 213 #[.agg h.arr,.agg o.arr] w fun e w'=>e=.returned (.bool (agB h o))∧Below w.heap.size w w':=by
 obtain ⟨hs,ht,hx⟩:=h
 obtain ⟨os,ot,ox⟩:=o
 simp only [Hd.arr]
 obtain ⟨p,hp⟩:∃ p,(hs != os)=p:=⟨_,rfl⟩
 obtain ⟨q,hq⟩:∃ q,(ht == ot)=q:=⟨_,rfl⟩
 have e:agB ⟨hs,ht,hx⟩ ⟨os,ot,ox⟩=(p && (q && (hx || ox))):=by simp only [agB,hp,hq]
 rw [e]
 rw [←tl_beq] at hq
 clear e
 go_enter Tryz.func213,Tryz.ntmps213
 cases p <;> cases q <;> cases hx <;> cases ox <;> (go_wp2;go_ret;exact ⟨rfl,((Below.refl _ _).alloc (Nat.le_refl _) _).alloc (by simp) _⟩)
theorem mine1 (h o:Hd) (b:Nat) (w:World) (hb:Blk w b 196 h.arr) :
  Calls Tryz.prog 236 #[.agg o.arr,.pointer (some ⟨b,0,none⟩)] w fun e w'=>e=.returned (.bool (mineB h o))∧Below w.heap.size w w':=by
 obtain ⟨hs,ht,hx⟩:=h
 obtain ⟨os,ot,ox⟩:=o
 simp only [Hd.arr] at hb ⊢
 obtain ⟨p,hp⟩:∃ p,(os == hs)=p:=⟨_,rfl⟩
 obtain ⟨q,hq⟩:∃ q,(ot == ht)=q:=⟨_,rfl⟩
 have e:mineB ⟨hs,ht,hx⟩ ⟨os,ot,ox⟩=(p && q):=by simp only [mineB,hp,hq]
 rw [e]
 rw [←tl_beq] at hq
 clear e
 have q3:=hb.three (Below.refl _ _)
 have hlt:=hb.lt
 go_enter Tryz.func236,Tryz.ntmps236
 cases p <;> cases q <;> (go_wp2;go_ret;exact ⟨rfl,(Below.refl _ _).alloc (Nat.le_refl _) _⟩)
def idxI (p:Hd→Bool) (l:List Hd):Int:=match l.findIdx? p with|some i=>i|none=>-1
def IdxP (p:Hd→Bool) (l:List Hd) (w:World) (e:Ending) (w':World):Prop:=e=.returned (.int .i64 (idxI p l))∧Below w.heap.size w w'
theorem find_none {α:Type} (p:α→Bool):∀ (l:List α),(∀ (j:Nat) x,l[j]? = some x→p x=false)→l.findIdx? p=none
 | [],_=>rfl
 | x::r,h=>by
  have h0:=h 0 x rfl
  rw [List.findIdx?_cons,h0]
  have ih:=find_none p r (fun j y hy=>h (j+1) y hy)
  rw [ih];rfl
theorem find_some {α:Type} (p:α→Bool):∀ (l:List α) (k:Nat) (y:α),l[k]? = some y→p y=true→(∀ (j:Nat) x,j<k→l[j]? = some x→p x=false)→l.findIdx? p=some k
 | [],k,y,h,_,_=>by cases h
 | x::r,0,y,h,hp,_=>by
  injection h with h
  subst h
  rw [List.findIdx?_cons,hp];rfl
 | x::r,k+1,y,h,hp,hj=>by
  have h0:=hj 0 x (by omega) rfl
  rw [List.findIdx?_cons,h0]
  have ih:=find_some p r k y h hp (fun j z hz hy=>hj (j+1) z (by omega) hy)
  rw [ih];rfl
theorem indexMine (h:Hd) (b:Nat) (l:List Hd) (A:Option Addr) (n c:Nat) (w:World) (hl:l.length=n) (hn:n≤100000) (hr:Hs w A l) (hb:Blk w b 196 h.arr) :
  Calls Tryz.prog 235 #[.slice A n c,.func (.func 236) #[] #[.pointer (some ⟨b,0,none⟩)]] w (IdxP (mineB h) l w):=by
 have HL:=Lib.hid hl
 clear hl
 go_enter Tryz.func235,Tryz.ntmps235
 go_wp2
 go_loopw [5,8] (fun _ i w'=>∃ k:Nat,Below w.heap.size w w'∧k≤n∧i=.int .i64 k∧Hid (∀ j x,j<k→l[j]? = some x→mineB h x=false)) (fun _ i _=>n - (intOf i).toNat)
 case atStart=>exact ⟨0,Below.refl _ _,Nat.zero_le _,rfl,Lib.hid (fun j x h=>absurd h (by omega))⟩
 case round =>
  obtain ⟨k,hbw,hk,rfl,HK⟩:=hrel
  rcases Nat.lt_or_ge k n with hlt|hge
  ·have hd:decide ((k:Int)<(n:Int))=true:=by simp;omega
   obtain ⟨x,hx⟩:∃ x,l[k]? = some x:=⟨_,List.getElem?_eq_getElem (by rw [HL.out];exact hlt)⟩
   obtain ⟨g,rfl,hg⟩:=hr.some_ (by rw [HL.out];omega)
   have q:=(hr.ext hbw).at_ hx
   have HX:=Lib.hid hx
   clear hx
   go_wp2_with fail
   refine (mine1 h x b _ (hb.ext hbw)).mono ?_
   rintro e w1 ⟨rfl,hb1⟩
   obtain ⟨p,hp⟩:∃ p,mineB h x=p:=⟨_,rfl⟩
   rw [hp]
   have HP:=Lib.hid hp
   clear hp
   cases p with
   | true =>
    go_wp2
    go_ret
    refine ⟨?_,Below.trans hbw (Below.mono hb1 hbw.size)⟩
    unfold idxI;rw [find_some (mineB h) l k x HX.out HP.out HK.out];rfl
   | false =>
    go_wp2
    go_roundw
    case rel =>
     refine ⟨k+1,Below.trans hbw (Below.mono hb1 hbw.size),by omega,by go_num,Lib.hid (fun j y hj hy=>?_)⟩
     by_cases hjk:j=k
     ·subst hjk
      rw [HX.out] at hy
      injection hy with hy
      rw [←hy];exact HP.out
     ·exact HK.out j y (by omega) hy
    case measure=>simp [intOf];omega
  ·have hd:decide ((k:Int)<(n:Int))=false:=by simp;omega
   go_wp2
   go_ret
   refine ⟨?_,hbw⟩
   unfold idxI;rw [find_none (mineB h) l (fun j x hj=>HK.out j x (by have:=(List.getElem?_eq_some_iff.1 hj).1;have:=HL.out;omega) hj)];rfl
theorem indexAg (h:Hd) (l:List Hd) (A:Option Addr) (n c:Nat) (w:World) (hl:l.length=n) (hn:n≤100000) (hr:Hs w A l) :
  Calls Tryz.prog 235 #[.slice A n c,.func (.func 213) #[.agg h.arr] #[]] w (IdxP (agB h) l w):=by
 have HL:=Lib.hid hl
 clear hl
 go_enter Tryz.func235,Tryz.ntmps235
 go_wp2
 go_loopw [5,8] (fun _ i w'=>∃ k:Nat,Below w.heap.size w w'∧k≤n∧i=.int .i64 k∧Hid (∀ j x,j<k→l[j]? = some x→agB h x=false)) (fun _ i _=>n - (intOf i).toNat)
 case atStart=>exact ⟨0,Below.refl _ _,Nat.zero_le _,rfl,Lib.hid (fun j x h=>absurd h (by omega))⟩
 case round =>
  obtain ⟨k,hbw,hk,rfl,HK⟩:=hrel
  rcases Nat.lt_or_ge k n with hlt|hge
  ·have hd:decide ((k:Int)<(n:Int))=true:=by simp;omega
   obtain ⟨x,hx⟩:∃ x,l[k]? = some x:=⟨_,List.getElem?_eq_getElem (by rw [HL.out];exact hlt)⟩
   obtain ⟨g,rfl,hg⟩:=hr.some_ (by rw [HL.out];omega)
   have q:=(hr.ext hbw).at_ hx
   have HX:=Lib.hid hx
   clear hx
   go_wp2_with fail
   refine (against_ h x _).mono ?_
   rintro e w1 ⟨rfl,hb1⟩
   obtain ⟨p,hp⟩:∃ p,agB h x=p:=⟨_,rfl⟩
   rw [hp]
   have HP:=Lib.hid hp
   clear hp
   cases p with
   | true =>
    go_wp2
    go_ret
    refine ⟨?_,Below.trans hbw (Below.mono hb1 hbw.size)⟩
    unfold idxI;rw [find_some (agB h) l k x HX.out HP.out HK.out];rfl
   | false =>
    go_wp2
    go_roundw
    case rel =>
     refine ⟨k+1,Below.trans hbw (Below.mono hb1 hbw.size),by omega,by go_num,Lib.hid (fun j y hj hy=>?_)⟩
     by_cases hjk:j=k
     ·subst hjk
      rw [HX.out] at hy
      injection hy with hy
      rw [←hy];exact HP.out
     ·exact HK.out j y (by omega) hy
    case measure=>simp [intOf];omega
  ·have hd:decide ((k:Int)<(n:Int))=false:=by simp;omega
   go_wp2
   go_ret
   refine ⟨?_,hbw⟩
   unfold idxI;rw [find_none (agB h) l (fun j x hj=>HK.out j x (by have:=(List.getElem?_eq_some_iff.1 hj).1;have:=HL.out;omega) hj)];rfl
theorem containsAg (h:Hd) (l:List Hd) (A:Option Addr) (n c:Nat) (w:World) (hl:l.length=n) (hn:n≤100000) (hr:Hs w A l) :
  Calls Tryz.prog 212 #[.slice A n c,.func (.func 213) #[.agg h.arr] #[]] w fun e w'=>e=.returned (.bool (l.any (agB h)))∧Below w.heap.size w w':=by
 have e:l.any (agB h)=(match l.findIdx? (agB h) with|some i=>true|none=>false):=by
  clear hr hl
  induction l with
  | nil=>rfl
  | cons x r ih =>
   rw [List.any_cons,List.findIdx?_cons,ih]
   cases agB h x with
   | true=>rfl
   | false =>
    simp only [Bool.false_or,Bool.false_eq_true,if_false]
    cases r.findIdx? (agB h) <;> rfl
 rw [e]
 clear e
 have H:=indexAg h l A n c w hl hn hr
 unfold IdxP idxI at H
 obtain ⟨q,hq⟩:∃ q,l.findIdx? (agB h)=q:=⟨_,rfl⟩
 rw [hq] at H ⊢
 clear hq
 go_enter Tryz.func212,Tryz.ntmps212
 go_wp2_with fail
 refine H.mono ?_
 rintro e w1 ⟨rfl,hb1⟩
 cases q with
 | some i =>
  go_wp2
  go_ret
  exact ⟨ret_bool (by simp),hb1⟩
 | none =>
  go_wp2
  go_ret
  exact ⟨rfl,hb1⟩
theorem mine_ (h:Hd) (A A':Option Addr) (n c n' c':Nat) (l:List Hd) (w:World) (hl:l.length=n) (hn:n≤100000) (hr:Hs w A l) :
  Calls Tryz.prog 211 #[.agg #[.slice A n c,.slice A' n' c'],.agg h.arr] w (IdxP (mineB h) l w):=by
 go_enter Tryz.func211,Tryz.ntmps211
 obtain ⟨hs,ht,hx⟩:=h
 simp only [Hd.arr]
 go_wp2_with fail
 obtain ⟨W,hW_,hbW,B1,B2⟩:=al2 w 41 196 #[.slice A n c,.slice A' n' c'] #[.int .i64 hs,.string ht,.bool hx]
 rw [←hW_]
 clear hW_
 have q1:=B1.cell 0
 go_wp2_with fail
 refine (indexMine ⟨hs,ht,hx⟩ (w.heap.size+1) l A n c _ hl hn (hr.ext hbW) B2).mono ?_
 rintro e w1 ⟨rfl,hb1⟩
 go_wp2
 go_ret
 exact ⟨rfl,Below.trans hbW (Below.mono hb1 hbW.size)⟩
def OwnP (l:List Hd) (n:Nat) (w:World) (r:Ending) (w':World):Prop:=∃ A c,r=.returned (.slice A n c)∧w'.ownsRow w.heap.size 196 3 (.slice A n c) n (cellsH l)∧Below w.heap.size w w'
theorem clone_ (l:List Hd) (A:Option Addr) (n c:Nat) (w:World) (hl:l.length=n) (hn:n≤100000) (hr:Hs w A l) :
  Calls Tryz.prog 69 #[.slice A n c] w (OwnP l n w):=by
 have heq:=fun W=>Lib.run_eql_slice_nil (P:=Tryz.prog) W 39 196 A n c 0 0 Tryz.underlying39
 have HL:=Lib.hid hl
 clear hl
 rcases hr with ⟨rfl,rfl⟩|⟨g,rfl,hlt,hcl⟩
 ·have h0:n=0:=HL.out.symm
  subst h0
  go_enter Tryz.func69,Tryz.ntmps69
  go_wp2
  go_ret
  exact ⟨none,0,rfl,World.ownsRow_nil _ _ _ _,Below.refl _ _⟩
 ·obtain ⟨i0,hi,hz0,hz1,hz2⟩:=info_parts (P:=Tryz.prog) (e:=196) (z:=.agg #[.int .i64 0,.string ⟨#[]⟩,.bool false]) (size:=3) (bytes:=32) (by kernel_rfl)
  have HC:=Lib.hid hcl
  clear hcl
  go_enter Tryz.func69,Tryz.ntmps69
  go_wp2_with (at_builtin;refine wpList_append_own _ rfl (.tmp 5) (.tmp 6) 39 rfl w.heap.size 196 i0 _ 3 32 Tryz.underlying39 hi hz0 hz1 hz2 rfl (by decide) _ _ _ rfl (World.ownsRow_made w #[] 0 (Nat.le_refl _) (Nat.zero_le _) rfl) ⟨g,0,none⟩ n c (cellsH l) rfl ?c0 ?c1 ?c2 ?c3 ?c4 ?c5 ?_)
  case c0=>rw [cellsH_len,HL.out]
  case c1 =>
   intro j u hu
   have:=HC.out j u hu
   rw [Addr.add_lit,Nat.zero_add]
   exact (((Below.refl w.heap.size w).alloc (Nat.le_refl _) _).cell (p:=⟨g,j,none⟩) hlt).trans this
  case c2=>exact one_cells l
  case c3=>unfold maxLen;omega
  case c4=>omega
  case c5=>simp
  intro v' w3 hown3 hgrow3 _
  obtain ⟨A',c',rfl⟩:=own_slice hown3
  go_wp2
  go_ret
  exact ⟨A',c',by simp,by simpa using hown3,((Below.refl _ _).alloc (Nat.le_refl _) _).grown hgrow3 (by simp) (fun k hk=>by simp [Value.ownBlock] at hk;omega)⟩
theorem woL_snoc (l:List Hd) (k:Nat) (x:Hd) (s:Int) (h:l[k]? = some x):woL (l.take (k+1)) s=if (x.s != s)=true then woL (l.take k) s++[x] else woL (l.take k) s:=by
 have hl:=(List.getElem?_eq_some_iff.1 h).1
 have e:l.take (k+1)=l.take k++[x]:=by
  rw [List.take_add_one,h];rfl
 unfold woL
 rw [e,List.filter_append]
 by_cases hx:(x.s != s)=true
 ·rw [if_pos hx,List.filter_cons_of_pos (by exact hx)];rfl
 ·rw [if_neg hx,List.filter_cons_of_neg (by exact hx)];simp
theorem woL_len (l:List Hd) (s:Int):(woL l s).length≤l.length:=List.length_filter_le _ _
theorem three_at {w:World} {g:Nat} {t:TypeId} {x y z:Value} (h:Blk w g t #[x,y,z]):∀ j u,[x,y,z][j]? = some u→w.cell? ((⟨g,0,none⟩:Addr).add j)=some u:=by
 intro j u hu
 have q:=h.three (Below.refl _ _)
 match j,hu with
 | 0,hu=>injection hu with hu;subst hu;exact q.1
 | 1,hu=>injection hu with hu;subst hu;exact q.2.1
 | 2,hu=>injection hu with hu;subst hu;exact q.2.2
theorem own_base {w:World} {base base':Nat} {e:TypeId} {size n:Nat} {v:Value} {xs:List Value} (h:w.ownsRow base' e size v n xs) (hb:base≤base'):w.ownsRow base e size v n xs:=by
 refine ⟨h.1,?_⟩
 rcases h.2 with h2|⟨g,cap,cur,e,h3,h4⟩
 ·exact .inl h2
 ·exact .inr ⟨g,cap,cur,e,Nat.le_trans hb h3,h4⟩
theorem without_ (l:List Hd) (A:Option Addr) (n c:Nat) (s:Int) (w:World) (hl:l.length=n) (hn:n≤100000) (hr:Hs w A l) :
  Calls Tryz.prog 214 #[.slice A n c,.int .i64 s] w (OwnP (woL l s) (woL l s).length w):=by
 have HL:=Lib.hid hl
 clear hl
 obtain ⟨i0,hi,hz0,hz1,hz2⟩:=info_parts (P:=Tryz.prog) (e:=196) (z:=.agg #[.int .i64 0,.string ⟨#[]⟩,.bool false]) (size:=3) (bytes:=32) (by kernel_rfl)
 go_enter Tryz.func214,Tryz.ntmps214
 go_wp2
 go_loopw [5,10] (fun out i wr=>∃ (k m:Nat),Below w.heap.size w wr∧k≤n∧i=.int .i64 k∧m≤k∧wr.ownsRow w.heap.size 196 3 out m (cellsH (woL (l.take k) s))) (fun _ i _=>n - (intOf i).toNat)
 case atStart=>exact ⟨0,0,Below.refl _ _,Nat.zero_le _,rfl,Nat.le_refl _,World.ownsRow_nil _ _ _ _⟩
 case round =>
  obtain ⟨k,m,hbw,hk,rfl,hm,hown⟩:=hrel
  rcases Nat.lt_or_ge k n with hlt|hge
  ·have hd:decide ((k:Int)<(n:Int))=true:=by simp;omega
   obtain ⟨x,hx⟩:∃ x,l[k]? = some x:=⟨_,List.getElem?_eq_getElem (by rw [HL.out];exact hlt)⟩
   obtain ⟨g,rfl,hg⟩:=hr.some_ (by rw [HL.out];omega)
   have q:=(hr.ext hbw).at_ hx
   have HX:=Lib.hid (woL_snoc l k x s hx)
   clear hx
   obtain ⟨xs,xt,xx⟩:=x
   obtain ⟨p,hp⟩:∃ p,(xs != s)=p:=⟨_,rfl⟩
   have HP:=Lib.hid hp
   have HO:=Lib.hid hown
   clear hown
   cases p with
   | true =>
    obtain ⟨A',c',rfl⟩:=own_slice HO.out
    go_wp2_with (at_builtin;refine wpList_append_own _ rfl (.tmp 18) (.tmp 20) 39 rfl w.heap.size 196 i0 _ 3 32 Tryz.underlying39 hi hz0 hz1 hz2 rfl (by decide) _ _ _ rfl ((HO.out.alloc _).alloc _) ⟨wr.heap.size+1,0,none⟩ 1 1 [.int .i64 xs,.string xt,.bool xx] rfl rfl ?c1 ?c2 ?c3 ?c4 ?c5 ?_)
    case c2=>exact ⟨rfl,rfl,rfl⟩
    case c3=>unfold maxLen;omega
    case c4=>omega
    case c5=>have:=hbw.size;simp;omega
    intro v' w3 hown3 hgrow3 _
    go_wp2
    go_roundw
    case rel =>
     refine ⟨k+1,m+1,?_,by omega,by go_num,by omega,?_⟩
     ·exact ((hbw.alloc hbw.size _).alloc (by have:=hbw.size;simp;omega) _).grown hgrow3 (by have:=hbw.size;simp;omega) (fun k hk=>(HO.out.lt k hk).1)
     ·rw [HX.out,if_pos HP.out,cellsH_append,cellsH_one]
      exact hown3
    case measure=>simp [intOf];omega
   | false =>
    go_wp2
    go_roundw
    case rel =>
     refine ⟨k+1,m,hbw.alloc hbw.size _,by omega,by go_num,by omega,?_⟩
     rw [HX.out,if_neg (by rw [HP.out];decide)]
     exact HO.out.alloc _
    case measure=>simp [intOf];omega
  ·have hd:decide ((k:Int)<(n:Int))=false:=by simp;omega
   have hkn:k=n:=by omega
   subst hkn
   have e:l.take k=l:=List.take_of_length_le (by rw [HL.out];exact Nat.le_refl _)
   rw [e] at hown
   have hml:(woL l s).length=m:=by
    have:=hown.1
    rw [cellsH_len] at this
    omega
   obtain ⟨A',c',rfl⟩:=own_slice hown
   go_wp2_with fail
   refine (clone_ (woL l s) A' m c' _ hml (by omega) (hs_of_own hown)).mono ?_
   rintro e w1 ⟨A2,c2,rfl,hown2,hb2⟩
   go_wp2
   go_ret
   refine ⟨A2,c2,by rw [hml];rfl,?_,Below.trans hbw (Below.mono hb2 hbw.size)⟩
   rw [hml]
   exact own_base hown2 hbw.size
theorem Blk.set2 {w:World} {g:Nat} {t:TypeId} {x y:Value} (h:Blk w g t #[x,y]) (a b:Value):∃ w',w'=(w.setCell ⟨g,0,none⟩ a).setCell ⟨g,1,none⟩ b∧Blk w' g t #[a,b] ∧
  (∀ B,B≤g→Below B w w')∧w.grownBy w' (some g):=by
 refine ⟨_,rfl,?_,fun B hB=>((Below.refl _ _).setCell hB _).setCell hB _,⟨rfl,rfl,rfl,by simp [World.setCell],fun k hk hne=>?_⟩⟩
 ·have h3:=(h.set_ 0 a).set_ 1 b
  simpa using h3
 ·have hne:k≠g:=fun e=>hne (by rw [e])
  exact (Below.heap_setCell _ _ _ _ hne).trans (Below.heap_setCell _ _ _ _ hne)
theorem grow0 (n:Nat) (w:World) (h0:0<n) (hn:n≤200000) :
  Calls Tryz.prog 237 #[.slice none 0 0,.int .i64 n] w fun e w'=>∃ v,e=.returned v∧w'.ownsRow w.heap.size 196 3 v 0 []∧Below w.heap.size w w':=by
 obtain ⟨i0,hi,hz0,hz1,hz2⟩:=info_parts (P:=Tryz.prog) (e:=196) (z:=.agg #[.int .i64 0,.string ⟨#[]⟩,.bool false]) (size:=3) (bytes:=32) (by kernel_rfl)
 have hrun:=fun ty=>Lib.run_append_nil_zeros (P:=Tryz.prog) w 39 3 ty 196 i0 _ .i64 .i64 Tryz.underlying39 Tryz.underlying3 hi hz0 n h0 (by rw [hz1];decide) (by omega) (by rw [hz2];omega)
 have h2:=Lib.hid (World.ownsRow_made (e:=196) (size:=3) (base:=w.heap.size) w.drew (Builtin.zeroCells (Value.agg #[.int .i64 0,.string ⟨#[]⟩,.bool false]).cells n++Builtin.zeroCells (Value.agg #[.int .i64 0,.string ⟨#[]⟩,.bool false]).cells (grownCap w n 0 196 - n)) (grownCap w n 0 196) (Nat.le_refl _) (grownCap_le_maxLen _ _ _ _ (by unfold maxLen;omega)) (by
  have:=grownCap_ge w n 0 196
  simp [size_zeroCells,Value.cells];try omega))
 have h3:=Lib.hid (((Below.refl w.heap.size w).drew).alloc (Nat.le_refl _) (.cells (Builtin.zeroCells (Value.agg #[.int .i64 0,.string ⟨#[]⟩,.bool false]).cells n++Builtin.zeroCells (Value.agg #[.int .i64 0,.string ⟨#[]⟩,.bool false]).cells (grownCap w n 0 196 - n)) 196))
 have hge:=grownCap_ge w n 0 196
 have hle:=grownCap_le_maxLen w n 0 196 (by unfold maxLen;omega)
 unfold maxLen at hle
 generalize grownCap w n 0 196=G at *
 generalize hWW:w.drew.alloc (.cells (Builtin.zeroCells (Value.agg #[.int .i64 0,.string ⟨#[]⟩,.bool false]).cells n++Builtin.zeroCells (Value.agg #[.int .i64 0,.string ⟨#[]⟩,.bool false]).cells (G - n)) 196)=WW at *
 clear hWW
 have d1:decide ((n:Int)<0)=false:=by simp;try omega
 have d2:decide (0<(n:Int))=true:=by simp;try omega
 go_enter Tryz.func237,Tryz.ntmps237
 go_wp2_with (at_builtin;refine Lib.wpList_append_run _ rfl _ _ _ _ rfl _ _ rfl rfl _ _ (hrun _) ?_)
 go_ret
 exact ⟨_,rfl,h2.out,h3.out⟩
theorem grow_ (n:Nat) (z:Int) (w:World) (hz:z=n) (h0:0<n) (hn:n≤200000) :
  Calls Tryz.prog 237 #[.slice none 0 0,.int .i64 z] w fun e w'=>∃ v,e=.returned v∧w'.ownsRow w.heap.size 196 3 v 0 []∧Below w.heap.size w w':=by
 subst hz
 exact grow0 n w h0 hn
theorem concat_ (l:List Hd) (h:Hd) (A:Option Addr) (n c base g g2:Nat) (w:World) (hl:l.length=n) (hn:n≤100000) (ho:w.ownsRow base 196 3 (.slice A n c) n (cellsH l))
  (hb:Blk w g 39 #[.slice A n c,.slice (some ⟨g2,0,none⟩) 1 1]) (hb2:Blk w g2 196 h.arr) :
  Calls Tryz.prog 215 #[.slice (some ⟨g,0,none⟩) 2 2] w (OwnP (l++[h]) (n+1) w):=by
 obtain ⟨i0,hi,hz0,hz1,hz2⟩:=info_parts (P:=Tryz.prog) (e:=196) (z:=.agg #[.int .i64 0,.string ⟨#[]⟩,.bool false]) (size:=3) (bytes:=32) (by kernel_rfl)
 have q0:=hb.cell 0
 have q1:=hb.cell 1
 have HL:=Lib.hid hl
 have HO:=Lib.hid ho
 clear hl ho
 have d1:decide ((n:Int)<0)=false:=by simp;try omega
 have d2:decide ((n:Int)+1<0)=false:=by simp;try omega
 go_enter Tryz.func215,Tryz.ntmps215
 go_wp2_with fail
 refine wp_loop_rounds 3 ?_
 rw [rounds_succ]
 go_wp2
 rw [rounds_succ]
 go_wp2
 rw [rounds_succ]
 go_wp2_with fail
 refine (grow_ (n+1) _ _ (by omega) (by omega) (by omega)).mono ?_
 rintro e w1 ⟨v,rfl,hown,hbw⟩
 obtain ⟨A1,c1,rfl⟩:=own_slice hown
 have HO1:=Lib.hid hown
 clear hown q0 q1
 have q0:=(hb.ext hbw).cell 0
 have q1:=(hb.ext hbw).cell 1
 rcases HO.out.2 with ⟨e,h0⟩|⟨gg,cap,cur,e,hgb,hgg,hnc,hcm,hcs,htk⟩
 ·injection e with e1 e2 e3
  subst e1 h0 e3
  have hln:l=[]:=List.length_eq_zero_iff.1 HL.out
  subst hln
  go_wp2_with fail
  refine wp_loop_rounds 3 ?_
  rw [rounds_succ]
  go_wp2_with (at_builtin;refine wpList_append_own_none rfl (.tmp 31) (.tmp 32) 39 rfl w.heap.size 196 i0 3 Tryz.underlying39 hi _ 0 [] rfl HO1.out rfl ?_)
  rw [rounds_succ]
  go_wp2_with (at_builtin;refine wpList_append_own _ rfl (.tmp 31) (.tmp 32) 39 rfl w.heap.size 196 i0 _ 3 32 Tryz.underlying39 hi hz0 hz1 hz2 rfl (by decide) _ _ _ rfl HO1.out ⟨g2,0,none⟩ 1 1 h.cells rfl rfl ?c1 ?c2 ?c3 ?c4 ?c5 ?_)
  case c1=>exact three_at (hb2.ext hbw)
  case c2=>intro u hu;exact one_cells [h] u (by rw [cellsH_one];exact hu)
  case c3=>unfold maxLen;omega
  case c4=>omega
  case c5=>exact hbw.size
  intro v' w3 hown3 hgrow3 _
  obtain ⟨A3,c3,rfl⟩:=own_slice hown3
  go_wp2
  rw [rounds_succ]
  go_wp2
  go_ret
  have hb3:Below w.heap.size w w3:=hbw.grown hgrow3 hbw.size (fun k hk=>(HO1.out.lt k hk).1)
  exact ⟨A3,c3,rfl,by simpa [cellsH_one] using hown3,hb3⟩
 ·injection e with e1 e2 e3
  subst e1 e3
  have hcl:∀ j u,(cellsH l)[j]? = some u→w1.cell? ((⟨gg,0,none⟩:Addr).add j)=some u:=fun j u hu=>by
   have hlt:=(Array.getElem?_eq_some_iff.1 hgg).1
   have hj:j<(cellsH l).length:=(List.getElem?_eq_some_iff.1 hu).1
   rw [HO.out.1] at hj
   rw [Addr.add_lit,Nat.zero_add,hbw.cell (p:=⟨gg,j,none⟩) hlt,HO.out.cellAt j hj]
   exact hu
  have HC:=Lib.hid hcl
  clear hcl hgg hnc hcm hcs htk
  go_wp2_with fail
  refine wp_loop_rounds 3 ?_
  rw [rounds_succ]
  go_wp2_with (at_builtin;refine wpList_append_own _ rfl (.tmp 31) (.tmp 32) 39 rfl w.heap.size 196 i0 _ 3 32 Tryz.underlying39 hi hz0 hz1 hz2 rfl (by decide) _ _ _ rfl HO1.out ⟨gg,0,none⟩ n c (cellsH l) rfl ?c0 HC.out ?c2 ?c3 ?c4 ?c5 ?_)
  case c0=>rw [cellsH_len,HL.out]
  case c2=>exact one_cells l
  case c3=>unfold maxLen;omega
  case c4=>omega
  case c5=>exact hbw.size
  intro v' w3 hown3 hgrow3 _
  obtain ⟨A3,c3,rfl⟩:=own_slice hown3
  have hlo:=fun k hk=>(HO1.out.lt k hk).1
  have hb3:Below w.heap.size w w3:=hbw.grown hgrow3 hbw.size hlo
  have HO3:=Lib.hid hown3
  clear hown3 q0 q1
  have q0:=(hb.ext hb3).cell 0
  have q1:=(hb.ext hb3).cell 1
  go_wp2
  rw [rounds_succ]
  go_wp2_with (at_builtin;refine wpList_append_own _ rfl (.tmp 31) (.tmp 32) 39 rfl w.heap.size 196 i0 _ 3 32 Tryz.underlying39 hi hz0 hz1 hz2 rfl (by decide) _ _ _ rfl HO3.out ⟨g2,0,none⟩ 1 1 h.cells rfl rfl ?c1 ?c2 ?c3 ?c4 ?c5 ?_)
  case c1=>exact three_at (hb2.ext hb3)
  case c2=>intro u hu;exact one_cells [h] u (by rw [cellsH_one];exact hu)
  case c3=>unfold maxLen;omega
  case c4=>omega
  case c5=>exact hb3.size
  intro v' w4 hown4 hgrow4 _
  obtain ⟨A4,c4,rfl⟩:=own_slice hown4
  go_wp2
  rw [rounds_succ]
  go_wp2
  go_ret
  have hb4:Below w.heap.size w w4:=hb3.grown hgrow4 hb3.size (fun k hk=>(HO3.out.lt k hk).1)
  exact ⟨A4,c4,by simp,by simpa [cellsH_append,cellsH_one] using hown4,hb4⟩
theorem Blk.set1' {w:World} {g:Nat} {t:TypeId} {x y:Value} (h:Blk w g t #[x,y]) (b:Value):∃ w',w'=w.setCell ⟨g,1,none⟩ b∧Blk w' g t #[x,b]∧(∀ B,B≤g→Below B w w')∧w.grownBy w' (some g):=by
 refine ⟨_,rfl,?_,fun B hB=>(Below.refl _ _).setCell hB _,⟨rfl,rfl,rfl,by simp [World.setCell],fun k hk hne=>?_⟩⟩
 ·simpa using h.set_ 1 b
 ·have hne:k≠g:=fun e=>hne (by rw [e])
  exact Below.heap_setCell _ _ _ _ hne
theorem Blk.set0' {w:World} {g:Nat} {t:TypeId} {x y:Value} (h:Blk w g t #[x,y]) (b:Value):∃ w',w'=w.setCell ⟨g,0,none⟩ b∧Blk w' g t #[b,y]∧(∀ B,B≤g→Below B w w')∧w.grownBy w' (some g):=by
 refine ⟨_,rfl,?_,fun B hB=>(Below.refl _ _).setCell hB _,⟨rfl,rfl,rfl,by simp [World.setCell],fun k hk hne=>?_⟩⟩
 ·simpa using h.set_ 0 b
 ·have hne:k≠g:=fun e=>hne (by rw [e])
  exact Below.heap_setCell _ _ _ _ hne
theorem hs_grown {w w':World} {base:Nat} {A:Option Addr} {n c:Nat} {l:List Hd} {row:Nat} (h:w.ownsRow base 196 3 (.slice A n c) n (cellsH l)) (hg:w.grownBy w' (some row)) (hb:row<base):Hs w' A l :=
 (hs_of_own h).grown hg (fun b e hr=>by
  have h1:=(h.lt b (by rw [e];rfl)).1
  injection hr with hr
  omega)
theorem own_grown {w w':World} {base:Nat} {v:Value} {n row:Nat} {xs:List Value} (h:w.ownsRow base 196 3 v n xs) (hg:w.grownBy w' (some row)) (hb:row<base):w'.ownsRow base 196 3 v n xs :=
 h.kept hg (by
  cases e:v.ownBlock with
  | none=>exact .inl rfl
  | some b =>
   refine .inr (fun hr=>?_)
   have h1:=(h.lt b e).1
   injection hr with hr
   omega)
theorem own_far {w w':World} {base:Nat} {v:Value} {n row:Nat} {xs:List Value} {cs:Array Value} (h:w.ownsRow base 196 3 v n xs) (hB:Blk w row 41 cs) (hg:w.grownBy w' (some row)):w'.ownsRow base 196 3 v n xs :=
 h.kept hg (by
  rcases h.2 with ⟨rfl,_⟩|⟨g,cap,cur,rfl,_,hgg,_⟩
  ·exact .inl rfl
  ·refine .inr (fun hr=>?_)
   injection hr with hr
   subst hr
   unfold Blk at hB
   simp [hB] at hgg)
theorem grown_two {a b c:World} {g:Nat} (h:a.grownBy b (some g)) (k:b.grownBy c (some g)):a.grownBy c (some g) :=
 ⟨k.os.trans h.os,k.tape.trans h.tape,k.output.trans h.output,Nat.le_trans h.size k.size,fun i hi hn=>(k.block i (Nat.lt_of_lt_of_le hi h.size) hn).trans (h.block i hi hn)⟩
theorem cellsH_set:∀ (l:List Hd) (i:Nat) (o p:Hd),l[i]? = some o→(((cellsH l).set (i * 3) (.int .i64 p.s)).set (i * 3+1) (.string p.t)).set (i * 3+2) (.bool p.x)=cellsH (l.set i p)
 | [],i,o,p,h=>by cases h
 | y::r,0,o,p,h=>rfl
 | y::r,i+1,o,p,h=>by
  have ih:=cellsH_set r i o p h
  have e:cellsH (y::r)=y.cells++cellsH r:=rfl
  have e2:cellsH ((y::r).set (i+1) p)=y.cells++cellsH (r.set i p):=rfl
  have e1:(i+1) * 3=i * 3+3:=by omega
  rw [e,e2,←ih,e1]
  rfl
theorem own_ne {w:World} {base b n c g:Nat} {xs:List Value} {cs:Array Value} (h:w.ownsRow base 196 3 (.slice (some ⟨b,0,none⟩) n c) n xs) (hB:Blk w g 41 cs):b≠g:=by
 rcases h.2 with ⟨e,_⟩|⟨g',cap,cur,e,_,hgg,_⟩
 ·cases e
 ·injection e with e
  injection e with e
  injection e with e
  subst e
  rintro rfl
  unfold Blk at hB
  simp [hB] at hgg
theorem idx_some {p:Hd→Bool} {l:List Hd} {i:Nat} (h:l.findIdx? p=some i):∃ o,l[i]? = some o∧p o=true:=by
 rw [List.findIdx?_eq_some_iff_getElem] at h
 obtain ⟨hl,hp,_⟩:=h
 exact ⟨l[i],List.getElem?_eq_getElem hl,hp⟩
def Own2 (L:Lk) (B:Nat) (w':World) (A:Option Addr) (c:Nat) (A':Option Addr) (c':Nat):Prop:=w'.ownsRow B 196 3 (.slice A L.hs.length c) L.hs.length (cellsH L.hs)∧w'.ownsRow B 196 3 (.slice A' L.ws.length c') L.ws.length (cellsH L.ws)
def AskG (L:Lk) (b:Bool) (w:World) (r:Ending) (w':World):Prop:=∃ A c A' c',r=.returned (.tuple #[.agg #[.slice A L.hs.length c,.slice A' L.ws.length c'],.bool b])∧Own2 L w.heap.size w' A c A' c'∧Below w.heap.size w w'
def FreeG (L:Lk) (w:World) (r:Ending) (w':World):Prop:=∃ A c A' c',r=.returned (.agg #[.slice A L.hs.length c,.slice A' L.ws.length c'])∧Own2 L w.heap.size w' A c A' c'∧Below w.heap.size w w'
theorem ask_g {A A':Option Addr} {n m c c' B B':Nat} {L:Lk} {b:Bool} {w w':World} (hn:L.hs.length=n) (hm:L.ws.length=m) (h1:w'.ownsRow B 196 3 (.slice A n c) n (cellsH L.hs)) (hB:w.heap.size≤B) (h2:w'.ownsRow B' 196 3 (.slice A' m c') m (cellsH L.ws)) (hB':w.heap.size≤B') (hb:Below w.heap.size w w') :
  AskG L b w (.returned (.tuple #[.agg #[.slice A n c,.slice A' m c'],.bool b])) w':=by
 subst hn hm
 exact ⟨A,c,A',c',rfl,⟨own_base h1 hB,own_base h2 hB'⟩,hb⟩
theorem AskG_ (L:Lk) (h:Hd) (v:Value) (w:World) (hL:LkR w v L) (h1:L.hs.length≤90000) (h2:L.ws.length≤90000) :
  Calls Tryz.prog 181 #[v,.agg h.arr] w (AskG (askL L h) (freeB L h) w):=by
 obtain ⟨A,n,c,A',n',c',rfl,e1,r1,e2,r2⟩:=hL
 obtain ⟨hs,ws⟩:=L
 obtain ⟨s,t,x⟩:=h
 simp only at e1 e2 h1 h2 r1 r2
 simp only [Hd.arr]
 have hn:n≤90000:=by omega
 have hn':n'≤90000:=by omega
 have HL:=Lib.hid e1
 have HL':=Lib.hid e2
 have HR:=Lib.hid r1
 have HR':=Lib.hid r2
 obtain ⟨fi,hfi⟩:∃ f,hs.findIdx? (mineB ⟨s,t,x⟩)=f:=⟨_,rfl⟩
 obtain ⟨b,hb⟩:∃ b,hasB ⟨hs,ws⟩ ⟨s,t,x⟩=b:=⟨_,rfl⟩
 obtain ⟨f,hf⟩:∃ f,freeB ⟨hs,ws⟩ ⟨s,t,x⟩=f:=⟨_,rfl⟩
 obtain ⟨at_,hat⟩:∃ a,idxI (mineB ⟨s,t,x⟩) hs=a:=⟨_,rfl⟩
 have HFI:=Lib.hid hfi
 have HB:=Lib.hid hb
 have HF:=Lib.hid hf
 have HAT:=Lib.hid hat
 rw [hf]
 clear e1 e2 r1 r2 h1 h2 hfi hb hf hat
 go_enter Tryz.func181,Tryz.ntmps181
 go_wp2_with fail
 obtain ⟨W,hW_,hbW,B1,B2,B3⟩:=al3 w 41 196 41 #[.slice A n c,.slice A' n' c'] #[.int .i64 s,.string t,.bool x] #[.slice none 0 0,.slice none 0 0]
 rw [←hW_]
 clear hW_
 have q1:=B1.cell 0
 have q1':=B1.cell 1
 have q2:=B2.three (Below.refl _ _)
 go_wp2_with fail
 refine (mine_ ⟨s,t,x⟩ A A' n c n' c' hs _ HL.out (by omega) (HR.out.ext hbW)).mono ?_
 rintro e w1 ⟨rfl,hb1⟩
 rw [HAT.out]
 have h1:=hbW.tr hb1
 have B1:=B1.ext hb1
 have B2:=B2.ext hb1
 have B3:=B3.ext hb1
 clear q1 q1' q2 hb1 hbW
 have hw1:w.heap.size+2<w1.heap.size:=B3.lt
 go_upto_region 2 with fail
 go_cut [7] from 13 to 31 (fun sv wx=>sv=.bool b∧w1.drew=wx)
 case first =>
  have D:=fun w' (h:Below w1.heap.size w1.drew w')=>And.intro ((B1.ext ((Below.refl _ _).drew.trans h)).cell 0) (B2.three ((Below.refl _ _).drew.trans h))
  have hgo:(∃ i,fi=some i∧at_=(i:Int)∧(i:Int)<(n:Int)∧(∃ o:Hd,hs[i]? = some o∧o.s=s∧o.t=t∧b=(o.x || !x)))∨(fi=none∧at_ = -1∧b=false):=by
   cases e:fi with
   | none=>exact .inr ⟨rfl,by rw [←HAT.out];unfold idxI;rw [HFI.out,e],by rw [←HB.out];unfold hasB;simp only [HFI.out,e]⟩
   | some i =>
    obtain ⟨⟨os,ot,ox⟩,ho,hm⟩:=idx_some (HFI.out.trans e)
    unfold mineB at hm
    simp only [Bool.and_eq_true,beq_iff_eq,beqBA] at hm
    obtain ⟨rfl,rfl⟩:=hm
    exact .inl ⟨i,rfl,by rw [←HAT.out];unfold idxI;rw [HFI.out,e],by have:=(List.getElem?_eq_some_iff.1 ho).1;have:=HL.out;omega,_,ho,rfl,rfl,by rw [←HB.out];unfold hasB;simp only [HFI.out,e,ho]⟩
  rcases hgo with ⟨i,rfl,rfl,hin,⟨os,ot,ox⟩,ho,rfl,rfl,rfl⟩|⟨rfl,rfl,rfl⟩
  ·have hdi:decide ((i:Int)<(n:Int))=true:=by simp;omega
   have hdz:decide ((0:Int)≤(i:Int))=true:=by simp
   obtain ⟨bb,rfl,hbb⟩:=HR.out.some_ (by have:=HL.out;omega)
   have D2:=fun w' (h:Below w1.heap.size w1.drew w')=>((HR.out.ext h1).ext ((Below.refl _ _).drew.trans h)).at_ ho
   cases ox <;> cases x
   all_goals (refine wp_region_one [(0,true),(1,true),(2,true),(3,true),(4,true),(5,true),(6,true),(7,true),(8,true),(9,true),(10,true),(11,true),(12,true),(13,true),(14,true),(15,true),(16,true),(17,true),(18,true),(19,true)] (by kernel_rfl) (by kernel_rfl) (by kernel_rfl) (by decide) ?_)
   all_goals (repeat ((with_reducible refine pG ?_);(first|refine pT ?_|refine pF ?_);try go_frame))
   all_goals (refine wpPerm_done ?_;go_wp2_with fail;go_meet;exact ⟨rfl,rfl⟩)
  ·refine wp_region_one [(0,true),(1,true),(2,true),(3,true),(4,true),(5,true),(6,true),(7,true),(8,true),(9,true),(10,true),(11,true),(12,true),(13,true),(14,true),(15,true),(16,true),(17,true),(18,true),(19,true)] (by kernel_rfl) (by kernel_rfl) (by kernel_rfl) (by decide) ?_
   repeat ((with_reducible refine pG ?_);(first|refine pT ?_|refine pF ?_);try go_frame)
   refine wpPerm_done ?_
   go_wp2_with fail
   go_meet
   exact ⟨rfl,rfl⟩
 obtain ⟨rfl,rfl⟩:=hcut
 have h1d:Below w.heap.size w w1.drew:=h1.drew
 have B1:=Blk.drew B1
 have B2:=Blk.drew B2
 have B3:=Blk.drew B3
 have q1:=B1.cell 0
 have q2:=B2.three (Below.refl _ _)
 generalize w1.drew=w2 at *
 have hw2:w.heap.size+2<w2.heap.size:=B3.lt
 clear h1 hw1
 go_upto_region 3 with fail
 go_cut [8] from 32 to 40 (fun sv wx=>sv=.bool f∧Below w2.heap.size w2 wx)
 case first =>
  have hff:f=(b || !hs.any (agB ⟨s,t,x⟩)):=by rw [←HF.out,←HB.out];rfl
  subst hff
  cases b with
  | true =>
   go_wp2_with fail
   go_meet
   exact ⟨rfl,Below.refl _ _⟩
  | false =>
   go_wp2_with fail
   refine (containsAg ⟨s,t,x⟩ hs A n c _ HL.out (by omega) (HR.out.ext h1d)).mono ?_
   rintro e w3 ⟨rfl,hb3⟩
   go_wp2_with fail
   go_meet
   exact ⟨rfl,hb3⟩
 obtain ⟨rfl,hb2⟩:=hcut
 have h2:=h1d.tr hb2
 have B1:=B1.ext hb2
 have B2:=B2.ext hb2
 have B3:=B3.ext hb2
 clear q1 q2 hb2 h1d hw2
 have hw2:w.heap.size+2<wc.heap.size:=B3.lt
 go_upto_region 4 with fail
 have D:=fun w' (h:Below wc.heap.size wc.drew w')=>And.intro ((B1.ext ((Below.refl _ _).drew.trans h)).cell 0) (And.intro ((B1.ext ((Below.refl _ _).drew.trans h)).cell 1) (B2.three ((Below.refl _ _).drew.trans h)))
 refine wp_region_mix1 ⟨9,9,fun g=>.pointer (some ⟨g,0,none⟩),.cells #[.slice none 0 0,.slice none 0 0] 41⟩
  [(0,true),(1,true),(3,true),(4,true),(5,true),(6,true)] [(2,false),(7,false),(8,true)] [(10,false)] (by kernel_rfl) (by kernel_rfl) ?_
 repeat ((with_reducible refine iG ?_);(first|refine iT ?_|refine iF ?_);try go_frame)
 refine wpI_done ⟨?_,?_⟩
 ·intro y hy
  simp only [List.mem_cons,List.not_mem_nil,or_false] at hy
  subst hy
  exact ⟨_,rfl,rfl,wanted_free rfl,fun w=>by go_simp⟩
 clear D
 refine iD fun wI hI hSI K hK=>?_;go_simp
 refine (clone_ hs A n c _ HL.out (by omega) ((HR.out.ext h2).ext (Below.trans (Below.refl _ _).drew hI))).mono ?_
 rintro e w3 ⟨A3,c3,rfl,o3,hb3⟩
 refine hK.out _ _ hb3 ?_
 have hI3:=Below.trans hI (Below.mono hb3 hI.size)
 have bI:=hI.size
 have o3:=own_base o3 (show wc.heap.size≤_ from bI)
 clear hK K hb3 hI hSI
 refine iD fun wI hI hSI K hK=>?_;go_simp
 refine (without_ ws A' n' c' s _ HL'.out (by omega) ((HR'.out.ext h2).ext (Below.trans (Below.refl _ _).drew (Below.trans hI3 (Below.mono hI hI3.size))))).mono ?_
 rintro e w4 ⟨A4,c4,rfl,o4,hb4⟩
 refine hK.out _ _ hb4 ?_
 have hI4:=Below.trans hI (Below.mono hb4 hI.size)
 have hsep:∀ b4,A4=some ⟨b4,0,none⟩→∀ b3,A3=some ⟨b3,0,none⟩→b3<b4:=fun b4 e4 b3 e3=>by
  have h1:=((own_ext o3 hI).lt b3 (by rw [e3];rfl)).2
  have h2:=(o4.lt b4 (by rw [e4];rfl)).1
  omega
 have o3:=own_ext o3 hI4
 have bI:=hI.size
 have o4:=own_base o4 (show wc.heap.size≤_ from Nat.le_trans hI3.size bI)
 clear hK K hb4 hI hI3 hI4 hSI
 repeat ((with_reducible refine iG ?_);(first|refine iT ?_|refine iF ?_);try go_frame)
 refine wpI_done ?_
 intro g1 wf he hb hlo1 hhi1 hat1
 try go_frame
 have B5:Blk wf g1 41 #[.slice none 0 0,.slice none 0 0]:=hat1
 have o3:=own_ext o3 he
 have o4:=own_ext o4 he
 clear hat1 he
 have f0:=B5.frozen 0
 have f1:=B5.frozen 1
 have q0:=B5.cell 0
 have q1:=B5.cell 1
 refine pD fun K hK=>?_;go_simp
 clear f0 f1 q0 q1
 obtain ⟨w5,hw5,B5',hlow,hgr⟩:=Blk.set2 B5 (.slice A3 n c3) (.slice A4 (woL ws s).length c4)
 rw [←hw5]
 clear hw5
 have o3:=own_far o3 B5 hgr
 have o4:=own_far o4 B5 hgr
 refine hK.out _ _ (Below.trans hb (hlow _ hlo1)) (wpPerm_done ?_)
 clear hK K
 have hx5:Below wc.heap.size wc w5:=Below.trans (Below.refl _ _).drew (Below.trans hb (hlow _ hlo1))
 have h5:Below w.heap.size w w5:=h2.tr hx5
 have B2:=B2.ext hx5
 have B3:=B3.ext hx5
 have hg1:w.heap.size+2<g1:=by omega
 clear B1 B5 hx5 hb hlow hgr hlo1 hhi1 h2
 have hw5:w.heap.size+2<w5.heap.size:=B3.lt
 have hwl:(woL ws s).length≤90000:=by have:=woL_len ws s;have:=HL'.out;omega
 have q1:=B5'.cell 0
 have q1':=B5'.cell 1
 have q2:=B2.three (Below.refl _ _)
 have f0:=B5'.frozen 0
 have f1:=B5'.frozen 1
 go_upto_block 0 with fail
 go_cut [] from 50 to 76 (fun wx=>∃ Ah ch Aw cw,Blk wx g1 41 #[.slice Ah (askL ⟨hs,ws⟩ ⟨s,t,x⟩).hs.length ch,.slice Aw (askL ⟨hs,ws⟩ ⟨s,t,x⟩).ws.length cw]∧Blk wx (w.heap.size+1+1) 41 #[.slice none 0 0,.slice none 0 0]∧Own2 (askL ⟨hs,ws⟩ ⟨s,t,x⟩) (w.heap.size+3) wx Ah ch Aw cw∧Below w.heap.size w wx)
 case first =>
  have o3:=own_base o3 (show w.heap.size+3≤_ by omega)
  have o4:=own_base o4 (show w.heap.size+3≤_ by omega)
  cases f with
  | false =>
   have e3:askL ⟨hs,ws⟩ ⟨s,t,x⟩=⟨hs,woL ws s++[⟨s,t,x⟩]⟩:=by unfold askL;simp [HF.out]
   go_wp2_with fail
   obtain ⟨W6,hW_,hb6,C1,C2⟩:=al2 w5 196 39 #[.int .i64 s,.string t,.bool x] #[.slice A4 (woL ws s).length c4,.slice (some ⟨w5.heap.size,0,none⟩) 1 1]
   rw [←hW_]
   clear hW_
   refine (concat_ (woL ws s) ⟨s,t,x⟩ A4 ((woL ws s).length) c4 (w.heap.size+3) (w5.heap.size+1) w5.heap.size _ rfl (by omega) (own_ext o4 hb6) C2 C1).mono ?_
   rintro e w7 ⟨A7,c7,rfl,o7,hb7⟩
   have hb8:=hb6.tr hb7
   have B5:=B5'.ext hb8
   have f1:=B5.frozen 1
   have q1':=B5.cell 1
   go_wp2_with fail
   obtain ⟨w8,hw8,B8,hlow,hgr⟩:=Blk.set1' B5 (.slice A7 ((woL ws s).length+1) c7)
   rw [←hw8]
   go_meet
   rw [e3]
   exact ⟨A3,c3,A7,c7,by simpa [HL.out] using B8,(B3.ext hb8).grown hgr (by simp;omega),⟨by simpa [HL.out] using own_far (own_ext o3 hb8) B5 hgr,by simpa using own_base (own_far o7 B5 hgr) (by have:=hb6.size;omega)⟩,(h5.tr hb8).trans (hlow _ (by omega))⟩
  | true =>
   cases b with
   | true =>
    have e3:askL ⟨hs,ws⟩ ⟨s,t,x⟩=⟨hs,woL ws s⟩:=by unfold askL;simp [HF.out,HB.out]
    go_wp2_with fail
    go_meet
    rw [e3]
    exact ⟨A3,c3,A4,c4,by simpa [HL.out] using B5',B3,⟨by simpa [HL.out] using o3,o4⟩,h5⟩
   | false =>
    cases fi with
    | none =>
     have e3:askL ⟨hs,ws⟩ ⟨s,t,x⟩=⟨hs++[⟨s,t,x⟩],woL ws s⟩:=by unfold askL;simp [HF.out,HB.out,HFI.out]
     obtain rfl:at_ = -1:=by rw [←HAT.out];unfold idxI;rw [HFI.out]
     go_wp2_with fail
     obtain ⟨W6,hW_,hb6,C1,C2⟩:=al2 w5 196 39 #[.int .i64 s,.string t,.bool x] #[.slice A3 n c3,.slice (some ⟨w5.heap.size,0,none⟩) 1 1]
     rw [←hW_]
     clear hW_
     refine (concat_ hs ⟨s,t,x⟩ A3 n c3 (w.heap.size+3) (w5.heap.size+1) w5.heap.size _ HL.out (by omega) (own_ext o3 hb6) C2 C1).mono ?_
     rintro e w7 ⟨A7,c7,rfl,o7,hb7⟩
     have hb8:=hb6.tr hb7
     have B5:=B5'.ext hb8
     have f0:=B5.frozen 0
     have q1:=B5.cell 0
     go_wp2_with fail
     obtain ⟨w8,hw8,B8,hlow,hgr⟩:=Blk.set0' B5 (.slice A7 (n+1) c7)
     rw [←hw8]
     go_meet
     rw [e3]
     exact ⟨A7,c7,A4,c4,by simpa [HL.out] using B8,(B3.ext hb8).grown hgr (by simp;omega),⟨by simpa [HL.out] using own_base (own_far o7 B5 hgr) (by have:=hb6.size;omega),own_far (own_ext o4 hb8) B5 hgr⟩,(h5.tr hb8).trans (hlow _ (by omega))⟩
    | some i =>
     have e3:askL ⟨hs,ws⟩ ⟨s,t,x⟩=⟨hs.set i ⟨s,t,x⟩,woL ws s⟩:=by unfold askL;simp [HF.out,HB.out,HFI.out]
     obtain rfl:at_=(i:Int):=by rw [←HAT.out];unfold idxI;rw [HFI.out]
     obtain ⟨o0,ho,hm⟩:=idx_some HFI.out
     have hin:i<n:=by have:=(List.getElem?_eq_some_iff.1 ho).1;have:=HL.out;omega
     have hdi:decide ((i:Int)<(n:Int))=true:=by simp;omega
     have hdz:decide ((0:Int)≤(i:Int))=true:=by simp
     obtain ⟨b3,c3',e3',hb3,hb3'⟩:=o3.form (by omega)
     injection e3' with e3a e3b e3c
     subst e3a
     subst e3c
     have F0:=o3.frozenAt (i * 3)
     have F1:=o3.frozenAt (i * 3+1)
     have F2:=o3.frozenAt (i * 3+2)
     have HA:=cellsH_at hs i _ ho
     have Q0:=(o3.cellAt (i * 3) (by omega)).trans HA.1
     have Q1:=(o3.cellAt (i * 3+1) (by omega)).trans HA.2.1
     have Q2:=(o3.cellAt (i * 3+2) (by omega)).trans HA.2.2
     clear HA
     have hne1:b3≠g1:=own_ne o3 B5'
     go_wp2_with fail
     have S0:=o3.stored (i * 3) (.int .i64 s)
     have S1:=S0.1.stored (i * 3+1) (.string t)
     have S2:=S1.1.stored (i * 3+2) (.bool x)
     have hgr:w5.grownBy (((w5.setCell ⟨b3,i * 3,none⟩ (.int .i64 s)).setCell ⟨b3,i * 3+1,none⟩ (.string t)).setCell ⟨b3,i * 3+2,none⟩ (.bool x)) (some b3) :=
      grown_two (grown_two S0.2 S1.2) S2.2
     have o5:=S2.1
     have e5:=cellsH_set hs i o0 ⟨s,t,x⟩ ho
     simp only at e5
     rw [e5] at o5
     go_meet
     rw [e3]
     refine ⟨_,_,A4,c4,by simpa [HL.out] using B5'.grown hgr (by simpa using Ne.symm hne1),B3.grown hgr (by simp;omega),⟨by simpa [HL.out] using o5,o4.kept hgr ?_⟩,h5.grown hgr h5.size (fun k hk=>by injection hk with hk;omega)⟩
     cases e:(Value.slice A4 (woL ws s).length c4).ownBlock with
     | none=>exact .inl rfl
     | some b4 =>
      refine .inr (fun hr=>?_)
      injection hr with hr
      rcases o4.2 with ⟨e4,_⟩|⟨g,cap,cur,e4,_⟩
      ·rw [e4] at e;cases e
      ·injection e4 with e4 _ _
       have:=hsep g e4 b3 rfl
       rw [e4] at e
       have e:g=b4:=by simpa [Value.ownBlock] using e
       omega
 obtain ⟨Ah,ch,Aw,cw,C5,C3,⟨oh,ow⟩,h6⟩:=hcut
 clear B5' B3 o3 o4 hsep h5 q1 q1' q2 f0 f1 B2
 have q1:=C5.cell 0
 have q1':=C5.cell 1
 have f3:=C3.frozen 0
 have f3':=C3.frozen 1
 have q3:=C3.cell 0
 have q3':=C3.cell 1
 have hne:w.heap.size+1+1≠g1:=by omega
 go_wp2
 clear q1 q1' f3 f3' q3 q3' hne
 obtain ⟨w9,hw9,B9,hlow9,hgr9⟩:=Blk.set2 C3 (.slice Ah (askL ⟨hs,ws⟩ ⟨s,t,x⟩).hs.length ch) (.slice Aw (askL ⟨hs,ws⟩ ⟨s,t,x⟩).ws.length cw)
 rw [←hw9]
 have q1:=B9.cell 0
 have q1':=B9.cell 1
 exact bodyPost_ret (v:=.tuple #[.agg #[.slice Ah (askL ⟨hs,ws⟩ ⟨s,t,x⟩).hs.length ch,.slice Aw (askL ⟨hs,ws⟩ ⟨s,t,x⟩).ws.length cw],.bool f]) (by simp [results,Tryz.results181,go_sem,q1,q1'];try rfl) rfl
  (ask_g rfl rfl (own_grown oh hgr9 (by omega)) (by omega) (own_grown ow hgr9 (by omega)) (by omega) (h6.trans (hlow9 w.heap.size (by omega))))
theorem FreeG_ (L:Lk) (s:Int) (v:Value) (w:World) (hL:LkR w v L) (h1:L.hs.length≤100000) (h2:L.ws.length≤100000) :
  Calls Tryz.prog 184 #[v,.int .i64 s] w (FreeG (freeL L s) w):=by
 obtain ⟨A,n,c,A',n',c',rfl,e1,r1,e2,r2⟩:=hL
 have hn:n≤100000:=by omega
 have hn':n'≤100000:=by omega
 have E1:=Lib.hid e1
 have E2:=Lib.hid e2
 clear e1 e2 h1 h2
 go_enter Tryz.func184,Tryz.ntmps184
 go_wp2
 obtain ⟨W,hW_,hbW,B1,B2⟩:=al2 w 41 41 #[.slice A n c,.slice A' n' c'] #[.slice none 0 0,.slice none 0 0]
 rw [←hW_]
 clear hW_
 have D:=fun w' (h:Blk w' w.heap.size 41 #[.slice A n c,.slice A' n' c']∧Below w.heap.size w w')=>(show w'.cell? ⟨w.heap.size,0,none⟩=some (.slice A n c)∧w'.cell? ⟨w.heap.size,1,none⟩=some (.slice A' n' c') from ⟨h.1.cell 0,h.1.cell 1⟩)
 refine wp_region_oneS (S:=fun w'=>Blk w' w.heap.size 41 #[.slice A n c,.slice A' n' c']∧Below w.heap.size w w') [(0,true),(1,true),(2,true),(4,true),(5,true),(6,true),(3,false),(7,false),(8,true),(9,false)] (by kernel_rfl) (by kernel_rfl) (by kernel_rfl) (by decide) ⟨B1,hbW.drew⟩ ?_
 repeat ((with_reducible refine pG ?_);(first|refine pT ?_|refine pF ?_);try go_frame)
 refine pD fun K hK=>?_;go_simp
 refine (without_ L.hs A n c s _ E1.out hn (r1.ext (hbW.drew))).mono ?_
 rintro e w1 ⟨A2,c2,rfl,o2,hb2⟩
 have h1:=Below.trans hbW.drew (Below.mono hb2 hbW.size)
 refine hK.out _ _ ⟨B1.ext (Below.trans (Below.refl _ _).drew hb2),h1⟩ ?_
 clear hK K
 refine pD fun K hK=>?_;go_simp
 refine (without_ L.ws A' n' c' s _ E2.out hn' (r2.ext h1)).mono ?_
 rintro e w2 ⟨A3,c3,rfl,o3,hb3⟩
 have hbT:=Below.trans (Below.refl _ _).drew (Below.trans hb2 (Below.mono hb3 hb2.size))
 have h2:=Below.trans h1 (Below.mono hb3 h1.size)
 refine hK.out _ _ ⟨B1.ext hbT,h2⟩ ?_
 clear hK K
 repeat ((with_reducible refine pG ?_);(first|refine pT ?_|refine pF ?_);try go_frame)
 clear D
 have B2':=B2.ext hbT
 have f20:=B2'.frozen 0
 have f21:=B2'.frozen 1
 have q20:=B2'.cell 0
 have q21:=B2'.cell 1
 refine pD fun K hK=>?_;go_simp
 clear f20 f21 q20 q21
 obtain ⟨w3,hw3,B3,hlow,hgr⟩:=Blk.set2 B2' (.slice A2 (woL L.hs s).length c2) (.slice A3 (woL L.ws s).length c3)
 rw [←hw3]
 clear hw3
 have h3:=Below.trans h2 (hlow w.heap.size (Nat.le_succ _))
 have B1':=(B1.ext hbT).grown hgr (by simp)
 refine hK.out _ _ ⟨B1',h3⟩ (wpPerm_done ?_)
 clear hK K
 have q30:=B3.cell 0
 have q31:=B3.cell 1
 go_wp2
 exact bodyPost_ret (v:=.agg #[.slice A2 (woL L.hs s).length c2,.slice A3 (woL L.ws s).length c3]) (by simp [results,Tryz.results184,go_sem,q30,q31];try rfl) rfl
  ⟨A2,c2,A3,c3,rfl,⟨own_base (own_grown (own_ext o2 hb3) hgr (by have h1:W.heap.size≤W.drew.heap.size:=Nat.le_refl _;have h2:=B2.lt;omega)) hbW.size,own_base (own_grown o3 hgr (by have h1:W.heap.size≤w1.heap.size:=hb2.size;have h2:=B2.lt;omega)) h1.size⟩,h3⟩
end Go.Proofs.YtgbcdkmjcokclaaGreat.lk
namespace Go.Proofs.YtgbcdkmjcokclaaGreat.tp
open Go.ChangeShapes Go.WideShapes Go.ChangeAt Go.RowKit Go.Proofs.YtgbcdkmjcokclaaGreat.lib
def hdOf (h:Hld):lk.Hd:=⟨h.1,h.2.1,h.2.2⟩
def ofHd (h:lk.Hd):Hld:=(h.s,h.t,h.x)
theorem map_hd (l:List lk.Hd):(l.map ofHd).map hdOf=l:=by rw [List.map_map];exact List.map_id _
def lkOf (x:DBd):lk.Lk:=⟨x.2.2.1.map hdOf,x.2.2.2.map hdOf⟩
def withL (x:DBd) (L:lk.Lk):DBd:=(x.1,x.2.1,L.hs.map ofHd,L.ws.map ofHd)
theorem cellsH_map (l:List Hld):lk.cellsH (l.map hdOf)=(l.map fun h=>[Value.int .i64 h.1,.string h.2.1,.bool h.2.2]).flatten:=by
 rw [lk.cellsH,List.flatMap_def,List.map_map]
 rfl
theorem own_hld {w:World} {B:Nat} {F:Blocks} {A:Option Addr} {n c:Nat} {l:List Hld} (h:OwnE eHld 196 w B F A n c l):w.ownsRow B 196 3 (.slice A n c) n (lk.cellsH (l.map hdOf))∧(l.map hdOf).length=n:=by
 obtain ⟨css,h1,h2,h3⟩:=h
 have e:css=l.map fun h=>[Value.int .i64 h.1,.string h.2.1,.bool h.2.2]:=by
  have hl:css.length=l.length:=h2.1
  refine List.ext_getElem? fun i=>?_
  rw [List.getElem?_map]
  cases hx:l[i]? with
  | none =>
   rw [List.getElem?_eq_none_iff] at hx
   rw [List.getElem?_eq_none (by omega)]
   rfl
  | some y =>
   have hi:=(List.getElem?_eq_some_iff.1 hx).1
   have hc:css[i]? = some css[i]:=List.getElem?_eq_getElem (by omega)
   have hr:=h2.2 i css[i] y hc hx
   rw [hc]
   obtain ⟨_,_,e1,e2,_,_,e3,e4,e5⟩:=hr
   rw [e1,e2,e3,e4,e5]
   rfl
 rw [cellsH_map,←e]
 exact ⟨h1,by simpa using h3⟩
theorem hld_own {w:World} {B:Nat} {F:Blocks} {A:Option Addr} {c:Nat} {l:List lk.Hd} (h:w.ownsRow B 196 3 (.slice A l.length c) l.length (lk.cellsH l)):OwnE eHld 196 w B F A l.length c (l.map ofHd):=by
 refine ⟨(l.map ofHd).map fun h=>[Value.int .i64 h.1,.string h.2.1,.bool h.2.2],?_,⟨by simp,fun i cs x h1 h2=>?_⟩,by simp⟩
 ·rw [←cellsH_map,map_hd];exact h
 ·rw [List.getElem?_map,h2] at h1
  injection h1 with h1
  subst h1
  exact ⟨[_],_,rfl,rfl,[_],[_],rfl,rfl,rfl⟩
section
variable {w w':World} {g B:Nat} {o e:Int} {x:DBd} {A:Option Addr} {c:Nat} {A2:Option Addr} {c2:Nat} {A3:Option Addr} {c3:Nat} {A4:Option Addr} {c4:Nat}
theorem CallW.lkr (h:CallW w g B o e x A c A2 c2 A3 c3 A4 c4):lk.LkR w (.agg #[.slice A3 x.2.2.1.length c3,.slice A4 x.2.2.2.length c4]) (lkOf x):=by
 obtain ⟨h1,h2⟩:=own_hld h.hld.1
 obtain ⟨h3,h4⟩:=own_hld h.wai.1
 exact ⟨_,_,_,_,_,_,rfl,h2,lk.hs_of_own h1,h4,lk.hs_of_own h3⟩
theorem CallW.locks (h:CallW w g B o e x A c A2 c2 A3 c3 A4 c4) {w1:World} {L:lk.Lk} {A5 A6:Option Addr} {c5 c6:Nat} (hb:Below w.heap.size w w1) (hO:lk.Own2 L w.heap.size w1 A5 c5 A6 c6) :
  CallW ((w1.setCell ⟨g,2,none⟩ (.slice A5 L.hs.length c5)).setCell ⟨g,3,none⟩ (.slice A6 L.ws.length c6)) g B o e (withL x L) A c A2 c2 A5 c5 A6 c6∧w1.grownBy ((w1.setCell ⟨g,2,none⟩ (.slice A5 L.hs.length c5)).setCell ⟨g,3,none⟩ (.slice A6 L.ws.length c6)) (some g):=by
 have hg:=grown_trans (set_grown w1 g 2 (.slice A5 L.hs.length c5)) (set_grown _ g 3 (.slice A6 L.ws.length c6))
 have hC:=h.ext hb
 have hk:=Keep.grown (F:=fun b=>b≠g) hg (fun g' h1 h2=>by injection h1 with h1;exact h2 h1.symm)
 have hB:=(hC.blk.set_ 2 (.slice A5 L.hs.length c5)).set_ 3 (.slice A6 L.ws.length c6)
 have lw:∀ b,w.heap.size≤b→NC B g A A2 b:=fun b hb=>⟨by have:=h.blk.lt;have:=h.lo;omega,by have:=h.blk.lt;omega,fun e=>by have:=(h.tab.lt e).2;omega,fun e=>by have:=(h.wrk.lt e).2;omega⟩
 have hBw:B≤w.heap.size:=by have:=h.blk.lt;have:=h.lo;omega
 have hl:∀ (l:List lk.Hd),(l.map ofHd).length=l.length:=fun l=>List.length_map ..
 refine ⟨⟨?_,hC.tab.keep hk (fun b q=>(h.ne b q).2) (fun b q=>q.2.1),hC.wrk.keep hk h.ne2 (fun b q=>q.2.1),?_,?_,h.ne,h.ne2,h.lo⟩,hg⟩
 ·show Blk _ g _ #[_,_,.slice A5 (L.hs.map ofHd).length c5,.slice A6 (L.ws.map ofHd).length c6,_,_,_,_]
  rw [hl,hl]
  exact hB
 ·show Hh _ B _ A5 (L.hs.map ofHd).length c5 (L.hs.map ofHd)
  rw [hl]
  have h1:Hh w1 B (NC B g A A2) A5 L.hs.length c5 (L.hs.map ofHd):=⟨(hld_own hO.1).base hBw,fun b e=>lw b ((hld_own (F:=fun _=>True) hO.1).lt e).1⟩
  exact h1.keep (hk.mono (fun b q=>q.2.1))
 ·show Hh _ B _ A6 (L.ws.map ofHd).length c6 (L.ws.map ofHd)
  rw [hl]
  have h1:Hh w1 B (NC B g A A2) A6 L.ws.length c6 (L.ws.map ofHd):=⟨(hld_own hO.2).base hBw,fun b e=>lw b ((hld_own (F:=fun _=>True) hO.2).lt e).1⟩
  exact h1.keep (hk.mono (fun b q=>q.2.1))
end
theorem askc_ {w:World} {g B b0 b1 b2 b3:Nat} {o e:Int} {x:DBd} {A:Option Addr} {c:Nat} {A2:Option Addr} {c2:Nat} {A3:Option Addr} {c3:Nat} {A4:Option Addr} {c4:Nat} {s:Int} {nm:ByteArray} {xx:Bool}
  (h:CallW w g B o e x A c A2 c2 A3 c3 A4 c4) (h0:Blk w b0 141 #[.pointer (some ⟨g,0,none⟩)]) (h1:Blk w b1 3 #[.int .i64 s]) (h2:Blk w b2 9 #[.string nm]) (h3:Blk w b3 4 #[.bool xx]) (hok:okDB x) :
  Calls Tryz.prog 180 #[.pointer (some ⟨b0,0,none⟩),.pointer (some ⟨b1,0,none⟩),.pointer (some ⟨b2,0,none⟩),.pointer (some ⟨b3,0,none⟩)] w fun e' w' =>
   e'=.returned (.bool (lk.freeB (lkOf x) ⟨s,nm,xx⟩))∧(∃ A5 c5 A6 c6,CallW w' g B o e (withL x (lk.askL (lkOf x) ⟨s,nm,xx⟩)) A c A2 c2 A5 c5 A6 c6)∧Frm (fun b=>b=g) w w':=by
 have HC:=Lib.hid h
 have hgl:=h.blk.lt
 have HK:=Lib.hid (fun (w':World) (hb:Below w.heap.size w w')=>lk.AskG_ (lkOf x) ⟨s,nm,xx⟩ _ w' ((h.lkr).ext hb) (by show (x.2.2.1.map hdOf).length≤_;rw [List.length_map];have:=hok.2.2.2.2.1;omega) (by show (x.2.2.2.map hdOf).length≤_;rw [List.length_map];have:=hok.2.2.2.2.2;omega))
 have D:=fun w' (hS:Blk w' b0 141 #[.pointer (some ⟨g,0,none⟩)]∧Blk w' b1 3 #[.int .i64 s]∧Blk w' b2 9 #[.string nm]∧Blk w' b3 4 #[.bool xx])=>(And.intro (hS.1.cell 0) (And.intro (hS.2.1.cell 0) (And.intro (hS.2.2.1.cell 0) (hS.2.2.2.cell 0))))
 have HSB:=Lib.hid (show ∀ w',Below w.heap.size w w'→(Blk w' b0 141 #[.pointer (some ⟨g,0,none⟩)]∧Blk w' b1 3 #[.int .i64 s]∧Blk w' b2 9 #[.string nm]∧Blk w' b3 4 #[.bool xx]) from fun w' q=>⟨h0.ext q,h1.ext q,h2.ext q,h3.ext q⟩)
 have HNE:=Lib.hid (show b0≠g∧b1≠g∧b2≠g∧b3≠g from by
  have key:∀ b t cs,Blk w b t cs→t≠150→b≠g:=fun b t cs hb ht e=>by
   subst e
   have hx:=hb.symm.trans h.blk
   injection hx with hx
   injection hx with _ hx
   exact ht hx
  exact ⟨key _ _ _ h0 (by decide),key _ _ _ h1 (by decide),key _ _ _ h2 (by decide),key _ _ _ h3 (by decide)⟩)
 clear h h0 h1 h2 h3 hok
 go_enter Tryz.func180,Tryz.ntmps180
 go_wp2_with fail
 refine wp_region_oneS (S:=fun w'=>Blk w' b0 141 #[.pointer (some ⟨g,0,none⟩)]∧Blk w' b1 3 #[.int .i64 s]∧Blk w' b2 9 #[.string nm]∧Blk w' b3 4 #[.bool xx]) [(0,true),(1,true),(2,true),(3,true),(4,true),(6,true),(7,true),(8,true),(9,true),(5,false),(10,false),(11,true),(12,true),(13,true),(14,true),(15,true),(16,true),(17,false),(18,true)] (by kernel_rfl) (by kernel_rfl) (by kernel_rfl) (by decide) (HSB.out _ (Below.refl _ _).drew) ?_
 repeat ((with_reducible refine pG ?_);(first|refine pT ?_|refine pF ?_);try go_frame)
 have q2:=HC.out.blk.drew.cell 2
 have q3:=HC.out.blk.drew.cell 3
 refine pD fun K hK=>?_;go_simp
 refine hK.out _ _ (HSB.out _ (Below.refl _ _).drew) ?_
 clear hK K q2 q3
 refine pD fun K hK=>?_;go_simp
 have HK1:=Lib.hid (HK.out w.drew (Below.refl _ _).drew)
 refine HK1.out.mono ?_
 rintro e' w1 ⟨A5,c5,A6,c6,rfl,hO,hb1⟩
 have HO:=Lib.hid hO
 have hbw:=Below.trans (Below.refl w.heap.size w).drew hb1
 refine hK.out _ _ (HSB.out _ hbw) ?_
 clear hK K HK HK1 hO
 repeat ((with_reducible refine pG ?_);(first|refine pT ?_|refine pF ?_);try go_frame)
 obtain ⟨HN,hgr⟩:=HC.out.locks hbw HO.out
 have HN:=Lib.hid HN
 have BG:=HC.out.blk.ext hbw
 have f2:=BG.frozen 2
 have f3:=BG.frozen 3
 have q2:=BG.cell 2
 have q3:=BG.cell 3
 refine pD fun K hK=>?_;go_simp
 have hS1:=HSB.out _ hbw
 have hk:=Keep.grown (F:=fun b=>b≠g) hgr (fun g' h1 h2=>by injection h1 with h1;exact h2 h1.symm)
 refine hK.out _ _ ⟨Blk.keep hS1.1 hk HNE.out.1,Blk.keep hS1.2.1 hk HNE.out.2.1,Blk.keep hS1.2.2.1 hk HNE.out.2.2.1,Blk.keep hS1.2.2.2 hk HNE.out.2.2.2⟩ ?_
 clear hK K f2 f3 q2 q3 BG HC HO hS1 hk D
 have hF:=(Frm.below (G:=fun b=>b=g) hbw).trans (Frm.grown hgr (fun g' h=>by injection h with h;exact h.symm))
 repeat ((with_reducible refine pG ?_);(first|refine pT ?_|refine pF ?_);try go_frame)
 refine wpPerm_done ?_
 go_wp2
 go_ret
 exact ⟨rfl,⟨A5,c5,A6,c6,HN.out⟩,hF⟩
theorem hold_free {w:World} {g B:Nat} {o e:Int} {x:DBd} {A:Option Addr} {c:Nat} {A2:Option Addr} {c2:Nat} {A3:Option Addr} {c3:Nat} {A4:Option Addr} {c4:Nat} {s:Int} {nm:ByteArray} {xx:Bool}
  (h:CallW w g B o e x A c A2 c2 A3 c3 A4 c4) (hok:okDB x) (hse:okSes x) (hs:-1000≤s∧s≤1000) (hm:Mono (cmpT nm) x.1) (hmw:Mono (cmpW s) x.2.1) (his:isG (cmpW s) x.2.1=true) (hit:isG (cmpT nm) x.1=true) (hfree:lk.freeB (lkOf x) ⟨s,nm,xx⟩=true) :
  Calls Tryz.prog 110 #[.pointer (some ⟨g,0,none⟩),.int .i64 s,.string nm,.bool xx] w fun e' w' =>
   e'=.returned (.int .i64 0)∧(∃ A5 c5 A6 c6,CallW w' g B o e (withL x (lk.askL (lkOf x) ⟨s,nm,xx⟩)) A c A2 c2 A5 c5 A6 c6)∧Frm (fun b=>b=g) w w':=by
 have HC:=Lib.hid h
 have HOK:=Lib.hid hok
 have HSE:=Lib.hid hse
 have HM:=Lib.hid hm
 have HMW:=Lib.hid hmw
 have HIS:=Lib.hid his
 have HIT:=Lib.hid hit
 have HFR:=Lib.hid hfree
 have hmf:∀ (fn:Fn) (first cap:Array Value) (w:World),(Instr.makeFunc fn first cap).run Tryz.prog w=.ok (.func fn first cap) w:=fun _ _ _ _=>rfl
 obtain ⟨p,hp⟩:∃ p,posG (cmpW s) x.2.1=p:=⟨_,rfl⟩
 obtain ⟨q,hq⟩:∃ q,posG (cmpT nm) x.1=q:=⟨_,rfl⟩
 have HP:=Lib.hid hp
 have HQ:=Lib.hid hq
 clear h hok hse hm hmw his hit hfree hp hq
 go_enter Tryz.func110,Tryz.ntmps110
 go_upto_region 1 with fail
 obtain ⟨W,hW_,hb1,B0,B1,B2,B3⟩:=al4 w 141 3 9 4 #[.pointer (some ⟨g,0,none⟩)] #[.int .i64 s] #[.string nm] #[.bool xx]
 rw [←hW_]
 clear hW_
 obtain ⟨b0,hb0⟩:∃ b,w.heap.size=b:=⟨_,rfl⟩
 obtain ⟨b1,hb1'⟩:∃ b,w.heap.size+1=b:=⟨_,rfl⟩
 obtain ⟨b2,hb2⟩:∃ b,w.heap.size+1+1=b:=⟨_,rfl⟩
 obtain ⟨b3,hb3⟩:∃ b,w.heap.size+1+1+1=b:=⟨_,rfl⟩
 rw [hb3] at B3 ⊢
 rw [hb2] at B2 ⊢
 rw [hb1'] at B1 ⊢
 rw [hb0] at B0 ⊢
 clear hb0 hb1' hb2 hb3
 have HB:=Lib.hid (show Blk W b0 141 #[.pointer (some ⟨g,0,none⟩)]∧Blk W b1 3 #[.int .i64 s]∧Blk W b2 9 #[.string nm]∧Blk W b3 4 #[.bool xx] from ⟨B0,B1,B2,B3⟩)
 have HC1:=Lib.hid (HC.out.ext hb1)
 have HF1:=Lib.hid hb1
 have q0:=B0.cell 0
 have q1:=B1.cell 0
 have HT:=work_ HC1.out s HOK.out.2.2.1 HMW.out ⟨by omega,by omega⟩ HSE.out
 rw [HIS.out,HP.out] at HT
 have HT:=Lib.hid HT
 clear B0 B1 B2 B3 hb1
 go_wp2_with fail
 refine HT.out.mono ?_
 rintro e' w1 ⟨rfl,hbb⟩
 have HB1:=Lib.hid (And.intro (HB.out.1.ext hbb) (And.intro (HB.out.2.1.ext hbb) (And.intro (HB.out.2.2.1.ext hbb) (HB.out.2.2.2.ext hbb))))
 have HC2:=Lib.hid (HC1.out.ext hbb)
 have HF2:=Lib.hid (HF1.out.trans (Below.mono hbb HF1.out.size))
 clear q0 q1 hbb HT HB HC1 HF1
 have q0:=HB1.out.1.cell 0
 have q2:=HB1.out.2.2.1.cell 0
 have HT:=table_ HC2.out nm HOK.out.1 HM.out
 rw [HIT.out,HQ.out] at HT
 have HT:=Lib.hid HT
 go_wp2_with fail
 refine HT.out.mono ?_
 rintro e' w2 ⟨rfl,hbb⟩
 have HB2:=Lib.hid (And.intro (HB1.out.1.ext hbb) (And.intro (HB1.out.2.1.ext hbb) (And.intro (HB1.out.2.2.1.ext hbb) (HB1.out.2.2.2.ext hbb))))
 have HC3:=Lib.hid (HC2.out.ext hbb)
 have HF3:=Lib.hid (HF2.out.trans (Below.mono hbb HF2.out.size))
 clear q0 q2 hbb HT HB1 HC2 HF2
 have HA:=askc_ HC3.out HB2.out.1 HB2.out.2.1 HB2.out.2.2.1 HB2.out.2.2.2 HOK.out
 rw [HFR.out] at HA
 have HA:=Lib.hid HA
 go_wp2_with fail
 refine wp_loop_rounds 1 ?_
 rw [rounds_succ]
 go_wp2_with fail
 refine HA.out.mono ?_
 rintro e' w3 ⟨rfl,⟨A5,c5,A6,c6,hc⟩,hf⟩
 have HCF:=Lib.hid hc
 have HFF:=Lib.hid ((Frm.below HF3.out).trans hf)
 clear hc hf HA HC3 HF3 HB2
 go_wp2
 go_ret
 exact ⟨rfl,⟨A5,c5,A6,c6,HCF.out⟩,HFF.out⟩
end Go.Proofs.YtgbcdkmjcokclaaGreat.tp
