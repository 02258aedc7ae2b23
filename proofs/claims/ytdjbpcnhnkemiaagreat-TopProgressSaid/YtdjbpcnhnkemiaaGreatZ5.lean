/- Laws of its own that the claim's proof needs; no condition beyond those that each states. -/
import Derived.Test.YtdjbpcnhnkemiaaGreatZ4
import Derived.Lib.MinMax
import Derived.Laws.Rows
import Derived.Test.YtdjbpcnhnkemiaaGreatZ1
import Derived.Tactics
import Derived.Tactics2
import Derived.RegionTactic
import Derived.RegionCalls
import Derived.OwnWalk
import Derived.Lib.SliceRun
import Derived.WalkSpells
import Derived.Lib.AppendZeros
import Derived.Laws.AppendOwnNone
import Derived.Deep.AppendLies
import Derived.Deep.CutRange
import Derived.Deep.CutBlock
import Derived.Laws.StructEq
set_option linter.unusedVariables false
set_option maxRecDepth 1000000
set_option maxHeartbeats 16000000
namespace Go.Proofs.YtdjbpcnhnkemiaaGreat.pg
open Go.ChangeShapes Go.WideShapes Go.ChangeAt Go.RowKit Go.Proofs.YtdjbpcnhnkemiaaGreat.lib Go.Proofs.YtdjbpcnhnkemiaaGreat.lx
structure Cl where
 nm:List UInt8
 k:Int
 nul:Bool
def encC (x:Cl):List Value:=[.string ⟨x.nm.toArray⟩,.int .i64 x.k,.bool x.nul]
theorem kC (x:Cl):(encC x).length=3:=rfl
def idxC (cols:List Cl) (nm:List UInt8):Int:=match cols.findIdx? (fun x=>x.nm == nm) with
 | some i=>(i:Int)
 | none=>-1
def findC (cols:List Cl) (nm:List UInt8):Int × Bool:=match cols.findIdx? (fun x=>x.nm == nm) with
 | some i=>((i:Int),true)
 | none=>(0,false)
theorem idx_none {cols:List Cl} {nm:List UInt8} (h:∀ j (hj:j<cols.length),cols[j].nm≠nm):idxC cols nm = -1:=by
 unfold idxC
 have:cols.findIdx? (fun x=>x.nm == nm)=none:=by
  rw [List.findIdx?_eq_none_iff]
  intro x hx
  obtain ⟨j,hj,rfl⟩:=List.getElem_of_mem hx
  simpa using h j hj
 rw [this]
theorem qio {cols:List Cl} {nm:List UInt8} {k:Nat} {x:Cl} (hx:cols[k]? = some x) (hn:x.nm=nm) (h:∀ j (hj:j<cols.length),j<k->cols[j].nm≠nm):idxC cols nm=k:=by
 unfold idxC
 obtain ⟨hk,e⟩:=List.getElem?_eq_some_iff.1 hx
 have:cols.findIdx? (fun x=>x.nm == nm)=some k:=by
  rw [List.findIdx?_eq_some_iff_getElem]
  refine ⟨hk,by rw [e];simpa using hn,fun j hj=>?_⟩
  simpa using h j (by omega) hj
 rw [this]
theorem index_ (nm:List UInt8) (cols:List Cl) (A:Option Addr) (c px:Nat) {w:World} (hp:w.cell? ⟨px,0,none⟩=some (.string ⟨nm.toArray⟩)) (hpl:px<w.heap.size) (hr:Row w 0 A cols.length c (qal encC cols)) (hl:cols.length<=1000) :
  Calls Tryz.prog 207 #[.slice A cols.length c,.func (.func 208) #[] #[.pointer (some ⟨px,0,none⟩)]] w fun e w'=>e=.returned (.int .i64 (idxC cols nm))/\Below w.heap.size w w':=by
 obtain ⟨n,hn⟩:∃ n,cols.length=n:=⟨_,rfl⟩
 obtain ⟨R,hR⟩:∃ R,idxC cols nm=R:=⟨_,rfl⟩
 rw [hR]
 have HR:=zh hR
 have HN:=zh hn
 have HRW:=zh hr
 have HP:=zh hp
 rw [hn] at hl ⊢
 clear hR hn hr hp
 go_enter Tryz.func207,Tryz.ntmps207
 go_wp2_with fail
 go_loopw [8] (fun i wr=>∃ k:Nat,i=.int .i64 k/\k<=n/\Hid (∀ j (hj:j<cols.length),j<k->cols[j].nm≠nm)/\Below w.heap.size w wr) (fun i _=>n - (intOf i).toNat)
 case atStart=>exact ⟨0,rfl,Nat.zero_le _,zh (fun j hj h=>by omega),zb _ _⟩
 case round =>
  obtain ⟨k,rfl,hk,HNO,hb⟩:=hrel
  have HB:=zh hb
  rcases Nat.lt_or_ge k n with hlt|hge
  case inr =>
   have hd:decide ((k:Int)<(n:Int))=false:=by simp;omega
   have hd2:decide (k<n)=false:=by simp;omega
   obtain rfl:R = -1:=by rw [<-HR.out];exact idx_none (fun j hj=>HNO.out j hj (by have:=HN.out;omega))
   clear hge hb
   go_wp2
   go_ret
   exact ⟨rfl,HB.out⟩
  have hd:decide ((k:Int)<(n:Int))=true:=by simp;omega
  have hd2:decide (k<n)=true:=by simp;omega
  have hkm:(k:Int)<(n:Int):=by omega
  obtain ⟨x,hx⟩:∃ x,cols[k]? = some x:=⟨_,List.getElem?_eq_getElem (by have:=HN.out;omega)⟩
  obtain ⟨b,off,rfl,_,_,hbl⟩:=HRW.out.some_ (by have:=HN.out;omega)
  have hrow:=HRW.out.ext hb
  have key:∀ (j:Nat) u,(encC x)[j]? = some u->wr.cell? ⟨b,off+k * 3+j,none⟩=some u:=fun j u hu=>by
   rw [Nat.add_assoc]
   exact hrow.at_ (qdg encC 3 kC cols k x j u hx hu)
  have c0:=key 0 _ rfl
  have c1:=key 1 _ rfl
  have c2:=key 2 _ rfl
  simp only [Nat.add_zero] at c0
  have cp:wr.cell? ⟨px,0,none⟩=some (.string ⟨nm.toArray⟩):=(hb.cell (by exact hpl)).trans HP.out
  have hpr:px<wr.heap.size:=Nat.lt_of_lt_of_le hpl hb.size
  have HX:=zh hx
  clear hx hrow key hb
  by_cases he:x.nm=nm
  case pos =>
   have hst:(x.nm.toArray == nm.toArray)=true:=by simpa using he
   have hsl:(x.nm == nm)=true:=by simpa using he
   obtain rfl:R=(k:Int):=by rw [<-HR.out];exact qio HX.out he HNO.out
   subst he
   clear hst hsl
   go_wp2
   go_ret
   exact ⟨rfl,HB.out.alloc HB.out.size _⟩
  have hst:(x.nm.toArray == nm.toArray)=false:=by simpa using he
  have hsl:(x.nm == nm)=false:=by simpa using he
  have HE:=zh he
  clear he
  go_wp2
  go_roundw
  case rel=>exact ⟨k+1,by go_num,by omega,zh (fun j hj h=>by
   by_cases hjk:j=k
   ·subst hjk
    obtain ⟨_,e⟩:=List.getElem?_eq_some_iff.1 HX.out
    rw [e];exact HE.out
   ·exact HNO.out j hj (by omega)),HB.out.alloc HB.out.size _⟩
  case measure=>simp [intOf];omega
theorem find_idx (cols:List Cl) (nm:List UInt8):findC cols nm=(max (idxC cols nm) 0,decide (0<=idxC cols nm)):=by
 unfold findC idxC
 split
 ·next i h =>
  have:(0:Int)<=(i:Int):=Int.natCast_nonneg i
  simp
 ·rfl
theorem idx_bd (cols:List Cl) (nm:List UInt8) (h:cols.length<=1000):-1<=idxC cols nm/\idxC cols nm<=1000:=by
 unfold idxC
 split
 ·next i hi =>
  have:=List.findIdx?_eq_some_iff_getElem.1 hi
  obtain ⟨h1,_⟩:=this
  omega
 ·omega
theorem find_ (nm tn:List UInt8) (cols:List Cl) (A:Option Addr) (c:Nat) (key:Int) (only:Bool) {w:World} (hr:Row w 0 A cols.length c (qal encC cols)) (hl:cols.length<=1000) :
  Calls Tryz.prog 136 #[.agg #[.string ⟨tn.toArray⟩,.slice A cols.length c,.int .i64 key,.bool only],.string ⟨nm.toArray⟩] w fun e w'=>e=.returned (.tuple #[.int .i64 (findC cols nm).1,.bool (findC cols nm).2])/\Below w.heap.size w w':=by
 have HRW:=zh hr
 obtain ⟨n,hn⟩:∃ n,cols.length=n:=⟨_,rfl⟩
 have hbd:=idx_bd cols nm hl
 have HI:=zh (fun (w':World) (px:Nat) (h1:w'.cell? ⟨px,0,none⟩=some (.string ⟨nm.toArray⟩)) (h2:px<w'.heap.size) (h3:Row w' 0 A cols.length c (qal encC cols))=>index_ nm cols A c px h1 h2 h3 hl)
 have HFI:=find_idx cols nm
 obtain ⟨R,hR⟩:∃ R,idxC cols nm=R:=⟨_,rfl⟩
 have HI:=HI.out
 rw [hR] at HFI hbd HI
 rw [hn] at HI ⊢
 rw [HFI]
 have HI:=zh HI
 have HN:=zh hn
 have hmf:∀ (fn:Fn) (first cap:Array Value) (w:World),(Instr.makeFunc fn first cap).run Tryz.prog w=.ok (.func fn first cap) w:=fun _ _ _ _=>rfl
 clear hR hn hr HFI
 go_enter Tryz.func136,Tryz.ntmps136
 go_upto_region 1 with fail
 obtain ⟨W1,hW_,hb1,BS,BP⟩:=al2 w 66 9 #[.string ⟨tn.toArray⟩,.slice A n c,.int .i64 key,.bool only] #[.string ⟨nm.toArray⟩]
 rw [<-hW_]
 clear hW_
 have hrow:=HRW.out.ext hb1
 rw [HN.out] at hrow
 have q1:=(four BS (zb _ _)).2.1
 have HC:=zh (HI.out W1 _ (BP.cell 0) BP.lt hrow)
 have HB1:=zh hb1
 clear BS BP hrow hb1
 go_wp2_with fail
 refine (HC.out).mono ?_
 rintro e w2 ⟨rfl,hb2⟩
 have HB2:=zh (bch0 HB1.out hb2)
 clear hb2 q1
 go_wp2
 exact bodyPost_ret (v:=.tuple #[.int .i64 (max R 0),.bool (decide (0<=R))]) (by simp [results,Tryz.results136,go_sem];try rfl) rfl ⟨rfl,HB2.out⟩
end Go.Proofs.YtdjbpcnhnkemiaaGreat.pg
namespace Go.Proofs.YtdjbpcnhnkemiaaGreat.tp
open Go.ChangeShapes Go.WideShapes Go.ChangeAt Go.RowKit Go.Proofs.YtdjbpcnhnkemiaaGreat.lib
variable {w w':World}
variable {n c g B b off i j k m n2 n3 c2 c3 c4 c5 c6 gs gn np lo gr gd id b2 off2:Nat}
variable {A A2 A3 A4 A5 A6:Option Addr}
variable {cs:List Value}
variable {l r:List UInt8}
variable {rs:List (List UInt8)}
variable {s o e:Int}
variable {nm:ByteArray}
variable {F G:qab}
variable {x:DBd}
structure GoodS (nm:List UInt8) (cols:List pg.Cl) (key:Nat):Prop where
 nok:pg.nameOk nm=true
 nl:nm.length<=1000
 c1:1<=cols.length
 c6:cols.length<=6
 col:∀ (i:Nat) x,cols[i]? = some x->pg.nameOk x.nm=true/\x.nm.length<=1000/\pg.findC cols x.nm=((i:Int),true)/\1<=x.k/\x.k<=3
 ky:∃ x,cols[key]? = some x/\x.nul=false
theorem col3 {cols:List pg.Cl} (h:Row w 0 (some ⟨b,off,none⟩) n c (qal pg.encC cols)) {x:pg.Cl} (hi:cols[i]? = some x):
  w.cell? ⟨b,off+i * 3,none⟩=some (.string ⟨x.nm.toArray⟩)/\w.cell? ⟨b,off+i * 3+1,none⟩=some (.int .i64 x.k)/\w.cell? ⟨b,off+i * 3+2,none⟩=some (.bool x.nul):=by
 have key:∀ j u,(pg.encC x)[j]? = some u->w.cell? ⟨b,off+i * 3+j,none⟩=some u:=fun j u hu=>by
  rw [Nat.add_assoc];exact h.at_ (qdg pg.encC 3 pg.kC cols i x j u hi hu)
 exact ⟨key 0 _ rfl,key 1 _ rfl,key 2 _ rfl⟩
theorem checkG_ (nm:List UInt8) (cols:List pg.Cl) (key:Nat) (only:Bool) (A:Option Addr) (c:Nat) (hG:GoodS nm cols key) (hr:Row w 0 A cols.length c (qal pg.encC cols)):
  Calls Tryz.prog 64 #[.agg #[.string ⟨nm.toArray⟩,.slice A cols.length c,.int .i64 key,.bool only]] w fun e w'=>e=.returned (.int .i64 0)/\Below w.heap.size w w':=by
 have HG:=zh hG
 have HR:=zh hr
 obtain ⟨n,hn⟩:∃ n,cols.length=n:=⟨_,rfl⟩
 have hn1:1<=n:=by rw [<-hn];exact hG.c1
 have hn6:n<=6:=by rw [<-hn];exact hG.c6
 have HN:=zh hn
 have HFI:=zh (fun (w':World) (i:Nat) (x:pg.Cl) (hx:cols[i]? = some x) (h:Row w' 0 A cols.length c (qal pg.encC cols))=>pg.find_ x.nm nm cols A c key only h (by omega))
 obtain ⟨ky,hky,hkn⟩:=hG.ky
 have hkl:key<n:=by rw [<-hn];exact (List.getElem?_eq_some_iff.1 hky).1
 have HKY:=zh (za hky hkn)
 have HFI:=HFI.out
 rw [hn] at HFI hr ⊢
 have HFI:=zh HFI
 have HR:=zh hr
 obtain ⟨b,off,rfl,_,_,hbl⟩:=hr.some_ (by omega)
 clear hn hr hG hky hkn
 go_enter Tryz.func64,Tryz.ntmps64
 go_upto_region 2 with fail
 obtain ⟨W1,hW_,hb1,BS,BP⟩:=al2 w 66 285 #[.string ⟨nm.toArray⟩,.slice (some ⟨b,off,none⟩) n c,.int .i64 key,.bool only] #[.int .u32 0,.int .i32 0,.int .u32 0,.map none]
 rw [<-hW_]
 clear hW_
 obtain ⟨gs,hgs⟩:∃ g,w.heap.size=g:=⟨_,rfl⟩
 obtain ⟨gp,hgp⟩:∃ g,w.heap.size+1=g:=⟨_,rfl⟩
 have hsp0:pg.Sp W1 gp:=.inl (hgp ▸ BP)
 have hne:gs≠gp:=by omega
 have HGP:=zh (show w.heap.size<=gs/\w.heap.size<=gp by omega)
 rw [hgp]
 rw [hgs] at BS ⊢
 have qs:=pg.four BS (zb _ _)
 have HSN:=pg.sname_ nm HG.out.nl hsp0
 rw [HG.out.nok] at HSN
 have HSN:=zh HSN
 have HB1:=zh hb1
 have HBS:=zh BS
 clear BS BP hb1 hsp0 hgp hgs
 go_wp2_with fail
 refine HSN.out.mono ?_
 rintro e w2 ⟨rfl,hsp,hg2⟩
 have BS2:=HBS.out.grown hg2 (by simp;omega)
 have HB2:=zh (HB1.out.grown hg2 HB1.out.size (fun k hk=>by injection hk with hk;have:=HGP.out;omega))
 clear qs
 have qs:=pg.four BS2 (zb _ _)
 have HBS2:=zh BS2
 have HSP2:=zh hsp
 clear BS2 hsp hg2 HSN HBS HB1
 have d1:decide ((n:Int)<1)=false:=by simp;omega
 have d2:decide ((6:Int)<(n:Int))=false:=by simp;omega
 go_wp2_with fail
 go_loopw [25] (fun i wr=>∃ k:Nat,i=.int .i64 k/\k<=n/\Hid (Below w.heap.size w wr)/\Hid (Blk wr gs 66 #[.string ⟨nm.toArray⟩,.slice (some ⟨b,off,none⟩) n c,.int .i64 key,.bool only])/\Hid (pg.Sp wr gp)) (fun i _=>n - (intOf i).toNat)
 case atStart=>exact ⟨0,rfl,Nat.zero_le _,HB2,HBS2,HSP2⟩
 case round =>
  clear HB2 HBS2 HSP2 qs
  obtain ⟨k,rfl,hk,HB,HBS,HSP⟩:=hrel
  rcases Nat.lt_or_ge k n with hlt|hge
  ·have hd:decide ((k:Int)<(n:Int))=true:=by simp;omega
   have hkn:(k:Int)<(n:Int):=by omega
   obtain ⟨x,hx⟩:∃ x,cols[k]? = some x:=⟨_,List.getElem?_eq_getElem (by rw [HN.out];omega)⟩
   have HX:=zh hx
   obtain ⟨g1,g2,g3,g4,g5⟩:=HG.out.col k x hx
   have HR4:=HR.out.ext HB.out
   have qc:=col3 HR4 hx
   clear HR4 hx
   go_upto_region 9 with fail
   obtain ⟨W4,hW_,hb4,BC⟩:=al1 wr 63 #[.string ⟨x.nm.toArray⟩,.int .i64 x.k,.bool x.nul]
   rw [<-hW_]
   clear hW_
   obtain ⟨gc,hgc⟩:∃ g,wr.heap.size=g:=⟨_,rfl⟩
   rw [hgc] at BC ⊢
   have hgc1:gp<gc:=by rw [<-hgc];exact HSP.out.lt
   clear hgc
   have HB4:=zh (zt HB.out (zm hb4 HB.out.size))
   have BS4:=HBS.out.ext hb4
   have HSP4:=zh (HSP.out.ext hb4)
   have HF:=HFI.out W4 k x HX.out (HR.out.ext HB4.out)
   rw [g3] at HF
   have HF:=zh HF
   clear qc
   have qc:=BC.three (zb _ _)
   have qs:=pg.four BS4 (zb _ _)
   have HBC:=zh BC
   have HBS4:=zh BS4
   clear BC BS4 hb4 HB HBS HSP
   go_wp2_with fail
   refine HF.out.mono ?_
   rintro e w5 ⟨rfl,hb5⟩
   have HB5:=zh (zt HB4.out (zm hb5 HB4.out.size))
   have BS5:=HBS4.out.ext hb5
   have BC5:=HBC.out.ext hb5
   have HSN:=pg.sname_ x.nm g2 (HSP4.out.ext hb5)
   rw [g1] at HSN
   have HSN:=zh HSN
   clear qs qc
   have qs:=pg.four BS5 (zb _ _)
   have qc:=BC5.three (zb _ _)
   have HBS5:=zh BS5
   have HBC5:=zh BC5
   clear BS5 BC5 hb5 HB4 HBS4 HBC HSP4 HF
   go_wp2_with fail
   refine HSN.out.mono ?_
   rintro e w6 ⟨rfl,hsp6,hg6⟩
   have HB6:=zh (HB5.out.grown hg6 HB5.out.size (fun k hk=>by injection hk with hk;have:=HGP.out;omega))
   have BS6:=HBS5.out.grown hg6 (by simp;omega)
   have BC6:=HBC5.out.grown hg6 (by simp;omega)
   have HSP6:=zh hsp6
   clear qs qc
   have qs:=pg.four BS6 (zb _ _)
   have qc:=BC6.three (zb _ _)
   have HBS6:=zh BS6
   clear BS6 BC6 hsp6 hg6 HB5 HBS5 HBC5 HSN
   have d3:decide (x.k<1)=false:=by simp;omega
   have d4:decide (3<x.k)=false:=by simp;omega
   go_wp2
   go_roundw
   case rel=>exact ⟨k+1,by go_num,by omega,HB6,HBS6,HSP6⟩
   case measure=>simp [intOf];omega
  ·obtain rfl:k=n:=by omega
   have hd:decide ((k:Int)<(k:Int))=false:=by simp
   have qs:=pg.four HBS.out (zb _ _)
   have qk:=col3 (HR.out.ext HB.out) HKY.out.1
   rw [HKY.out.2] at qk
   have hki:(key:Int)<(k:Int):=by omega
   have d5:decide ((key:Int)<0)=false:=by simp
   have d6:decide ((k:Int)<=(key:Int))=false:=by simp;omega
   go_wp2
   go_ret
   exact ⟨rfl,HB.out⟩
theorem qbe {P:Program} {fn:Func} {p u:Tmp} {ty:TypeId} (h:fn.results=#[.cell p ty,.tmp u]) (tmps:Array Value) (w:World) (g:Nat) (t:TypeId) (cs:Array Value) (fr:Nat × Nat) (d:TypeDesc)
  (hp:tmps.getD p undef=.pointer (some ⟨g,0,none⟩)) (hg:w.heap[g]? = some (.cells cs t fr))
  (hu:P.underlying ty=some d) (hd:(match d with | .struct _ | .array _ _=>true|_=>false)=true) (hi:(P.info? ty).map (·.size)=some cs.size) {y:Value} (hy:tmps.getD u undef=y) :
  (results fn tmps).run P w=.ok (.tuple #[.agg cs,y]) w:=by
 subst hy
 have hp':tmps[p]?.getD undef=.pointer (some ⟨g,0,none⟩):=by simpa using hp
 simp [results,h,hp',asAddr,run_loadVar_row w g t ty cs fr d hg hu hd hi]
theorem qky {P:Program} {fn:Func} {p u v:Tmp} {ty:TypeId} (h:fn.results=#[.cell p ty,.tmp u,.tmp v]) (tmps:Array Value) (w:World) (g:Nat) (t:TypeId) (cs:Array Value) (fr:Nat × Nat) (d:TypeDesc)
  (hp:tmps.getD p undef=.pointer (some ⟨g,0,none⟩)) (hg:w.heap[g]? = some (.cells cs t fr))
  (hu:P.underlying ty=some d) (hd:(match d with | .struct _ | .array _ _=>true|_=>false)=true) (hi:(P.info? ty).map (·.size)=some cs.size) {y z:Value} (hy:tmps.getD u undef=y) (hz:tmps.getD v undef=z) :
  (results fn tmps).run P w=.ok (.tuple #[.agg cs,y,z]) w:=by
 subst hy hz
 have hp':tmps[p]?.getD undef=.pointer (some ⟨g,0,none⟩):=by simpa using hp
 simp [results,h,hp',asAddr,run_loadVar_row w g t ty cs fr d hg hu hd hi]
def DBE (x:DBd) (er:Int) (w:World) (e:Ending) (w':World):Prop:=∃ cs:List Value,e=.returned (.tuple #[.agg cs.toArray,.int .i64 er])/\eDB.rel w' (fun b=>w.heap.size<=b) cs x/\Below w.heap.size w w'
def qdf (x:pg.Cl):ColD:=(⟨x.nm.toArray⟩,x.k,x.nul)
def qbj (nm:List UInt8) (cols:List pg.Cl) (key:Nat) (only:Bool):Sch:=(⟨nm.toArray⟩,cols.map qdf,(key:Int),only)
theorem qnu {cols:List pg.Cl} (h:Sl eCol w F A n c (cols.map qdf)):Row w 0 A n c (qal pg.encC cols)/\cols.length=n:=by
 obtain ⟨css,h1,h2,h3⟩:=h
 have e:css=cols.map pg.encC:=by
  have hl:css.length=cols.length:=by rw [h2.1,List.length_map]
  refine List.ext_getElem? fun i=>?_
  rw [List.getElem?_map]
  cases hx:cols[i]? with
  | none =>
   rw [List.getElem?_eq_none_iff] at hx
   rw [List.getElem?_eq_none (by omega)]
   rfl
  | some y =>
   have hi:=(List.getElem?_eq_some_iff.1 hx).1
   have hc:css[i]? = some css[i]:=List.getElem?_eq_getElem (by omega)
   have hr:=h2.2 i css[i] (qdf y) hc (by rw [List.getElem?_map,hx];rfl)
   rw [hc]
   obtain ⟨_,_,e1,e2,_,_,e3,e4,e5⟩:=hr
   rw [e1,e2,e3,e4,e5]
   rfl
 subst e
 refine ⟨?_,by simpa using h3⟩
 rw [show qal pg.encC cols=(cols.map pg.encC).flatten from List.flatMap_def ..]
 exact h1.row
theorem OwnE.row {α:Type} {E:Enc α} {t:TypeId} {x:List α} (h:OwnE E t w B F A n c x) (hg:(Value.slice A n c).ownBlock=some g):A=some ⟨g,0,none⟩:=by
 obtain ⟨css,h1,_,_⟩:=h
 rcases h1.2 with ⟨z,_⟩|⟨g',cap,cur,z,_⟩
 ·injection z with z;rw [z] at hg;cases hg
 ·injection z with z;rw [z] at hg ⊢;injection hg with hg;rw [<-hg]
theorem OwnE.keepX {α:Type} {E:Enc α} {T t:TypeId} {x:List α} (h:OwnE E t w B F A n c x) (hT:KeepT T w w') (ht:t≠T) (hk:Keep F w w'):OwnE E t w' B F A n c x:=by
 obtain ⟨css,h1,h2,h3⟩:=h
 exact ⟨css,qgz h1 hT ht,h2.keep hk,h3⟩
theorem four_ {t:TypeId} {x0 x1 x2 x3 x4 x5 x6 x7:Value} (h:Blk w g t #[x0,x1,x2,x3,x4,x5,x6,x7]):w.cell? ⟨g,0,none⟩=some x0/\w.cell? ⟨g,1,none⟩=some x1/\w.cell? ⟨g,2,none⟩=some x2/\w.cell? ⟨g,3,none⟩=some x3:=⟨h.cell 0,h.cell 1,h.cell 2,h.cell 3⟩
def DBEO (x:DBd) (er:Int) (w:World) (e:Ending) (w':World):Prop:=∃ cs:List Value,e=.returned (.tuple #[.agg cs.toArray,.int .i64 er])/\eDB.rel w' (fun b=>w.heap.size<=b) cs x/\(∃ A c rest,cs=.slice A x.1.length c::rest/\OwnE eTab 120 w' w.heap.size (fun b=>w.heap.size<=b) A x.1.length c x.1)/\Below w.heap.size w w'
theorem OwnDB.tab {e:Ending} (h:OwnDB x w e w'):∀ cz:List Value,e=.returned (.agg cz.toArray)->∃ A c rest,cz=.slice A x.1.length c::rest/\OwnE eTab 120 w' w.heap.size (fun b=>w.heap.size<=b) A x.1.length c x.1:=by
 obtain ⟨A,c,A2,c2,A3,c3,A4,c4,h1,⟨h2,h3,h4,h5,_⟩,h6⟩:=h
 intro cz e1
 rw [h1] at e1
 injection e1 with e1
 injection e1 with e1
 have e2:=congrArg Array.toList e1
 simp only at e2
 exact ⟨A,c,_,e2.symm,h2.mono (fun b h=>h.1)⟩
theorem qom {FS:qab} {nm:List UInt8} {cols:List pg.Cl} {key:Nat} {only:Bool} (h:eDB.rel w F cs x) (hok:okDB x) (hS:Sl eCol w FS A cols.length c (cols.map qdf)) (hG:GoodS nm cols key)
  (hm:Mono (cmpT ⟨nm.toArray⟩) x.1) (hfree:isG (cmpT ⟨nm.toArray⟩) x.1=false) (hlen:x.1.length<8) (hwk:x.2.1.length=0) :
  Calls Tryz.prog 21 #[.agg cs.toArray,.agg #[.string ⟨nm.toArray⟩,.slice A cols.length c,.int .i64 key,.bool only]] w (DBEO (x.1.take (posG (cmpT ⟨nm.toArray⟩) x.1)++(qbj nm cols key only,[])::x.1.drop (posG (cmpT ⟨nm.toArray⟩) x.1),x.2) 0 w):=by
 have HS:=zh h
 have HSC:=zh hS
 have HG:=zh hG
 have HOK:=zh hok
 have HM:=zh hm
 have HFR:=zh hfree
 obtain ⟨p,hp⟩:∃ p,posG (cmpT ⟨nm.toArray⟩) x.1=p:=⟨_,rfl⟩
 have hpl:p<=x.1.length:=by rw [<-hp];exact posG_le _ _
 rw [hp]
 have HP:=zh hp
 obtain ⟨nc,hnc⟩:∃ n,cols.length=n:=⟨_,rfl⟩
 have HNC:=zh hnc
 rw [hnc]
 obtain ⟨s,hs⟩:∃ s:ByteArray,s=⟨nm.toArray⟩:=⟨_,rfl⟩
 have HSS:=zh hs
 rw [<-hs]
 obtain ⟨nt,hnt⟩:∃ n,x.1.length=n:=⟨_,rfl⟩
 have HNT:=zh hnt
 obtain ⟨A1,n1,c1,A2,n2,c2,A3,n3,c3,A4,n4,c4,rfl,h1,h2,h3,h4⟩:=qav h
 have e1:n1=nt:=by rw [<-hnt];exact h1.len.symm
 have e2:n2=0:=by have:=h2.len;omega
 subst e1 e2
 rw [hnt] at hpl hlen
 clear h hS hG hok hm hfree hp hnc hs hnt hwk h1 h2 h3 h4
 go_enter Tryz.func21,Tryz.ntmps21
 go_upto_region 1 with fail
 obtain ⟨W,hW_,hb1,BD,BS,BR⟩:=al3 w 31 66 31 #[.slice A1 n1 c1,.slice A2 0 c2,.slice A3 n3 c3,.slice A4 n4 c4] #[.string s,.slice A nc c,.int .i64 key,.bool only] #[.slice none 0 0,.slice none 0 0,.slice none 0 0,.slice none 0 0]
 rw [<-hW_]
 clear hW_
 obtain ⟨gd,hgd⟩:∃ g,w.heap.size=g:=⟨_,rfl⟩
 obtain ⟨gs,hgs⟩:∃ g,w.heap.size+1=g:=⟨_,rfl⟩
 obtain ⟨gr,hgr⟩:∃ g,w.heap.size+1+1=g:=⟨_,rfl⟩
 have HGS:=zh (show w.heap.size<=gd/\w.heap.size<=gs/\w.heap.size<=gr/\gd<gs/\gs<gr by omega)
 rw [hgr] at BR ⊢
 rw [hgs] at BS ⊢
 rw [hgd] at BD ⊢
 have HF:=zh (qhq (eDB.ext HS.out hb1) HOK.out)
 have hgrW:gr<W.heap.size:=BR.lt
 have hgsW:gs<W.heap.size:=BS.lt
 have hgdW:gd<W.heap.size:=BD.lt
 have HBD:=zh BD
 have HBS:=zh BS
 have HBR:=zh BR
 have HB1:=zh hb1
 have qd:=four BD (zb _ _)
 clear hgd hgs hgr BD BS BR hb1
 go_wp2_with fail
 refine HF.out.mono ?_
 rintro e w1 ⟨g,rfl,⟨A5,c5,A6,c6,A7,c7,A8,c8,hC⟩,hb2⟩
 have hgW:W.heap.size<=g:=hC.lo
 have HC:=zh hC
 have HBD1:=zh (HBD.out.ext hb2)
 have HBS1:=zh (HBS.out.ext hb2)
 have HBR1:=zh (HBR.out.ext hb2)
 have HB2:=zh ((HB1.out.tr hb2))
 have HSC1:=zh (HSC.out.ext HB2.out)
 clear qd hC hb2 HF HBD HBS HBR HB1
 have HK:=checkG_ nm cols key only A c HG.out (w:=w1) (by have:=(qnu HSC1.out).1;exact this)
 rw [<-HSS.out,HNC.out] at HK
 have HK:=zh HK
 have qs:=four HBS1.out (zb _ _)
 go_wp2_with fail
 refine HK.out.mono ?_
 rintro e w2 ⟨rfl,hb3⟩
 have HC2:=zh (HC.out.ext hb3)
 have HBD2:=zh (HBD1.out.ext hb3)
 have HBS2:=zh (HBS1.out.ext hb3)
 have HBR2:=zh (HBR1.out.ext hb3)
 have HB3:=zh ((HB2.out.tr hb3))
 clear qs hb3 HK HC HBD1 HBS1 HBR1 HB2 HSC1
 go_wp2_with fail
 refine fail_ok.mono ?_
 rintro e w3 ⟨rfl,hb4⟩
 have HC3:=zh (HC2.out.ext hb4)
 have HBD3:=zh (HBD2.out.ext hb4)
 have HBS3:=zh (HBS2.out.ext hb4)
 have HBR3:=zh (HBR2.out.ext hb4)
 have HB4:=zh ((HB3.out.tr hb4))
 clear hb4 HC2 HBD2 HBS2 HBR2 HB3
 have HT:=qme HC3.out ⟨nm.toArray⟩ HOK.out.1 HM.out
 rw [HFR.out,HP.out,<-HSS.out] at HT
 have HT:=zh HT
 have qs:=four HBS3.out (zb _ _)
 go_wp2_with fail
 refine HT.out.mono ?_
 rintro e w4 ⟨rfl,hb5⟩
 have HC4:=zh (HC3.out.ext hb5)
 have HBD4:=zh (HBD3.out.ext hb5)
 have HBS4:=zh (HBS3.out.ext hb5)
 have HBR4:=zh (HBR3.out.ext hb5)
 have HB5:=zh ((HB4.out.tr hb5))
 clear hb5 HC3 HBD3 HBS3 HBR3 HB4 qs HT
 have qs:=four HBS4.out (zb _ _)
 have qd:=four HBD4.out (zb _ _)
 have q7:=HC4.out.blk.cell 7
 have d1:decide ((8:Int)<=(n1:Int))=false:=by simp;omega
 go_upto_region 12 with fail
 clear qs qd q7 d1
 have BG4:=HC4.out.blk
 rw [HNT.out] at BG4
 have D:=fun w' (hS:Blk w' g 110 #[.slice A5 n1 c5,.slice A6 x.2.1.length c6,.slice A7 x.2.2.1.length c7,.slice A8 x.2.2.2.length c8,.int .u32 0,.int .i32 0,.int .u32 0,.int .i64 0]/\Blk w' gs 66 #[.string s,.slice A nc c,.int .i64 key,.bool only])=>(za (hS.1.cell 0) (four hS.2 (zb _ _)))
 have HSB:=zh (show ∀ w',Below w4.heap.size w4 w'->(Blk w' g 110 #[.slice A5 n1 c5,.slice A6 x.2.1.length c6,.slice A7 x.2.2.1.length c7,.slice A8 x.2.2.2.length c8,.int .u32 0,.int .i32 0,.int .u32 0,.int .i64 0]/\Blk w' gs 66 #[.string s,.slice A nc c,.int .i64 key,.bool only]) from fun w' h=>⟨BG4.ext h,HBS4.out.ext h⟩)
 clear BG4
 refine r3 (S:=fun w'=>Blk w' g 110 #[.slice A5 n1 c5,.slice A6 x.2.1.length c6,.slice A7 x.2.2.1.length c7,.slice A8 x.2.2.2.length c8,.int .u32 0,.int .i32 0,.int .u32 0,.int .i64 0]/\Blk w' gs 66 #[.string s,.slice A nc c,.int .i64 key,.bool only]) [(0,true),(1,true),(2,true),(3,true),(4,true),(5,true),(6,true),(7,true),(8,true),(9,false),(10,false),(11,false)] [(12,true),(13,true),(14,true),(15,false)] (HSB.out _ (zb _ _).drew) ?_
 repeat ((first|refine pT ?_|refine pF ?_);try go_frame)
 clear D
 have HSW:=zh (show eTab.rel w4.drew FS [.string s,.slice A nc c,.int .i64 key,.bool only,.slice none 0 0] (qbj nm cols key only,[]) from by
  have h:=HSC.out.ext (HB5.out.drew)
  rw [HNC.out] at h
  rw [HSS.out]
  exact qho (x:=(qbj nm cols key only,[])) h (Sl.nil _ _) (.inl rfl))
 have HOT:=zh (qlq HSW.out (show qeh (qbj nm cols key only,[]) from ⟨by simp [qbj];have:=HG.out.c6;omega,by simp,by simp⟩))
 refine pD fun K hK=>?_;go_simp
 refine HOT.out.mono ?_
 rintro e w5 ⟨ct,rfl,hrt,hb6⟩
 have HRT:=zh hrt
 refine hK.out _ _ (HSB.out _ ((zb _ _).drew.trans hb6)) ?_
 clear hK K HOT HSW hrt
 have hctl:ct.length=5:=eTab.len HRT.out
 have hcto:=eTab.one HRT.out
 obtain ⟨i0,hi0,hy0,hy1,hy2⟩:=ip Tryz.prog 120 (.agg #[.string ⟨#[]⟩,.slice none 0 0,.int .i64 0,.bool false,.slice none 0 0]) 5 80
 have hd45:Below w4.heap.size w4 w5:=(zb _ _).drew.trans hb6
 refine qaj rfl (qae rfl) (fun K hK=>?_)
 refine qbs 61 25 120 (.tmp 60) rfl rfl ct rfl i0 _ Tryz.underlying25 hi0 hy0 (by rw [hy1,hctl]) (by rw [hctl];omega) (by rw [hctl];omega) ?_
 have hb7:Below w5.heap.size w5 (w5.alloc (.cells ct.toArray 120)):=(zb _ _).alloc (zl _) _
 refine hK.out _ _ (HSB.out _ ((hd45.tr hb7))) ?_
 clear hK K
 have BV:Blk (w5.alloc (.cells ct.toArray 120)) w5.heap.size 120 ct.toArray:=Blk.new _ _ _
 have hd6:=(hd45.tr hb7)
 have hs45:=hd45.size
 generalize w5.alloc (.cells ct.toArray 120)=w6 at *
 have HC6:=zh (HC4.out.ext hd6)
 have HBR6:=zh (HBR4.out.ext hd6)
 have HB6:=zh ((HB5.out.tr hd6))
 have HRT6:=zh (eTab.ext HRT.out hb7)
 have hg4:g<w4.heap.size:=HC4.out.blk.lt
 have lA:∀ b,A5=some ⟨b,0,none⟩->b<w4.heap.size:=fun b h=>(HC4.out.tab.lt h).2
 have lA2:∀ b,A6=some ⟨b,0,none⟩->b<w4.heap.size:=fun b h=>(HC4.out.wrk.lt h).2
 have hB4:W.heap.size<=w4.heap.size:=Nat.le_of_lt (Nat.lt_of_le_of_lt hgW hg4)
 have hsd:w4.drew.heap.size=w4.heap.size:=rfl
 have HI:=insT (i:=p) (gv:=w5.heap.size) (t:=(qbj nm cols key only,[])) (cs:=ct) HC6.out.tab (eTab.mono HRT6.out (fun b h=>⟨by omega,by omega,fun e=>by have:=lA b e;omega,fun e=>by have:=lA2 b e;omega⟩)) BV (fun b e=>⟨by have:=lA b e;omega,fun hf=>hf.2.2.1 e⟩) (by rw [HNT.out];exact hpl) (by rw [HNT.out];omega) (Nat.le_trans hB4 (Nat.le_trans hs45 (Nat.le_of_lt BV.lt)))
 rw [HNT.out] at HI
 have HI:=zh HI
 have HD46:=zh hd6
 clear HRT HRT6 BV hb6 hb7 hd45 hd6
 refine pD fun K hK=>?_;go_simp
 refine HI.out.mono ?_
 rintro e w7 ⟨A',c',rfl,ho,hg⟩
 have HO:=zh ho
 have hkA:Keep (fun b=>A5≠some ⟨b,0,none⟩) w6 w7:=Keep.grown hg (fun g' h1 h2=>h2 (HC6.out.tab.row (by rw [HNT.out];exact h1)))
 have hBg:∀ b,(Value.slice A5 n1 c5).ownBlock=some b->W.heap.size<=b:=fun b h=>(HC6.out.tab.lt (HC6.out.tab.row (by rw [HNT.out];exact h))).1
 have hgne:A5≠some ⟨g,0,none⟩:=fun e=>(HC6.out.ne g e).2 rfl
 have hWw:w.heap.size<=W.heap.size:=by have:=HGS.out.2.2.1;omega
 have hbw7:Below w.heap.size w w7:=HB6.out.grown hg HB6.out.size (fun k hk=>Nat.le_trans hWw (hBg k hk))
 have BG7:=Blk.keep HC6.out.blk hkA hgne
 have BR7:=Blk.keep HBR6.out hkA (fun e=>by have:=(HC6.out.tab.lt e).1;omega)
 refine hK.out _ _ ⟨Blk.keep (HSB.out w6 HD46.out).1 hkA hgne,Blk.keep (HSB.out w6 HD46.out).2 hkA (fun e=>by have:=(HC6.out.tab.lt e).1;omega)⟩ (qak ?_)
 clear hK K hg ho HI HSB
 repeat ((first|refine pT ?_|refine pF ?_);try go_frame)
 have f0:=BG7.frozen 0
 have q0:=BG7.cell 0
 refine pD fun K hK=>?_;go_simp
 refine hK.out _ _ trivial (qad ?_)
 clear hK K f0 q0
 have hg8:=qac w7 g 0 (.slice A' (n1+1) c')
 have hkT:=KeepT.blk hg8 BG7
 have hk8:Keep (fun b=>b≠g) w7 (w7.setCell ⟨g,0,none⟩ (.slice A' (n1+1) c')):=Keep.grown hg8 (fun g' h1 h2=>by injection h1 with h1;exact h2 h1.symm)
 have BG8:=BG7.set_ 0 (.slice A' (n1+1) c')
 have BR8:=Blk.keep BR7 hk8 (by omega)
 have hbw8:=(hbw7.gw hg8)
 have HT8:=zh (HO.out.keepX hkT (by decide) (hk8.mono (fun b h=>h.2.1)))
 have HW8:=zh ((HC6.out.wrk.keep hkA (fun b h h'=>(HC6.out.ne b h').1 h) (fun b h=>h.2.2.1)).keep hk8 (HC6.out.ne2) (fun b h=>h.2.1))
 have HH8:=zh ((HC6.out.hld.keep (hkA.mono (fun b h=>h.2.2.1))).keep (hk8.mono (fun b h=>h.2.1)))
 have HQ8:=zh ((HC6.out.wai.keep (hkA.mono (fun b h=>h.2.2.1))).keep (hk8.mono (fun b h=>h.2.1)))
 have hgl8:=BR8.lt
 generalize w7.setCell ⟨g,0,none⟩ (.slice A' (n1+1) c')=w8 at *
 have hxl:(x.1.take p++(qbj nm cols key only,[])::x.1.drop p).length=n1+1:=by simp [HNT.out];omega
 have HDB:=zh (show eDB.rel w8 (fun _=>True) [.slice A' (n1+1) c',.slice A6 x.2.1.length c6,.slice A7 x.2.2.1.length c7,.slice A8 x.2.2.2.length c8] (x.1.take p++(qbj nm cols key only,[])::x.1.drop p,x.2) from
  qeg (x:=(x.1.take p++(qbj nm cols key only,[])::x.1.drop p,x.2)) (HT8.out.sl (fun _ _ _=>trivial) (fun _ _=>trivial)) (HW8.out.loose.sl (fun _ _ _=>trivial) (fun _ _=>trivial)) (HH8.out.sl.mono (fun _ _=>trivial)) (HQ8.out.sl.mono (fun _ _=>trivial)))
 have HOK':=zh (show okDB (x.1.take p++(qbj nm cols key only,[])::x.1.drop p,x.2) from ⟨by rw [hxl];omega,fun t ht=>by
   rcases List.mem_append.1 ht with ht|ht
   ·exact HOK.out.2.1 t (List.mem_of_mem_take ht)
   ·rcases List.mem_cons.1 ht with rfl|ht
    ·exact ⟨by simp [qbj];have:=HG.out.c6;omega,by simp,by simp⟩
    ·exact HOK.out.2.1 t (List.mem_of_mem_drop ht),HOK.out.2.2⟩)
 have q:=four_ BG8
 clear HT8 HW8 HH8 HQ8 hk8 hg8 hkT hkA BG7 BR7 HO HC6 HBR6 hbw7 BG8
 go_wp2_with fail
 refine (qjy HDB.out HOK'.out).mono ?_
 rintro e9 w9 hO
 have hT:=hO.tab
 obtain ⟨cz,rfl,hr9,hb9⟩:=hO.owned
 have hT:=hT cz rfl
 clear hO
 have hczl:cz.length=4:=eDB.len hr9
 have hone:=eDB.one hr9
 have hsz9:(Tryz.prog.info? 31).map (·.size)=some cz.length:=by rw [hczl];kernel_rfl
 have BR9:=BR8.ext hb9
 have hth:=Blk.there (o:=0) (n:=4) BR9 (by simp)
 have hrl:gr<w8.heap.size:=hgl8
 have hwr:w.heap.size<=gr:=HGS.out.2.2.1
 have hbz8:=(hbw8.tr hb9)
 have hws:w.heap.size<=w8.heap.size:=hbw8.size
 obtain ⟨B9,hg9⟩:=Blk.lay cz 0 BR9 (by rw [hczl];simp)
 rw [qai _ _ (by rw [hczl];rfl)] at B9
 have hbw9:=(hbz8.gw hg9)
 have HR9:=zh (eDB.mono (eDB.keep hr9 (Keep.grown hg9 (fun g hg h=>by injection hg with hg;omega))) (G:=fun b=>w.heap.size<=b) (fun b h=>Nat.le_trans hws h))
 obtain ⟨oA,oc,rest,oe1,ot⟩:=hT
 have HT9:=zh (za oe1 (((ot.keep (G:=fun b=>b≠gr) (Keep.grown hg9 (fun g hg h=>by injection hg with hg;exact h hg.symm)) (fun b e=>by have:=(ot.lt e).1;omega) (fun b (h:w8.heap.size<=b)=>by omega)).base hws).mono (G:=fun b=>w.heap.size<=b) (fun b (h:w8.heap.size<=b)=>Nat.le_trans hws h)))
 clear hr9 hg9 hbz8 oe1 ot
 go_wp2_with ((with_reducible refine sS 4 ?_);(refine wpList_store_mid rfl 31 _ _ rfl gr 0 cz.toArray rfl rfl ?zs1 ?zt1 (all_oneCell_toArray hone) ?_))
 case zs1=>exact (show cz.toArray.size=4 by simp [hczl]) ▸ hth
 case zt1=>rw [List.size_toArray];exact hsz9
 clear hth BR9
 generalize w9.setCells gr 0 cz=wz at *
 go_wp2
 refine bodyPost_ret (v:=.tuple #[.agg cz.toArray,.int .i64 0]) (qbe rfl _ _ gr _ _ (0,0) _ rfl B9 Tryz.underlying31 rfl (by rw [List.size_toArray];exact hsz9) rfl) rfl ⟨cz,rfl,HR9.out,⟨oA,oc,rest,HT9.out.1,HT9.out.2⟩,hbw9⟩
theorem create_ {FS:qab} {nm:List UInt8} {cols:List pg.Cl} {key:Nat} {only:Bool} (h:eDB.rel w F cs x) (hok:okDB x) (hS:Sl eCol w FS A cols.length c (cols.map qdf)) (hG:GoodS nm cols key)
  (hm:Mono (cmpT ⟨nm.toArray⟩) x.1) (hfree:isG (cmpT ⟨nm.toArray⟩) x.1=false) (hlen:x.1.length<8) (hwk:x.2.1.length=0) :
  Calls Tryz.prog 21 #[.agg cs.toArray,.agg #[.string ⟨nm.toArray⟩,.slice A cols.length c,.int .i64 key,.bool only]] w (DBE (x.1.take (posG (cmpT ⟨nm.toArray⟩) x.1)++(qbj nm cols key only,[])::x.1.drop (posG (cmpT ⟨nm.toArray⟩) x.1),x.2) 0 w) :=
 (qom h hok hS hG hm hfree hlen hwk).mono fun e w' ⟨cs,h1,h2,_,h3⟩=>⟨cs,h1,h2,h3⟩
def qex (x:DBd):Prop:=∀ y∈x.2.1,-1000<=y.1/\y.1<=1000
theorem begin_ (h:eDB.rel w F cs x) (hok:okDB x) (hs:0<=s/\s<8) (hm:Mono (cmpW s) x.2.1) (hfree:isG (cmpW s) x.2.1=false) (hse:qex x) (hlen:x.2.1.length<900):
  Calls Tryz.prog 6 #[.agg cs.toArray,.int .i64 s] w (DBE (x.1,x.2.1.take (posG (cmpW s) x.2.1)++(s,[],[])::x.2.1.drop (posG (cmpW s) x.2.1),x.2.2) 0 w):=by
 have HS:=zh h
 have HOK:=zh hok
 have HM:=zh hm
 have HFR:=zh hfree
 have HSE:=zh hse
 obtain ⟨p,hp⟩:∃ p,posG (cmpW s) x.2.1=p:=⟨_,rfl⟩
 have hpl:p<=x.2.1.length:=by rw [<-hp];exact posG_le _ _
 rw [hp]
 have HP:=zh hp
 obtain ⟨nk,hnk⟩:∃ n,x.2.1.length=n:=⟨_,rfl⟩
 have HNK:=zh hnk
 obtain ⟨A1,n1,c1,A2,n2,c2,A3,n3,c3,A4,n4,c4,rfl,h1,h2,h3,h4⟩:=qav h
 rw [hnk] at hpl hlen
 clear h hok hm hfree hp hnk h1 h2 h3 h4 hse
 have d0:decide (s<0)=false:=by simp;omega
 have d8:decide (8<=s)=false:=by simp;omega
 go_enter Tryz.func6,Tryz.ntmps6
 go_upto_region 1 with fail
 obtain ⟨W,hW_,hb1,BD,BR⟩:=al2 w 31 31 #[.slice A1 n1 c1,.slice A2 n2 c2,.slice A3 n3 c3,.slice A4 n4 c4] #[.slice none 0 0,.slice none 0 0,.slice none 0 0,.slice none 0 0]
 rw [<-hW_]
 clear hW_
 obtain ⟨gd,hgd⟩:∃ g,w.heap.size=g:=⟨_,rfl⟩
 obtain ⟨gr,hgr⟩:∃ g,w.heap.size+1=g:=⟨_,rfl⟩
 have HGS:=zh (show w.heap.size<=gd/\w.heap.size<=gr/\gd<gr by omega)
 rw [hgr] at BR ⊢
 rw [hgd] at BD ⊢
 have HF:=zh (qhq (eDB.ext HS.out hb1) HOK.out)
 have hgrW:gr<W.heap.size:=BR.lt
 have hgdW:gd<W.heap.size:=BD.lt
 have HBD:=zh BD
 have HBR:=zh BR
 have HB1:=zh hb1
 have qd:=four BD (zb _ _)
 clear hgd hgr BD BR hb1
 go_wp2_with fail
 refine HF.out.mono ?_
 rintro e w1 ⟨g,rfl,⟨A5,c5,A6,c6,A7,c7,A8,c8,hC⟩,hb2⟩
 have hgW:W.heap.size<=g:=hC.lo
 have HC:=zh hC
 have HBR1:=zh (HBR.out.ext hb2)
 have HB2:=zh ((HB1.out.tr hb2))
 clear qd hC hb2 HF HBD HBR HB1
 have HT:=qgo HC.out s (HOK.out.2.2.1) HM.out ⟨by omega,by omega⟩ HSE.out
 rw [HFR.out,HP.out] at HT
 have HT:=zh HT
 go_wp2_with fail
 refine HT.out.mono ?_
 rintro e w4 ⟨rfl,hb5⟩
 have HC4:=zh (HC.out.ext hb5)
 have HBR4:=zh (HBR1.out.ext hb5)
 have HB5:=zh ((HB2.out.tr hb5))
 clear hb5 HC HBR1 HB2 HT
 have q1:=HC4.out.blk.cell 1
 rw [HNK.out] at q1
 go_wp2_with fail
 clear q1
 obtain ⟨w6,hW_,hb6,BV⟩:=al1 w4 96 #[.int .i64 s,.slice none 0 0,.slice none 0 0]
 rw [<-hW_]
 clear hW_
 have HC6:=zh (HC4.out.ext hb6)
 have HBR6:=zh (HBR4.out.ext hb6)
 have HB6:=zh ((HB5.out.tr hb6))
 have hg4:g<w4.heap.size:=HC4.out.blk.lt
 have lA2:∀ b,A6=some ⟨b,0,none⟩->b<w4.heap.size:=fun b h=>(HC4.out.wrk.lt h).2
 have hB4:W.heap.size<=w4.heap.size:=Nat.le_of_lt (Nat.lt_of_le_of_lt hgW hg4)
 have HI:=insW (i:=p) (gv:=w4.heap.size) (t:=(s,[],[])) (cs:=[.int .i64 s,.slice none 0 0,.slice none 0 0]) HC6.out.wrk (qln (x:=(s,[],[])) (Sl.nil _ _) (Sl.nil _ _)) BV (fun b e=>⟨by have:=lA2 b e;omega,fun hf=>hf.2.2.2 e⟩) (by rw [HNK.out];exact hpl) (by rw [HNK.out];omega) (Nat.le_trans hB4 (Nat.le_of_lt BV.lt))
 rw [HNK.out] at HI
 have HI:=zh HI
 clear BV hb6
 refine HI.out.mono ?_
 rintro e w7 ⟨A',c',rfl,ho,hg⟩
 have HO:=zh ho
 have hkA:Keep (fun b=>A6≠some ⟨b,0,none⟩) w6 w7:=Keep.grown hg (fun g' h1 h2=>h2 (HC6.out.wrk.row (by rw [HNK.out];exact h1)))
 have hBg:∀ b,(Value.slice A6 nk c6).ownBlock=some b->W.heap.size<=b:=fun b h=>(HC6.out.wrk.lt (HC6.out.wrk.row (by rw [HNK.out];exact h))).1
 have hgne:A6≠some ⟨g,0,none⟩:=fun e=>HC6.out.ne2 g e rfl
 have hWw:w.heap.size<=W.heap.size:=by have:=HGS.out.2.1;omega
 have hbw7:Below w.heap.size w w7:=HB6.out.grown hg HB6.out.size (fun k hk=>Nat.le_trans hWw (hBg k hk))
 have BG7:=Blk.keep HC6.out.blk hkA hgne
 have BR7:=Blk.keep HBR6.out hkA (fun e=>by have:=(HC6.out.wrk.lt e).1;omega)
 clear hg ho HI
 have f1:=BG7.frozen 1
 have q1:=BG7.cell 1
 go_upto_region 8 with fail
 clear f1 q1
 have hg8:=qac w7 g 1 (.slice A' (nk+1) c')
 have hkT:=KeepT.blk hg8 BG7
 have hk8:Keep (fun b=>b≠g) w7 (w7.setCell ⟨g,1,none⟩ (.slice A' (nk+1) c')):=Keep.grown hg8 (fun g' h1 h2=>by injection h1 with h1;exact h2 h1.symm)
 have BG8:=BG7.set_ 1 (.slice A' (nk+1) c')
 have BR8:=Blk.keep BR7 hk8 (by omega)
 have hbw8:=(hbw7.gw hg8)
 have HW8:=zh (HO.out.keepX hkT (by decide) (hk8.mono (fun b h=>h.2.1)))
 have HT8:=zh ((HC6.out.tab.keep hkA (fun b h h'=>(HC6.out.ne b h).1 h') (fun b h=>h.2.2.2)).keep hk8 (fun b h=>(HC6.out.ne b h).2) (fun b h=>h.2.1))
 have HH8:=zh ((HC6.out.hld.keep (hkA.mono (fun b h=>h.2.2.2))).keep (hk8.mono (fun b h=>h.2.1)))
 have HQ8:=zh ((HC6.out.wai.keep (hkA.mono (fun b h=>h.2.2.2))).keep (hk8.mono (fun b h=>h.2.1)))
 have hgl8:=BR8.lt
 generalize w7.setCell ⟨g,1,none⟩ (.slice A' (nk+1) c')=w8 at *
 have hxl:(x.2.1.take p++(s,[],[])::x.2.1.drop p).length=nk+1:=by simp [HNK.out];omega
 have HDB:=zh (show eDB.rel w8 (fun _=>True) [.slice A5 x.1.length c5,.slice A' (nk+1) c',.slice A7 x.2.2.1.length c7,.slice A8 x.2.2.2.length c8] (x.1,x.2.1.take p++(s,[],[])::x.2.1.drop p,x.2.2) from
  qeg (x:=(x.1,x.2.1.take p++(s,[],[])::x.2.1.drop p,x.2.2)) (HT8.out.sl (fun _ _ _=>trivial) (fun _ _=>trivial)) (HW8.out.loose.sl (fun _ _ _=>trivial) (fun _ _=>trivial)) (HH8.out.sl.mono (fun _ _=>trivial)) (HQ8.out.sl.mono (fun _ _=>trivial)))
 have HOK':=zh (show okDB (x.1,x.2.1.take p++(s,[],[])::x.2.1.drop p,x.2.2) from ⟨HOK.out.1,HOK.out.2.1,by rw [hxl];omega,fun t ht=>by
   rcases List.mem_append.1 ht with ht|ht
   ·exact HOK.out.2.2.2.1 t (List.mem_of_mem_take ht)
   ·rcases List.mem_cons.1 ht with rfl|ht
    ·exact ⟨by simp,by simp,by simp⟩
    ·exact HOK.out.2.2.2.1 t (List.mem_of_mem_drop ht),HOK.out.2.2.2.2⟩)
 have q:=four_ BG8
 clear HT8 HW8 HH8 HQ8 hk8 hg8 hkT hkA BG7 BR7 HO HC6 HBR6 hbw7 BG8
 go_wp2_with fail
 refine (qjy HDB.out HOK'.out).mono ?_
 rintro e9 w9 hO
 obtain ⟨cz,rfl,hr9,hb9⟩:=hO.owned
 clear hO
 have hczl:cz.length=4:=eDB.len hr9
 have hone:=eDB.one hr9
 have hsz9:(Tryz.prog.info? 31).map (·.size)=some cz.length:=by rw [hczl];kernel_rfl
 have BR9:=BR8.ext hb9
 have hth:=Blk.there (o:=0) (n:=4) BR9 (by simp)
 have hrl:gr<w8.heap.size:=hgl8
 have hwr:w.heap.size<=gr:=HGS.out.2.1
 have hbz8:=(hbw8.tr hb9)
 have hws:w.heap.size<=w8.heap.size:=hbw8.size
 obtain ⟨B9,hg9⟩:=Blk.lay cz 0 BR9 (by rw [hczl];simp)
 rw [qai _ _ (by rw [hczl];rfl)] at B9
 have hbw9:=(hbz8.gw hg9)
 have HR9:=zh (eDB.mono (eDB.keep hr9 (Keep.grown hg9 (fun g hg h=>by injection hg with hg;omega))) (G:=fun b=>w.heap.size<=b) (fun b h=>Nat.le_trans hws h))
 clear hr9 hg9 hbz8
 go_wp2_with ((with_reducible refine sS 4 ?_);(refine wpList_store_mid rfl 31 _ _ rfl gr 0 cz.toArray rfl rfl ?zs1 ?zt1 (all_oneCell_toArray hone) ?_))
 case zs1=>exact (show cz.toArray.size=4 by simp [hczl]) ▸ hth
 case zt1=>rw [List.size_toArray];exact hsz9
 clear hth BR9
 generalize w9.setCells gr 0 cz=wz at *
 go_wp2
 refine bodyPost_ret (v:=.tuple #[.agg cz.toArray,.int .i64 0]) (qbe rfl _ _ gr _ _ (0,0) _ rfl B9 Tryz.underlying31 rfl (by rw [List.size_toArray];exact hsz9) rfl) rfl ⟨cz,rfl,HR9.out,hbw9⟩
end Go.Proofs.YtdjbpcnhnkemiaaGreat.tp
namespace Go.Proofs.YtdjbpcnhnkemiaaGreat.lk
open Go.ChangeShapes Go.WideShapes Go.ChangeAt Go.RowKit Go.Proofs.YtdjbpcnhnkemiaaGreat.lib
structure Hd where
 s:Int
 t:ByteArray
 x:Bool
def Hd.arr (h:Hd):Array Value:=#[.int .i64 h.s,.string h.t,.bool h.x]
def Hd.cells (h:Hd):List Value:=[.int .i64 h.s,.string h.t,.bool h.x]
def cellsH (hs:List Hd):List Value:=hs.flatMap Hd.cells
structure Lk where
 hs:List Hd
 ws:List Hd
def qdq (h o:Hd):Bool:=o.s == h.s && o.t == h.t
def agB (h o:Hd):Bool:=h.s != o.s && (h.t == o.t && (h.x || o.x))
def woL (l:List Hd) (s:Int):List Hd:=l.filter fun o=>o.s != s
def hasB (L:Lk) (h:Hd):Bool:=match L.hs.findIdx? (qdq h) with
 | some i=>(match L.hs[i]? with|some o=>o.x || !h.x|none=>false)
 | none=>false
def freeB (L:Lk) (h:Hd):Bool:=hasB L h || !L.hs.any (agB h)
def askL (L:Lk) (h:Hd):Lk :=
 if freeB L h=false then ⟨L.hs,woL L.ws h.s++[h]⟩
 else if hasB L h=true then ⟨L.hs,woL L.ws h.s⟩
 else match L.hs.findIdx? (qdq h) with
  | some i=>⟨L.hs.set i h,woL L.ws h.s⟩
  | none=>⟨L.hs++[h],woL L.ws h.s⟩
def freeL (L:Lk) (s:Int):Lk:=⟨woL L.hs s,woL L.ws s⟩
theorem qjc (a b:List Hd):cellsH (a++b)=cellsH a++cellsH b:=by simp [cellsH]
theorem qeu (h:Hd):cellsH [h]=h.cells:=by simp [cellsH]
theorem qet:∀ l:List Hd,(cellsH l).length=l.length * 3
 | []=>rfl
 | h::r=>by
  have ih:=qet r
  have e:cellsH (h::r)=h.cells++cellsH r:=rfl
  rw [e,List.length_append,ih,List.length_cons]
  show 3+r.length * 3=_
  omega
theorem qjj:∀ (l:List Hd) (i:Nat) (o:Hd),l[i]? = some o->(cellsH l)[i * 3]? = some (.int .i64 o.s)/\(cellsH l)[i * 3+1]? = some (.string o.t)/\(cellsH l)[i * 3+2]? = some (.bool o.x)
 | [],i,o,h=>by cases h
 | y::r,0,o,h=>by
  injection h with h
  subst h
  exact ⟨rfl,rfl,rfl⟩
 | y::r,i+1,o,h=>by
  have ih:=qjj r i o h
  have e:cellsH (y::r)=y.cells++cellsH r:=rfl
  have e1:(i+1) * 3=3+i * 3:=by omega
  have e3:y.cells.length=3:=rfl
  rw [e,e1]
  refine ⟨?_,?_,?_⟩
  ·rw [List.getElem?_append_right (by omega),e3];simpa using ih.1
  ·rw [List.getElem?_append_right (by omega),e3,show 3+i * 3+1 - 3=i * 3+1 by omega];exact ih.2.1
  ·rw [List.getElem?_append_right (by omega),e3,show 3+i * 3+2 - 3=i * 3+2 by omega];exact ih.2.2
theorem qgq (l:List Hd):∀ u∈cellsH l,u.oneCell'=true:=by
 intro u hu
 unfold cellsH at hu
 rw [List.mem_flatMap] at hu
 obtain ⟨x,_,hx⟩:=hu
 simp [Hd.cells] at hx
 rcases hx with rfl|rfl|rfl <;> rfl
def Hs (w:World) (A:Option Addr) (l:List Hd):Prop :=
 (A=none/\l=[])\/∃ b,A=some ⟨b,0,none⟩/\b<w.heap.size/\∀ (i:Nat) u,(cellsH l)[i]? = some u->w.cell? ⟨b,i,none⟩=some u
theorem Hs.below {w w':World} {B:Nat} {A:Option Addr} {l:List Hd} (h:Hs w A l) (hb:Below B w w') (hB:w.heap.size<=B):Hs w' A l:=by
 rcases h with h|⟨b,e,hlt,hc⟩
 ·exact .inl h
 ·exact .inr ⟨b,e,Nat.lt_of_lt_of_le hlt hb.size,fun i u hu=>(hb.cell (Nat.lt_of_lt_of_le hlt hB)).trans (hc i u hu)⟩
theorem Hs.ext {w w':World} {A:Option Addr} {l:List Hd} (h:Hs w A l) (hb:Below w.heap.size w w'):Hs w' A l:=h.below hb (zl _)
theorem Hs.at_ {w:World} {b:Nat} {l:List Hd} (h:Hs w (some ⟨b,0,none⟩) l) {i:Nat} {o:Hd} (hi:l[i]? = some o) :
  w.cell? ⟨b,i * 3,none⟩=some (.int .i64 o.s)/\w.cell? ⟨b,i * 3+1,none⟩=some (.string o.t)/\w.cell? ⟨b,i * 3+2,none⟩=some (.bool o.x):=by
 obtain ⟨h1,h2,h3⟩:=qjj l i o hi
 rcases h with h|⟨b',e,hlt,hc⟩
 ·cases h.1
 ·injection e with e
  injection e with e
  subst e
  exact ⟨hc _ _ h1,hc _ _ h2,hc _ _ h3⟩
theorem Hs.some_ {w:World} {A:Option Addr} {l:List Hd} (h:Hs w A l) (hn:0<l.length):∃ b,A=some ⟨b,0,none⟩/\b<w.heap.size:=by
 rcases h with h|⟨b,e,hlt,hc⟩
 ·rw [h.2] at hn;cases hn
 ·exact ⟨b,e,hlt⟩
theorem qan {w:World} {base:Nat} {t:TypeId} {size n:Nat} {v:Value} {xs:List Value} (h:w.ownsRow base t size v n xs):∃ A c,v=.slice A n c:=by
 rcases h.2 with ⟨rfl,rfl⟩|⟨g,cap,cur,rfl,_⟩
 ·exact ⟨none,0,rfl⟩
 ·exact ⟨_,cap,rfl⟩
theorem qay {w w':World} {base:Nat} {e:TypeId} {size n:Nat} {v:Value} {xs:List Value} (h:w.ownsRow base e size v n xs) (hb:Below w.heap.size w w'):w'.ownsRow base e size v n xs:=by
 refine h.kept (w':=w') (row:=none) ⟨hb.os,hb.tape,hb.output,hb.size,fun k hk _=>hb.block k hk⟩ ?_
 cases ho:v.ownBlock with
 | none=>exact .inl rfl
 | some b=>exact .inr (by simp)
theorem hs_of_own {w:World} {base:Nat} {t:TypeId} {A:Option Addr} {n c:Nat} {l:List Hd} (h:w.ownsRow base t 3 (.slice A n c) n (cellsH l)):Hs w A l:=by
 rcases h.2 with ⟨e,h0⟩|⟨g,cap,cur,e,hg,hgg,_,_,_,_⟩
 ·injection e with e1 e2 e3
  refine .inl ⟨e1,?_⟩
  have:=h.1
  rw [qet,h0] at this
  exact List.length_eq_zero_iff.1 (by omega)
 ·injection e with e1 e2 e3
  subst e1
  refine .inr ⟨g,rfl,(Array.getElem?_eq_some_iff.1 hgg).1,fun i u hu=>?_⟩
  have hi:i<(cellsH l).length:=(List.getElem?_eq_some_iff.1 hu).1
  rw [h.1] at hi
  rw [h.cellAt i hi]
  exact hu
def LkR (w:World) (v:Value) (L:Lk):Prop:=∃ A n c A' n' c',v=.agg #[.slice A n c,.slice A' n' c']/\L.hs.length=n/\Hs w A L.hs/\L.ws.length=n'/\Hs w A' L.ws
theorem LkR.ext {w w':World} {v:Value} {L:Lk} (h:LkR w v L) (hb:Below w.heap.size w w'):LkR w' v L:=by
 obtain ⟨A,n,c,A',n',c',e,h1,h2,h3,h4⟩:=h
 exact ⟨A,n,c,A',n',c',e,h1,h2.ext hb,h3,h4.ext hb⟩
theorem beqBA (a b:ByteArray):(a == b)=true↔a=b:=by
 constructor
 ·intro h
  apply ByteArray.ext
  exact eq_of_beq (α:=Array UInt8) h
 ·rintro rfl
  exact beq_self_eq_true a.data
theorem tl_beq (a b:ByteArray):(a.toList == b.toList)=(a == b):=by
 rw [Bool.eq_iff_iff,beqBA,beq_iff_eq,ByteArray.toList_eq,ByteArray.toList_eq]
 exact ⟨fun h=>bytes_inj h,fun h=>by rw [h]⟩
theorem qpb (h o:Hd) (w:World):Calls Tryz.prog 150 #[.agg h.arr,.agg o.arr] w fun e w'=>e=.returned (.bool (agB h o))/\Below w.heap.size w w':=by
 obtain ⟨hs,ht,hx⟩:=h
 obtain ⟨os,ot,ox⟩:=o
 simp only [Hd.arr]
 obtain ⟨p,hp⟩:∃ p,(hs != os)=p:=⟨_,rfl⟩
 obtain ⟨q,hq⟩:∃ q,(ht == ot)=q:=⟨_,rfl⟩
 have e:agB ⟨hs,ht,hx⟩ ⟨os,ot,ox⟩=(p && (q && (hx || ox))):=by simp only [agB,hp,hq]
 rw [e]
 rw [<-tl_beq] at hq
 clear e
 go_enter Tryz.func150,Tryz.ntmps150
 cases p <;> cases q <;> cases hx <;> cases ox <;> (go_wp2;go_ret;exact ⟨rfl,((zb _ _).alloc (zl _) _).alloc (by simp) _⟩)
theorem mine1 (h o:Hd) (b:Nat) (w:World) (hb:Blk w b 213 h.arr) :
  Calls Tryz.prog 214 #[.agg o.arr,.pointer (some ⟨b,0,none⟩)] w fun e w'=>e=.returned (.bool (qdq h o))/\Below w.heap.size w w':=by
 obtain ⟨hs,ht,hx⟩:=h
 obtain ⟨os,ot,ox⟩:=o
 simp only [Hd.arr] at hb ⊢
 obtain ⟨p,hp⟩:∃ p,(os == hs)=p:=⟨_,rfl⟩
 obtain ⟨q,hq⟩:∃ q,(ot == ht)=q:=⟨_,rfl⟩
 have e:qdq ⟨hs,ht,hx⟩ ⟨os,ot,ox⟩=(p && q):=by simp only [qdq,hp,hq]
 rw [e]
 rw [<-tl_beq] at hq
 clear e
 have q3:=hb.three (zb _ _)
 have hlt:=hb.lt
 go_enter Tryz.func214,Tryz.ntmps214
 cases p <;> cases q <;> (go_wp2;go_ret;exact ⟨rfl,(zb _ _).alloc (zl _) _⟩)
def idxI (p:Hd->Bool) (l:List Hd):Int:=match l.findIdx? p with|some i=>i|none=>-1
def IdxP (p:Hd->Bool) (l:List Hd) (w:World) (e:Ending) (w':World):Prop:=e=.returned (.int .i64 (idxI p l))/\Below w.heap.size w w'
theorem qjp {α:Type} (p:α->Bool):∀ (l:List α),(∀ (j:Nat) x,l[j]? = some x->p x=false)->l.findIdx? p=none
 | [],_=>rfl
 | x::r,h=>by
  have h0:=h 0 x rfl
  rw [List.findIdx?_cons,h0]
  have ih:=qjp p r (fun j y hy=>h (j+1) y hy)
  rw [ih];rfl
theorem qjm {α:Type} (p:α->Bool):∀ (l:List α) (k:Nat) (y:α),l[k]? = some y->p y=true->(∀ (j:Nat) x,j<k->l[j]? = some x->p x=false)->l.findIdx? p=some k
 | [],k,y,h,_,_=>by cases h
 | x::r,0,y,h,hp,_=>by
  injection h with h
  subst h
  rw [List.findIdx?_cons,hp];rfl
 | x::r,k+1,y,h,hp,hj=>by
  have h0:=hj 0 x (by omega) rfl
  rw [List.findIdx?_cons,h0]
  have ih:=qjm p r k y h hp (fun j z hz hy=>hj (j+1) z (by omega) hy)
  rw [ih];rfl
theorem indexMine (h:Hd) (b:Nat) (l:List Hd) (A:Option Addr) (n c:Nat) (w:World) (hl:l.length=n) (hn:n<=100000) (hr:Hs w A l) (hb:Blk w b 213 h.arr) :
  Calls Tryz.prog 213 #[.slice A n c,.func (.func 214) #[] #[.pointer (some ⟨b,0,none⟩)]] w (IdxP (qdq h) l w):=by
 have HL:=zh hl
 clear hl
 go_enter Tryz.func213,Tryz.ntmps213
 go_wp2
 go_loopw [5,8] (fun _ i w'=>∃ k:Nat,Below w.heap.size w w'/\k<=n/\i=.int .i64 k/\Hid (∀ j x,j<k->l[j]? = some x->qdq h x=false)) (fun _ i _=>n - (intOf i).toNat)
 case atStart=>exact ⟨0,zb _ _,Nat.zero_le _,rfl,zh (fun j x h=>absurd h (by omega))⟩
 case round =>
  obtain ⟨k,hbw,hk,rfl,HK⟩:=hrel
  rcases Nat.lt_or_ge k n with hlt|hge
  ·have hd:decide ((k:Int)<(n:Int))=true:=by simp;omega
   obtain ⟨x,hx⟩:∃ x,l[k]? = some x:=⟨_,List.getElem?_eq_getElem (by rw [HL.out];exact hlt)⟩
   obtain ⟨g,rfl,hg⟩:=hr.some_ (by rw [HL.out];omega)
   have q:=(hr.ext hbw).at_ hx
   have HX:=zh hx
   clear hx
   go_wp2_with fail
   refine (mine1 h x b _ (hb.ext hbw)).mono ?_
   rintro e w1 ⟨rfl,hb1⟩
   obtain ⟨p,hp⟩:∃ p,qdq h x=p:=⟨_,rfl⟩
   rw [hp]
   have HP:=zh hp
   clear hp
   cases p with
   | true =>
    go_wp2
    go_ret
    refine ⟨?_,zt hbw (zm hb1 hbw.size)⟩
    unfold idxI;rw [qjm (qdq h) l k x HX.out HP.out HK.out];rfl
   | false =>
    go_wp2
    go_roundw
    case rel =>
     refine ⟨k+1,zt hbw (zm hb1 hbw.size),by omega,by go_num,zh (fun j y hj hy=>?_)⟩
     by_cases hjk:j=k
     ·subst hjk
      rw [HX.out] at hy
      injection hy with hy
      rw [<-hy];exact HP.out
     ·exact HK.out j y (by omega) hy
    case measure=>simp [intOf];omega
  ·have hd:decide ((k:Int)<(n:Int))=false:=by simp;omega
   go_wp2
   go_ret
   refine ⟨?_,hbw⟩
   unfold idxI;rw [qjp (qdq h) l (fun j x hj=>HK.out j x (by have:=(List.getElem?_eq_some_iff.1 hj).1;have:=HL.out;omega) hj)];rfl
theorem indexAg (h:Hd) (l:List Hd) (A:Option Addr) (n c:Nat) (w:World) (hl:l.length=n) (hn:n<=100000) (hr:Hs w A l) :
  Calls Tryz.prog 213 #[.slice A n c,.func (.func 150) #[.agg h.arr] #[]] w (IdxP (agB h) l w):=by
 have HL:=zh hl
 clear hl
 go_enter Tryz.func213,Tryz.ntmps213
 go_wp2
 go_loopw [5,8] (fun _ i w'=>∃ k:Nat,Below w.heap.size w w'/\k<=n/\i=.int .i64 k/\Hid (∀ j x,j<k->l[j]? = some x->agB h x=false)) (fun _ i _=>n - (intOf i).toNat)
 case atStart=>exact ⟨0,zb _ _,Nat.zero_le _,rfl,zh (fun j x h=>absurd h (by omega))⟩
 case round =>
  obtain ⟨k,hbw,hk,rfl,HK⟩:=hrel
  rcases Nat.lt_or_ge k n with hlt|hge
  ·have hd:decide ((k:Int)<(n:Int))=true:=by simp;omega
   obtain ⟨x,hx⟩:∃ x,l[k]? = some x:=⟨_,List.getElem?_eq_getElem (by rw [HL.out];exact hlt)⟩
   obtain ⟨g,rfl,hg⟩:=hr.some_ (by rw [HL.out];omega)
   have q:=(hr.ext hbw).at_ hx
   have HX:=zh hx
   clear hx
   go_wp2_with fail
   refine (qpb h x _).mono ?_
   rintro e w1 ⟨rfl,hb1⟩
   obtain ⟨p,hp⟩:∃ p,agB h x=p:=⟨_,rfl⟩
   rw [hp]
   have HP:=zh hp
   clear hp
   cases p with
   | true =>
    go_wp2
    go_ret
    refine ⟨?_,zt hbw (zm hb1 hbw.size)⟩
    unfold idxI;rw [qjm (agB h) l k x HX.out HP.out HK.out];rfl
   | false =>
    go_wp2
    go_roundw
    case rel =>
     refine ⟨k+1,zt hbw (zm hb1 hbw.size),by omega,by go_num,zh (fun j y hj hy=>?_)⟩
     by_cases hjk:j=k
     ·subst hjk
      rw [HX.out] at hy
      injection hy with hy
      rw [<-hy];exact HP.out
     ·exact HK.out j y (by omega) hy
    case measure=>simp [intOf];omega
  ·have hd:decide ((k:Int)<(n:Int))=false:=by simp;omega
   go_wp2
   go_ret
   refine ⟨?_,hbw⟩
   unfold idxI;rw [qjp (agB h) l (fun j x hj=>HK.out j x (by have:=(List.getElem?_eq_some_iff.1 hj).1;have:=HL.out;omega) hj)];rfl
theorem qqc (h:Hd) (l:List Hd) (A:Option Addr) (n c:Nat) (w:World) (hl:l.length=n) (hn:n<=100000) (hr:Hs w A l) :
  Calls Tryz.prog 149 #[.slice A n c,.func (.func 150) #[.agg h.arr] #[]] w fun e w'=>e=.returned (.bool (l.any (agB h)))/\Below w.heap.size w w':=by
 have e:l.any (agB h)=(match l.findIdx? (agB h) with|some i=>true|none=>false):=by
  clear hr hl
  induction l with
  | nil=>rfl
  | cons x r ih =>
   rw [List.any_cons,List.findIdx?_cons,ih]
   cases agB h x with
   | true=>rfl
   | false =>
    simp only [Bool.false_or,Bool.false_eq_true,if_false]
    cases r.findIdx? (agB h) <;> rfl
 rw [e]
 clear e
 have H:=indexAg h l A n c w hl hn hr
 unfold IdxP idxI at H
 obtain ⟨q,hq⟩:∃ q,l.findIdx? (agB h)=q:=⟨_,rfl⟩
 rw [hq] at H ⊢
 clear hq
 go_enter Tryz.func149,Tryz.ntmps149
 go_wp2_with fail
 refine H.mono ?_
 rintro e w1 ⟨rfl,hb1⟩
 cases q with
 | some i =>
  go_wp2
  go_ret
  exact ⟨ret_bool (by simp),hb1⟩
 | none =>
  go_wp2
  go_ret
  exact ⟨rfl,hb1⟩
theorem mine_ (h:Hd) (A A':Option Addr) (n c n' c':Nat) (l:List Hd) (w:World) (hl:l.length=n) (hn:n<=100000) (hr:Hs w A l) :
  Calls Tryz.prog 148 #[.agg #[.slice A n c,.slice A' n' c'],.agg h.arr] w (IdxP (qdq h) l w):=by
 go_enter Tryz.func148,Tryz.ntmps148
 obtain ⟨hs,ht,hx⟩:=h
 simp only [Hd.arr]
 go_wp2_with fail
 obtain ⟨W,hW_,hbW,B1,B2⟩:=al2 w 29 213 #[.slice A n c,.slice A' n' c'] #[.int .i64 hs,.string ht,.bool hx]
 rw [<-hW_]
 clear hW_
 have q1:=B1.cell 0
 go_wp2_with fail
 refine (indexMine ⟨hs,ht,hx⟩ (w.heap.size+1) l A n c _ hl hn (hr.ext hbW) B2).mono ?_
 rintro e w1 ⟨rfl,hb1⟩
 go_wp2
 go_ret
 exact ⟨rfl,zt hbW (zm hb1 hbW.size)⟩
def OwnP (l:List Hd) (n:Nat) (w:World) (r:Ending) (w':World):Prop:=∃ A c,r=.returned (.slice A n c)/\w'.ownsRow w.heap.size 213 3 (.slice A n c) n (cellsH l)/\Below w.heap.size w w'
theorem clone_ (l:List Hd) (A:Option Addr) (n c:Nat) (w:World) (hl:l.length=n) (hn:n<=100000) (hr:Hs w A l) :
  Calls Tryz.prog 76 #[.slice A n c] w (OwnP l n w):=by
 have heq:=fun W=>Lib.run_eql_slice_nil (P:=Tryz.prog) W 27 213 A n c 0 0 Tryz.underlying27
 have HL:=zh hl
 clear hl
 rcases hr with ⟨rfl,rfl⟩|⟨g,rfl,hlt,hcl⟩
 ·have h0:n=0:=HL.out.symm
  subst h0
  go_enter Tryz.func76,Tryz.ntmps76
  go_wp2
  go_ret
  exact ⟨none,0,rfl,World.ownsRow_nil _ _ _ _,zb _ _⟩
 ·obtain ⟨i0,hi,hz0,hz1,hz2⟩:=ip Tryz.prog 213 (.agg #[.int .i64 0,.string ⟨#[]⟩,.bool false]) 3 32
  have HC:=zh hcl
  clear hcl
  go_enter Tryz.func76,Tryz.ntmps76
  go_wp2_with (at_builtin;refine wpList_append_own _ rfl (.tmp 5) (.tmp 6) 27 rfl w.heap.size 213 i0 _ 3 32 Tryz.underlying27 hi hz0 hz1 hz2 rfl (by decide) _ _ _ rfl (World.ownsRow_made w #[] 0 (zl _) (Nat.zero_le _) rfl) ⟨g,0,none⟩ n c (cellsH l) rfl ?c0 ?c1 ?c2 ?c3 ?c4 ?c5 ?_)
  case c0=>rw [qet,HL.out]
  case c1 =>
   intro j u hu
   have:=HC.out j u hu
   rw [Addr.add_lit,Nat.zero_add]
   exact (((zb w.heap.size w).alloc (zl _) _).cell (p:=⟨g,j,none⟩) hlt).trans this
  case c2=>exact qgq l
  case c3=>unfold maxLen;omega
  case c4=>omega
  case c5=>simp
  intro v' w3 hown3 hgrow3 _
  obtain ⟨A',c',rfl⟩:=qan hown3
  go_wp2
  go_ret
  exact ⟨A',c',by simp,by simpa using hown3,((zb _ _).alloc (zl _) _).grown hgrow3 (by simp) (fun k hk=>by simp [Value.ownBlock] at hk;omega)⟩
theorem woL_snoc (l:List Hd) (k:Nat) (x:Hd) (s:Int) (h:l[k]? = some x):woL (l.take (k+1)) s=if (x.s != s)=true then woL (l.take k) s++[x] else woL (l.take k) s:=by
 have hl:=(List.getElem?_eq_some_iff.1 h).1
 have e:l.take (k+1)=l.take k++[x]:=by
  rw [List.take_add_one,h];rfl
 unfold woL
 rw [e,List.filter_append]
 by_cases hx:(x.s != s)=true
 ·rw [if_pos hx,List.filter_cons_of_pos (by exact hx)];rfl
 ·rw [if_neg hx,List.filter_cons_of_neg (by exact hx)];simp
theorem woL_len (l:List Hd) (s:Int):(woL l s).length<=l.length:=List.length_filter_le _ _
theorem three_at {w:World} {g:Nat} {t:TypeId} {x y z:Value} (h:Blk w g t #[x,y,z]):∀ j u,[x,y,z][j]? = some u->w.cell? ((⟨g,0,none⟩:Addr).add j)=some u:=by
 intro j u hu
 have q:=h.three (zb _ _)
 match j,hu with
 | 0,hu=>injection hu with hu;subst hu;exact q.1
 | 1,hu=>injection hu with hu;subst hu;exact q.2.1
 | 2,hu=>injection hu with hu;subst hu;exact q.2.2
theorem qat {w:World} {base base':Nat} {e:TypeId} {size n:Nat} {v:Value} {xs:List Value} (h:w.ownsRow base' e size v n xs) (hb:base<=base'):w.ownsRow base e size v n xs:=by
 refine ⟨h.1,?_⟩
 rcases h.2 with h2|⟨g,cap,cur,e,h3,h4⟩
 ·exact .inl h2
 ·exact .inr ⟨g,cap,cur,e,Nat.le_trans hb h3,h4⟩
theorem qll (l:List Hd) (A:Option Addr) (n c:Nat) (s:Int) (w:World) (hl:l.length=n) (hn:n<=100000) (hr:Hs w A l) :
  Calls Tryz.prog 151 #[.slice A n c,.int .i64 s] w (OwnP (woL l s) (woL l s).length w):=by
 have HL:=zh hl
 clear hl
 obtain ⟨i0,hi,hz0,hz1,hz2⟩:=ip Tryz.prog 213 (.agg #[.int .i64 0,.string ⟨#[]⟩,.bool false]) 3 32
 go_enter Tryz.func151,Tryz.ntmps151
 go_wp2
 go_loopw [5,10] (fun out i wr=>∃ (k m:Nat),Below w.heap.size w wr/\k<=n/\i=.int .i64 k/\m<=k/\wr.ownsRow w.heap.size 213 3 out m (cellsH (woL (l.take k) s))) (fun _ i _=>n - (intOf i).toNat)
 case atStart=>exact ⟨0,0,zb _ _,Nat.zero_le _,rfl,zl _,World.ownsRow_nil _ _ _ _⟩
 case round =>
  obtain ⟨k,m,hbw,hk,rfl,hm,hown⟩:=hrel
  rcases Nat.lt_or_ge k n with hlt|hge
  ·have hd:decide ((k:Int)<(n:Int))=true:=by simp;omega
   obtain ⟨x,hx⟩:∃ x,l[k]? = some x:=⟨_,List.getElem?_eq_getElem (by rw [HL.out];exact hlt)⟩
   obtain ⟨g,rfl,hg⟩:=hr.some_ (by rw [HL.out];omega)
   have q:=(hr.ext hbw).at_ hx
   have HX:=zh (woL_snoc l k x s hx)
   clear hx
   obtain ⟨xs,xt,xx⟩:=x
   obtain ⟨p,hp⟩:∃ p,(xs != s)=p:=⟨_,rfl⟩
   have HP:=zh hp
   have HO:=zh hown
   clear hown
   cases p with
   | true =>
    obtain ⟨A',c',rfl⟩:=qan HO.out
    go_wp2_with (at_builtin;refine wpList_append_own _ rfl (.tmp 18) (.tmp 20) 27 rfl w.heap.size 213 i0 _ 3 32 Tryz.underlying27 hi hz0 hz1 hz2 rfl (by decide) _ _ _ rfl ((HO.out.alloc _).alloc _) ⟨wr.heap.size+1,0,none⟩ 1 1 [.int .i64 xs,.string xt,.bool xx] rfl rfl ?c1 ?c2 ?c3 ?c4 ?c5 ?_)
    case c2=>exact ⟨rfl,rfl,rfl⟩
    case c3=>unfold maxLen;omega
    case c4=>omega
    case c5=>have:=hbw.size;simp;omega
    intro v' w3 hown3 hgrow3 _
    go_wp2
    go_roundw
    case rel =>
     refine ⟨k+1,m+1,?_,by omega,by go_num,by omega,?_⟩
     ·exact ((hbw.alloc hbw.size _).alloc (by have:=hbw.size;simp;omega) _).grown hgrow3 (by have:=hbw.size;simp;omega) (fun k hk=>(HO.out.lt k hk).1)
     ·rw [HX.out,if_pos HP.out,qjc,qeu]
      exact hown3
    case measure=>simp [intOf];omega
   | false =>
    go_wp2
    go_roundw
    case rel =>
     refine ⟨k+1,m,hbw.alloc hbw.size _,by omega,by go_num,by omega,?_⟩
     rw [HX.out,if_neg (by rw [HP.out];decide)]
     exact HO.out.alloc _
    case measure=>simp [intOf];omega
  ·have hd:decide ((k:Int)<(n:Int))=false:=by simp;omega
   have hkn:k=n:=by omega
   subst hkn
   have e:l.take k=l:=List.take_of_length_le (by rw [HL.out];exact zl _)
   rw [e] at hown
   have hml:(woL l s).length=m:=by
    have:=hown.1
    rw [qet] at this
    omega
   obtain ⟨A',c',rfl⟩:=qan hown
   go_wp2_with fail
   refine (clone_ (woL l s) A' m c' _ hml (by omega) (hs_of_own hown)).mono ?_
   rintro e w1 ⟨A2,c2,rfl,hown2,hb2⟩
   go_wp2
   go_ret
   refine ⟨A2,c2,by rw [hml];rfl,?_,zt hbw (zm hb2 hbw.size)⟩
   rw [hml]
   exact qat hown2 hbw.size
theorem Blk.set2 {w:World} {g:Nat} {t:TypeId} {x y:Value} (h:Blk w g t #[x,y]) (a b:Value):∃ w',w'=(w.setCell ⟨g,0,none⟩ a).setCell ⟨g,1,none⟩ b/\Blk w' g t #[a,b] /\
  (∀ B,B<=g->Below B w w')/\w.grownBy w' (some g):=by
 refine ⟨_,rfl,?_,fun B hB=>((zb _ _).setCell hB _).setCell hB _,⟨rfl,rfl,rfl,by simp [World.setCell],fun k hk hne=>?_⟩⟩
 ·have h3:=(h.set_ 0 a).set_ 1 b
  simpa using h3
 ·have hne:k≠g:=fun e=>hne (by rw [e])
  exact (Below.heap_setCell _ _ _ _ hne).trans (Below.heap_setCell _ _ _ _ hne)
theorem grow0 (n:Nat) (w:World) (h0:0<n) (hn:n<=200000) :
  Calls Tryz.prog 215 #[.slice none 0 0,.int .i64 n] w fun e w'=>∃ v,e=.returned v/\w'.ownsRow w.heap.size 213 3 v 0 []/\Below w.heap.size w w':=by
 obtain ⟨i0,hi,hz0,hz1,hz2⟩:=ip Tryz.prog 213 (.agg #[.int .i64 0,.string ⟨#[]⟩,.bool false]) 3 32
 have hrun:=fun ty=>Lib.run_append_nil_zeros (P:=Tryz.prog) w 27 3 ty 213 i0 _ .i64 .i64 Tryz.underlying27 Tryz.underlying3 hi hz0 n h0 (by rw [hz1];decide) (by omega) (by rw [hz2];omega)
 have h2:=zh (World.ownsRow_made (e:=213) (size:=3) (base:=w.heap.size) w.drew (Builtin.zeroCells (Value.agg #[.int .i64 0,.string ⟨#[]⟩,.bool false]).cells n++Builtin.zeroCells (Value.agg #[.int .i64 0,.string ⟨#[]⟩,.bool false]).cells (grownCap w n 0 213 - n)) (grownCap w n 0 213) (zl _) (grownCap_le_maxLen _ _ _ _ (by unfold maxLen;omega)) (by
  have:=grownCap_ge w n 0 213
  simp [size_zeroCells,Value.cells];try omega))
 have h3:=zh (((zb w.heap.size w).drew).alloc (zl _) (.cells (Builtin.zeroCells (Value.agg #[.int .i64 0,.string ⟨#[]⟩,.bool false]).cells n++Builtin.zeroCells (Value.agg #[.int .i64 0,.string ⟨#[]⟩,.bool false]).cells (grownCap w n 0 213 - n)) 213))
 have hge:=grownCap_ge w n 0 213
 have hle:=grownCap_le_maxLen w n 0 213 (by unfold maxLen;omega)
 unfold maxLen at hle
 generalize grownCap w n 0 213=G at *
 generalize hWW:w.drew.alloc (.cells (Builtin.zeroCells (Value.agg #[.int .i64 0,.string ⟨#[]⟩,.bool false]).cells n++Builtin.zeroCells (Value.agg #[.int .i64 0,.string ⟨#[]⟩,.bool false]).cells (G - n)) 213)=WW at *
 clear hWW
 have d1:decide ((n:Int)<0)=false:=by simp;try omega
 have d2:decide (0<(n:Int))=true:=by simp;try omega
 go_enter Tryz.func215,Tryz.ntmps215
 go_wp2_with (at_builtin;refine Lib.wpList_append_run _ rfl _ _ _ _ rfl _ _ rfl rfl _ _ (hrun _) ?_)
 go_ret
 exact ⟨_,rfl,h2.out,h3.out⟩
theorem grow_ (n:Nat) (z:Int) (w:World) (hz:z=n) (h0:0<n) (hn:n<=200000) :
  Calls Tryz.prog 215 #[.slice none 0 0,.int .i64 z] w fun e w'=>∃ v,e=.returned v/\w'.ownsRow w.heap.size 213 3 v 0 []/\Below w.heap.size w w':=by
 subst hz
 exact grow0 n w h0 hn
theorem qdl (l:List Hd) (h:Hd) (A:Option Addr) (n c base g g2:Nat) (w:World) (hl:l.length=n) (hn:n<=100000) (ho:w.ownsRow base 213 3 (.slice A n c) n (cellsH l))
  (hb:Blk w g 27 #[.slice A n c,.slice (some ⟨g2,0,none⟩) 1 1]) (hb2:Blk w g2 213 h.arr) :
  Calls Tryz.prog 152 #[.slice (some ⟨g,0,none⟩) 2 2] w (OwnP (l++[h]) (n+1) w):=by
 obtain ⟨i0,hi,hz0,hz1,hz2⟩:=ip Tryz.prog 213 (.agg #[.int .i64 0,.string ⟨#[]⟩,.bool false]) 3 32
 have q0:=hb.cell 0
 have q1:=hb.cell 1
 have HL:=zh hl
 have HO:=zh ho
 clear hl ho
 have d1:decide ((n:Int)<0)=false:=by simp;try omega
 have d2:decide ((n:Int)+1<0)=false:=by simp;try omega
 go_enter Tryz.func152,Tryz.ntmps152
 go_wp2_with fail
 refine wp_loop_rounds 3 ?_
 rw [rounds_succ]
 go_wp2
 rw [rounds_succ]
 go_wp2
 rw [rounds_succ]
 go_wp2_with fail
 refine (grow_ (n+1) _ _ (by omega) (by omega) (by omega)).mono ?_
 rintro e w1 ⟨v,rfl,hown,hbw⟩
 obtain ⟨A1,c1,rfl⟩:=qan hown
 have HO1:=zh hown
 clear hown q0 q1
 have q0:=(hb.ext hbw).cell 0
 have q1:=(hb.ext hbw).cell 1
 rcases HO.out.2 with ⟨e,h0⟩|⟨gg,cap,cur,e,hgb,hgg,hnc,hcm,hcs,htk⟩
 ·injection e with e1 e2 e3
  subst e1 h0 e3
  have hln:l=[]:=List.length_eq_zero_iff.1 HL.out
  subst hln
  go_wp2_with fail
  refine wp_loop_rounds 3 ?_
  rw [rounds_succ]
  go_wp2_with (at_builtin;refine wpList_append_own_none rfl (.tmp 31) (.tmp 32) 27 rfl w.heap.size 213 i0 3 Tryz.underlying27 hi _ 0 [] rfl HO1.out rfl ?_)
  rw [rounds_succ]
  go_wp2_with (at_builtin;refine wpList_append_own _ rfl (.tmp 31) (.tmp 32) 27 rfl w.heap.size 213 i0 _ 3 32 Tryz.underlying27 hi hz0 hz1 hz2 rfl (by decide) _ _ _ rfl HO1.out ⟨g2,0,none⟩ 1 1 h.cells rfl rfl ?c1 ?c2 ?c3 ?c4 ?c5 ?_)
  case c1=>exact three_at (hb2.ext hbw)
  case c2=>intro u hu;exact qgq [h] u (by rw [qeu];exact hu)
  case c3=>unfold maxLen;omega
  case c4=>omega
  case c5=>exact hbw.size
  intro v' w3 hown3 hgrow3 _
  obtain ⟨A3,c3,rfl⟩:=qan hown3
  go_wp2
  rw [rounds_succ]
  go_wp2
  go_ret
  have hb3:Below w.heap.size w w3:=hbw.grown hgrow3 hbw.size (fun k hk=>(HO1.out.lt k hk).1)
  exact ⟨A3,c3,rfl,by simpa [qeu] using hown3,hb3⟩
 ·injection e with e1 e2 e3
  subst e1 e3
  have hcl:∀ j u,(cellsH l)[j]? = some u->w1.cell? ((⟨gg,0,none⟩:Addr).add j)=some u:=fun j u hu=>by
   have hlt:=(Array.getElem?_eq_some_iff.1 hgg).1
   have hj:j<(cellsH l).length:=(List.getElem?_eq_some_iff.1 hu).1
   rw [HO.out.1] at hj
   rw [Addr.add_lit,Nat.zero_add,hbw.cell (p:=⟨gg,j,none⟩) hlt,HO.out.cellAt j hj]
   exact hu
  have HC:=zh hcl
  clear hcl hgg hnc hcm hcs htk
  go_wp2_with fail
  refine wp_loop_rounds 3 ?_
  rw [rounds_succ]
  go_wp2_with (at_builtin;refine wpList_append_own _ rfl (.tmp 31) (.tmp 32) 27 rfl w.heap.size 213 i0 _ 3 32 Tryz.underlying27 hi hz0 hz1 hz2 rfl (by decide) _ _ _ rfl HO1.out ⟨gg,0,none⟩ n c (cellsH l) rfl ?c0 HC.out ?c2 ?c3 ?c4 ?c5 ?_)
  case c0=>rw [qet,HL.out]
  case c2=>exact qgq l
  case c3=>unfold maxLen;omega
  case c4=>omega
  case c5=>exact hbw.size
  intro v' w3 hown3 hgrow3 _
  obtain ⟨A3,c3,rfl⟩:=qan hown3
  have hlo:=fun k hk=>(HO1.out.lt k hk).1
  have hb3:Below w.heap.size w w3:=hbw.grown hgrow3 hbw.size hlo
  have HO3:=zh hown3
  clear hown3 q0 q1
  have q0:=(hb.ext hb3).cell 0
  have q1:=(hb.ext hb3).cell 1
  go_wp2
  rw [rounds_succ]
  go_wp2_with (at_builtin;refine wpList_append_own _ rfl (.tmp 31) (.tmp 32) 27 rfl w.heap.size 213 i0 _ 3 32 Tryz.underlying27 hi hz0 hz1 hz2 rfl (by decide) _ _ _ rfl HO3.out ⟨g2,0,none⟩ 1 1 h.cells rfl rfl ?c1 ?c2 ?c3 ?c4 ?c5 ?_)
  case c1=>exact three_at (hb2.ext hb3)
  case c2=>intro u hu;exact qgq [h] u (by rw [qeu];exact hu)
  case c3=>unfold maxLen;omega
  case c4=>omega
  case c5=>exact hb3.size
  intro v' w4 hown4 hgrow4 _
  obtain ⟨A4,c4,rfl⟩:=qan hown4
  go_wp2
  rw [rounds_succ]
  go_wp2
  go_ret
  have hb4:Below w.heap.size w w4:=hb3.grown hgrow4 hb3.size (fun k hk=>(HO3.out.lt k hk).1)
  exact ⟨A4,c4,by simp,by simpa [qjc,qeu] using hown4,hb4⟩
theorem Blk.set1' {w:World} {g:Nat} {t:TypeId} {x y:Value} (h:Blk w g t #[x,y]) (b:Value):∃ w',w'=w.setCell ⟨g,1,none⟩ b/\Blk w' g t #[x,b]/\(∀ B,B<=g->Below B w w')/\w.grownBy w' (some g):=by
 refine ⟨_,rfl,?_,fun B hB=>(zb _ _).setCell hB _,⟨rfl,rfl,rfl,by simp [World.setCell],fun k hk hne=>?_⟩⟩
 ·simpa using h.set_ 1 b
 ·have hne:k≠g:=fun e=>hne (by rw [e])
  exact Below.heap_setCell _ _ _ _ hne
theorem Blk.set0' {w:World} {g:Nat} {t:TypeId} {x y:Value} (h:Blk w g t #[x,y]) (b:Value):∃ w',w'=w.setCell ⟨g,0,none⟩ b/\Blk w' g t #[b,y]/\(∀ B,B<=g->Below B w w')/\w.grownBy w' (some g):=by
 refine ⟨_,rfl,?_,fun B hB=>(zb _ _).setCell hB _,⟨rfl,rfl,rfl,by simp [World.setCell],fun k hk hne=>?_⟩⟩
 ·simpa using h.set_ 0 b
 ·have hne:k≠g:=fun e=>hne (by rw [e])
  exact Below.heap_setCell _ _ _ _ hne
theorem qgk {w w':World} {base:Nat} {v:Value} {n row:Nat} {xs:List Value} (h:w.ownsRow base 213 3 v n xs) (hg:w.grownBy w' (some row)) (hb:row<base):w'.ownsRow base 213 3 v n xs :=
 h.kept hg (by
  cases e:v.ownBlock with
  | none=>exact .inl rfl
  | some b =>
   refine .inr (fun hr=>?_)
   have h1:=(h.lt b e).1
   injection hr with hr
   omega)
theorem qdn {w w':World} {base:Nat} {v:Value} {n row:Nat} {xs:List Value} {cs:Array Value} (h:w.ownsRow base 213 3 v n xs) (hB:Blk w row 29 cs) (hg:w.grownBy w' (some row)):w'.ownsRow base 213 3 v n xs :=
 h.kept hg (by
  rcases h.2 with ⟨rfl,_⟩|⟨g,cap,cur,rfl,_,hgg,_⟩
  ·exact .inl rfl
  ·refine .inr (fun hr=>?_)
   injection hr with hr
   subst hr
   unfold Blk at hB
   simp [hB] at hgg)
theorem qnn {a b c:World} {g:Nat} (h:a.grownBy b (some g)) (k:b.grownBy c (some g)):a.grownBy c (some g) :=
 ⟨k.os.trans h.os,k.tape.trans h.tape,k.output.trans h.output,Nat.le_trans h.size k.size,fun i hi hn=>(k.block i (Nat.lt_of_lt_of_le hi h.size) hn).trans (h.block i hi hn)⟩
theorem qmd:∀ (l:List Hd) (i:Nat) (o p:Hd),l[i]? = some o->(((cellsH l).set (i * 3) (.int .i64 p.s)).set (i * 3+1) (.string p.t)).set (i * 3+2) (.bool p.x)=cellsH (l.set i p)
 | [],i,o,p,h=>by cases h
 | y::r,0,o,p,h=>rfl
 | y::r,i+1,o,p,h=>by
  have ih:=qmd r i o p h
  have e:cellsH (y::r)=y.cells++cellsH r:=rfl
  have e2:cellsH ((y::r).set (i+1) p)=y.cells++cellsH (r.set i p):=rfl
  have e1:(i+1) * 3=i * 3+3:=by omega
  rw [e,e2,<-ih,e1]
  rfl
theorem own_ne {w:World} {base b n c g:Nat} {xs:List Value} {cs:Array Value} (h:w.ownsRow base 213 3 (.slice (some ⟨b,0,none⟩) n c) n xs) (hB:Blk w g 29 cs):b≠g:=by
 rcases h.2 with ⟨e,_⟩|⟨g',cap,cur,e,_,hgg,_⟩
 ·cases e
 ·injection e with e
  injection e with e
  injection e with e
  subst e
  rintro rfl
  unfold Blk at hB
  simp [hB] at hgg
theorem qio {p:Hd->Bool} {l:List Hd} {i:Nat} (h:l.findIdx? p=some i):∃ o,l[i]? = some o/\p o=true:=by
 rw [List.findIdx?_eq_some_iff_getElem] at h
 obtain ⟨hl,hp,_⟩:=h
 exact ⟨l[i],List.getElem?_eq_getElem hl,hp⟩
def Own2 (L:Lk) (B:Nat) (w':World) (A:Option Addr) (c:Nat) (A':Option Addr) (c':Nat):Prop:=w'.ownsRow B 213 3 (.slice A L.hs.length c) L.hs.length (cellsH L.hs)/\w'.ownsRow B 213 3 (.slice A' L.ws.length c') L.ws.length (cellsH L.ws)
def AskG (L:Lk) (b:Bool) (w:World) (r:Ending) (w':World):Prop:=∃ A c A' c',r=.returned (.tuple #[.agg #[.slice A L.hs.length c,.slice A' L.ws.length c'],.bool b])/\Own2 L w.heap.size w' A c A' c'/\Below w.heap.size w w'
def FreeG (L:Lk) (w:World) (r:Ending) (w':World):Prop:=∃ A c A' c',r=.returned (.agg #[.slice A L.hs.length c,.slice A' L.ws.length c'])/\Own2 L w.heap.size w' A c A' c'/\Below w.heap.size w w'
theorem ask_g {A A':Option Addr} {n m c c' B B':Nat} {L:Lk} {b:Bool} {w w':World} (hn:L.hs.length=n) (hm:L.ws.length=m) (h1:w'.ownsRow B 213 3 (.slice A n c) n (cellsH L.hs)) (hB:w.heap.size<=B) (h2:w'.ownsRow B' 213 3 (.slice A' m c') m (cellsH L.ws)) (hB':w.heap.size<=B') (hb:Below w.heap.size w w') :
  AskG L b w (.returned (.tuple #[.agg #[.slice A n c,.slice A' m c'],.bool b])) w':=by
 subst hn hm
 exact ⟨A,c,A',c',rfl,⟨qat h1 hB,qat h2 hB'⟩,hb⟩
theorem AskG_ (L:Lk) (h:Hd) (v:Value) (w:World) (hL:LkR w v L) (h1:L.hs.length<=90000) (h2:L.ws.length<=90000) :
  Calls Tryz.prog 80 #[v,.agg h.arr] w (AskG (askL L h) (freeB L h) w):=by
 obtain ⟨A,n,c,A',n',c',rfl,e1,rj,e2,rk⟩:=hL
 obtain ⟨hs,ws⟩:=L
 obtain ⟨s,t,x⟩:=h
 simp only at e1 e2 h1 h2 rj rk
 simp only [Hd.arr]
 have hn:n<=90000:=by omega
 have hn':n'<=90000:=by omega
 have HL:=zh e1
 have HL':=zh e2
 have HR:=zh rj
 have HR':=zh rk
 obtain ⟨fi,hfi⟩:∃ f,hs.findIdx? (qdq ⟨s,t,x⟩)=f:=⟨_,rfl⟩
 obtain ⟨b,hb⟩:∃ b,hasB ⟨hs,ws⟩ ⟨s,t,x⟩=b:=⟨_,rfl⟩
 obtain ⟨f,hf⟩:∃ f,freeB ⟨hs,ws⟩ ⟨s,t,x⟩=f:=⟨_,rfl⟩
 obtain ⟨at_,hat⟩:∃ a,idxI (qdq ⟨s,t,x⟩) hs=a:=⟨_,rfl⟩
 have HFI:=zh hfi
 have HB:=zh hb
 have HF:=zh hf
 have HAT:=zh hat
 rw [hf]
 clear e1 e2 rj rk h1 h2 hfi hb hf hat
 go_enter Tryz.func80,Tryz.ntmps80
 go_wp2_with fail
 obtain ⟨W,hW_,hbW,B1,B2,B3⟩:=al3 w 29 213 29 #[.slice A n c,.slice A' n' c'] #[.int .i64 s,.string t,.bool x] #[.slice none 0 0,.slice none 0 0]
 rw [<-hW_]
 clear hW_
 have q1:=B1.cell 0
 have q1':=B1.cell 1
 have q2:=B2.three (zb _ _)
 go_wp2_with fail
 refine (mine_ ⟨s,t,x⟩ A A' n c n' c' hs _ HL.out (by omega) (HR.out.ext hbW)).mono ?_
 rintro e w1 ⟨rfl,hb1⟩
 rw [HAT.out]
 have h1:=hbW.tr hb1
 have B1:=B1.ext hb1
 have B2:=B2.ext hb1
 have B3:=B3.ext hb1
 clear q1 q1' q2 hb1 hbW
 have hw1:w.heap.size+2<w1.heap.size:=B3.lt
 go_upto_region 2 with fail
 go_cut [7] from 13 to 31 (fun sv wx=>sv=.bool b/\w1.drew=wx)
 case first =>
  have D:=fun w' (h:Below w1.heap.size w1.drew w')=>za ((B1.ext ((zb _ _).drew.trans h)).cell 0) (B2.three ((zb _ _).drew.trans h))
  have hgo:(∃ i,fi=some i/\at_=(i:Int)/\(i:Int)<(n:Int)/\(∃ o:Hd,hs[i]? = some o/\o.s=s/\o.t=t/\b=(o.x || !x)))\/(fi=none/\at_ = -1/\b=false):=by
   cases e:fi with
   | none=>exact .inr ⟨rfl,by rw [<-HAT.out];unfold idxI;rw [HFI.out,e],by rw [<-HB.out];unfold hasB;simp only [HFI.out,e]⟩
   | some i =>
    obtain ⟨⟨os,ot,ox⟩,ho,hm⟩:=qio (HFI.out.trans e)
    unfold qdq at hm
    simp only [Bool.and_eq_true,beq_iff_eq,beqBA] at hm
    obtain ⟨rfl,rfl⟩:=hm
    exact .inl ⟨i,rfl,by rw [<-HAT.out];unfold idxI;rw [HFI.out,e],by have:=(List.getElem?_eq_some_iff.1 ho).1;have:=HL.out;omega,_,ho,rfl,rfl,by rw [<-HB.out];unfold hasB;simp only [HFI.out,e,ho]⟩
  rcases hgo with ⟨i,rfl,rfl,hin,⟨os,ot,ox⟩,ho,rfl,rfl,rfl⟩|⟨rfl,rfl,rfl⟩
  ·have hdi:decide ((i:Int)<(n:Int))=true:=by simp;omega
   have hdz:decide ((0:Int)<=(i:Int))=true:=by simp
   obtain ⟨bb,rfl,hbb⟩:=HR.out.some_ (by have:=HL.out;omega)
   have D2:=fun w' (h:Below w1.heap.size w1.drew w')=>((HR.out.ext h1).ext ((zb _ _).drew.trans h)).at_ ho
   cases ox <;> cases x
   all_goals (refine r1 [(0,true),(1,true),(2,true),(3,true),(4,true),(5,true),(6,true),(7,true),(8,true),(9,true),(10,true),(11,true),(12,true),(13,true),(14,true),(15,true),(16,true),(17,true),(18,true),(19,true)] ?_)
   all_goals (repeat ((first|refine pT ?_|refine pF ?_);try go_frame))
   all_goals (refine qad ?_;go_wp2_with fail;go_meet;exact ⟨rfl,rfl⟩)
  ·refine r1 [(0,true),(1,true),(2,true),(3,true),(4,true),(5,true),(6,true),(7,true),(8,true),(9,true),(10,true),(11,true),(12,true),(13,true),(14,true),(15,true),(16,true),(17,true),(18,true),(19,true)] ?_
   repeat ((first|refine pT ?_|refine pF ?_);try go_frame)
   refine qad ?_
   go_wp2_with fail
   go_meet
   exact ⟨rfl,rfl⟩
 obtain ⟨rfl,rfl⟩:=hcut
 have h1d:Below w.heap.size w w1.drew:=h1.drew
 have B1:=Blk.drew B1
 have B2:=Blk.drew B2
 have B3:=Blk.drew B3
 have q1:=B1.cell 0
 have q2:=B2.three (zb _ _)
 generalize w1.drew=w2 at *
 have hw2:w.heap.size+2<w2.heap.size:=B3.lt
 clear h1 hw1
 go_upto_region 3 with fail
 go_cut [8] from 32 to 40 (fun sv wx=>sv=.bool f/\Below w2.heap.size w2 wx)
 case first =>
  have hff:f=(b || !hs.any (agB ⟨s,t,x⟩)):=by rw [<-HF.out,<-HB.out];rfl
  subst hff
  cases b with
  | true =>
   go_wp2_with fail
   go_meet
   exact ⟨rfl,zb _ _⟩
  | false =>
   go_wp2_with fail
   refine (qqc ⟨s,t,x⟩ hs A n c _ HL.out (by omega) (HR.out.ext h1d)).mono ?_
   rintro e w3 ⟨rfl,hb3⟩
   go_wp2_with fail
   go_meet
   exact ⟨rfl,hb3⟩
 obtain ⟨rfl,hb2⟩:=hcut
 have h2:=h1d.tr hb2
 have B1:=B1.ext hb2
 have B2:=B2.ext hb2
 have B3:=B3.ext hb2
 clear q1 q2 hb2 h1d hw2
 have hw2:w.heap.size+2<wc.heap.size:=B3.lt
 go_upto_region 4 with fail
 have D:=fun w' (h:Below wc.heap.size wc.drew w')=>za ((B1.ext ((zb _ _).drew.trans h)).cell 0) (za ((B1.ext ((zb _ _).drew.trans h)).cell 1) (B2.three ((zb _ _).drew.trans h)))
 refine qcz ⟨9,9,fun g=>.pointer (some ⟨g,0,none⟩),.cells #[.slice none 0 0,.slice none 0 0] 29⟩
  [(0,true),(1,true),(3,true),(4,true),(5,true),(6,true)] [(2,false),(7,false),(8,true)] [(10,false)] (by kernel_rfl) (by kernel_rfl) ?_
 repeat ((first|refine iT ?_|refine iF ?_);try go_frame)
 refine qbn ⟨?_,?_⟩
 ·intro y hy
  simp only [List.mem_cons,List.not_mem_nil,or_false] at hy
  subst hy
  exact ⟨_,rfl,rfl,qae rfl,fun w=>by go_simp⟩
 clear D
 refine iD fun wI hI hSI K hK=>?_;go_simp
 refine (clone_ hs A n c _ HL.out (by omega) ((HR.out.ext h2).ext (zt (zb _ _).drew hI))).mono ?_
 rintro e w3 ⟨A3,c3,rfl,o3,hb3⟩
 refine hK.out _ _ hb3 ?_
 have hI3:=zt hI (zm hb3 hI.size)
 have bI:=hI.size
 have o3:=qat o3 (show wc.heap.size<=_ from bI)
 clear hK K hb3 hI hSI
 refine iD fun wI hI hSI K hK=>?_;go_simp
 refine (qll ws A' n' c' s _ HL'.out (by omega) ((HR'.out.ext h2).ext (zt (zb _ _).drew (zt hI3 (zm hI hI3.size))))).mono ?_
 rintro e w4 ⟨A4,c4,rfl,o4,hb4⟩
 refine hK.out _ _ hb4 ?_
 have hI4:=zt hI (zm hb4 hI.size)
 have hsep:∀ b4,A4=some ⟨b4,0,none⟩->∀ b3,A3=some ⟨b3,0,none⟩->b3<b4:=fun b4 e4 b3 e3=>by
  have h1:=((qay o3 hI).lt b3 (by rw [e3];rfl)).2
  have h2:=(o4.lt b4 (by rw [e4];rfl)).1
  omega
 have o3:=qay o3 hI4
 have bI:=hI.size
 have o4:=qat o4 (show wc.heap.size<=_ from Nat.le_trans hI3.size bI)
 clear hK K hb4 hI hI3 hI4 hSI
 repeat ((first|refine iT ?_|refine iF ?_);try go_frame)
 refine qbn ?_
 intro g1 wf he hb hlo1 hhi1 hat1
 try go_frame
 have B5:Blk wf g1 29 #[.slice none 0 0,.slice none 0 0]:=hat1
 have o3:=qay o3 he
 have o4:=qay o4 he
 clear hat1 he
 have f0:=B5.frozen 0
 have f1:=B5.frozen 1
 have q0:=B5.cell 0
 have q1:=B5.cell 1
 refine pD fun K hK=>?_;go_simp
 clear f0 f1 q0 q1
 obtain ⟨w5,hw5,B5',hlow,hgr⟩:=Blk.set2 B5 (.slice A3 n c3) (.slice A4 (woL ws s).length c4)
 rw [<-hw5]
 clear hw5
 have o3:=qdn o3 B5 hgr
 have o4:=qdn o4 B5 hgr
 refine hK.out _ _ (zt hb (hlow _ hlo1)) (qad ?_)
 clear hK K
 have hx5:Below wc.heap.size wc w5:=zt (zb _ _).drew (zt hb (hlow _ hlo1))
 have h5:Below w.heap.size w w5:=h2.tr hx5
 have B2:=B2.ext hx5
 have B3:=B3.ext hx5
 have hg1:w.heap.size+2<g1:=by omega
 clear B1 B5 hx5 hb hlow hgr hlo1 hhi1 h2
 have hw5:w.heap.size+2<w5.heap.size:=B3.lt
 have hwl:(woL ws s).length<=90000:=by have:=woL_len ws s;have:=HL'.out;omega
 have q1:=B5'.cell 0
 have q1':=B5'.cell 1
 have q2:=B2.three (zb _ _)
 have f0:=B5'.frozen 0
 have f1:=B5'.frozen 1
 go_upto_block 0 with fail
 go_cut [] from 50 to 76 (fun wx=>∃ Ah ch Aw cw,Blk wx g1 29 #[.slice Ah (askL ⟨hs,ws⟩ ⟨s,t,x⟩).hs.length ch,.slice Aw (askL ⟨hs,ws⟩ ⟨s,t,x⟩).ws.length cw]/\Blk wx (w.heap.size+1+1) 29 #[.slice none 0 0,.slice none 0 0]/\Own2 (askL ⟨hs,ws⟩ ⟨s,t,x⟩) (w.heap.size+3) wx Ah ch Aw cw/\Below w.heap.size w wx)
 case first =>
  have o3:=qat o3 (show w.heap.size+3<=_ by omega)
  have o4:=qat o4 (show w.heap.size+3<=_ by omega)
  cases f with
  | false =>
   have e3:askL ⟨hs,ws⟩ ⟨s,t,x⟩=⟨hs,woL ws s++[⟨s,t,x⟩]⟩:=by unfold askL;simp [HF.out]
   go_wp2_with fail
   obtain ⟨W6,hW_,hb6,C1,C2⟩:=al2 w5 213 27 #[.int .i64 s,.string t,.bool x] #[.slice A4 (woL ws s).length c4,.slice (some ⟨w5.heap.size,0,none⟩) 1 1]
   rw [<-hW_]
   clear hW_
   refine (qdl (woL ws s) ⟨s,t,x⟩ A4 ((woL ws s).length) c4 (w.heap.size+3) (w5.heap.size+1) w5.heap.size _ rfl (by omega) (qay o4 hb6) C2 C1).mono ?_
   rintro e w7 ⟨A7,c7,rfl,o7,hb7⟩
   have hb8:=hb6.tr hb7
   have B5:=B5'.ext hb8
   have f1:=B5.frozen 1
   have q1':=B5.cell 1
   go_wp2_with fail
   obtain ⟨w8,hw8,B8,hlow,hgr⟩:=Blk.set1' B5 (.slice A7 ((woL ws s).length+1) c7)
   rw [<-hw8]
   go_meet
   rw [e3]
   exact ⟨A3,c3,A7,c7,by simpa [HL.out] using B8,(B3.ext hb8).grown hgr (by simp;omega),⟨by simpa [HL.out] using qdn (qay o3 hb8) B5 hgr,by simpa using qat (qdn o7 B5 hgr) (by have:=hb6.size;omega)⟩,(h5.tr hb8).trans (hlow _ (by omega))⟩
  | true =>
   cases b with
   | true =>
    have e3:askL ⟨hs,ws⟩ ⟨s,t,x⟩=⟨hs,woL ws s⟩:=by unfold askL;simp [HF.out,HB.out]
    go_wp2_with fail
    go_meet
    rw [e3]
    exact ⟨A3,c3,A4,c4,by simpa [HL.out] using B5',B3,⟨by simpa [HL.out] using o3,o4⟩,h5⟩
   | false =>
    cases fi with
    | none =>
     have e3:askL ⟨hs,ws⟩ ⟨s,t,x⟩=⟨hs++[⟨s,t,x⟩],woL ws s⟩:=by unfold askL;simp [HF.out,HB.out,HFI.out]
     obtain rfl:at_ = -1:=by rw [<-HAT.out];unfold idxI;rw [HFI.out]
     go_wp2_with fail
     obtain ⟨W6,hW_,hb6,C1,C2⟩:=al2 w5 213 27 #[.int .i64 s,.string t,.bool x] #[.slice A3 n c3,.slice (some ⟨w5.heap.size,0,none⟩) 1 1]
     rw [<-hW_]
     clear hW_
     refine (qdl hs ⟨s,t,x⟩ A3 n c3 (w.heap.size+3) (w5.heap.size+1) w5.heap.size _ HL.out (by omega) (qay o3 hb6) C2 C1).mono ?_
     rintro e w7 ⟨A7,c7,rfl,o7,hb7⟩
     have hb8:=hb6.tr hb7
     have B5:=B5'.ext hb8
     have f0:=B5.frozen 0
     have q1:=B5.cell 0
     go_wp2_with fail
     obtain ⟨w8,hw8,B8,hlow,hgr⟩:=Blk.set0' B5 (.slice A7 (n+1) c7)
     rw [<-hw8]
     go_meet
     rw [e3]
     exact ⟨A7,c7,A4,c4,by simpa [HL.out] using B8,(B3.ext hb8).grown hgr (by simp;omega),⟨by simpa [HL.out] using qat (qdn o7 B5 hgr) (by have:=hb6.size;omega),qdn (qay o4 hb8) B5 hgr⟩,(h5.tr hb8).trans (hlow _ (by omega))⟩
    | some i =>
     have e3:askL ⟨hs,ws⟩ ⟨s,t,x⟩=⟨hs.set i ⟨s,t,x⟩,woL ws s⟩:=by unfold askL;simp [HF.out,HB.out,HFI.out]
     obtain rfl:at_=(i:Int):=by rw [<-HAT.out];unfold idxI;rw [HFI.out]
     obtain ⟨o0,ho,hm⟩:=qio HFI.out
     have hin:i<n:=by have:=(List.getElem?_eq_some_iff.1 ho).1;have:=HL.out;omega
     have hdi:decide ((i:Int)<(n:Int))=true:=by simp;omega
     have hdz:decide ((0:Int)<=(i:Int))=true:=by simp
     obtain ⟨b3,c3',e3',hb3,hb3'⟩:=o3.form (by omega)
     injection e3' with e3a e3b e3c
     subst e3a
     subst e3c
     have F0:=o3.frozenAt (i * 3)
     have F1:=o3.frozenAt (i * 3+1)
     have F2:=o3.frozenAt (i * 3+2)
     have HA:=qjj hs i _ ho
     have Q0:=(o3.cellAt (i * 3) (by omega)).trans HA.1
     have Q1:=(o3.cellAt (i * 3+1) (by omega)).trans HA.2.1
     have Q2:=(o3.cellAt (i * 3+2) (by omega)).trans HA.2.2
     clear HA
     have hne1:b3≠g1:=own_ne o3 B5'
     go_wp2_with fail
     have S0:=o3.stored (i * 3) (.int .i64 s)
     have S1:=S0.1.stored (i * 3+1) (.string t)
     have S2:=S1.1.stored (i * 3+2) (.bool x)
     have hgr:w5.grownBy (((w5.setCell ⟨b3,i * 3,none⟩ (.int .i64 s)).setCell ⟨b3,i * 3+1,none⟩ (.string t)).setCell ⟨b3,i * 3+2,none⟩ (.bool x)) (some b3) :=
      qnn (qnn S0.2 S1.2) S2.2
     have o5:=S2.1
     have e5:=qmd hs i o0 ⟨s,t,x⟩ ho
     simp only at e5
     rw [e5] at o5
     go_meet
     rw [e3]
     refine ⟨_,_,A4,c4,by simpa [HL.out] using B5'.grown hgr (by simpa using Ne.symm hne1),B3.grown hgr (by simp;omega),⟨by simpa [HL.out] using o5,o4.kept hgr ?_⟩,(h5.gw hgr)⟩
     cases e:(Value.slice A4 (woL ws s).length c4).ownBlock with
     | none=>exact .inl rfl
     | some b4 =>
      refine .inr (fun hr=>?_)
      injection hr with hr
      rcases o4.2 with ⟨e4,_⟩|⟨g,cap,cur,e4,_⟩
      ·rw [e4] at e;cases e
      ·injection e4 with e4 _ _
       have:=hsep g e4 b3 rfl
       rw [e4] at e
       have e:g=b4:=by simpa [Value.ownBlock] using e
       omega
 obtain ⟨Ah,ch,Aw,cw,C5,C3,⟨oh,ow⟩,h6⟩:=hcut
 clear B5' B3 o3 o4 hsep h5 q1 q1' q2 f0 f1 B2
 have q1:=C5.cell 0
 have q1':=C5.cell 1
 have f3:=C3.frozen 0
 have f3':=C3.frozen 1
 have q3:=C3.cell 0
 have q3':=C3.cell 1
 have hne:w.heap.size+1+1≠g1:=by omega
 go_wp2
 clear q1 q1' f3 f3' q3 q3' hne
 obtain ⟨w9,hw9,B9,hlow9,hgr9⟩:=Blk.set2 C3 (.slice Ah (askL ⟨hs,ws⟩ ⟨s,t,x⟩).hs.length ch) (.slice Aw (askL ⟨hs,ws⟩ ⟨s,t,x⟩).ws.length cw)
 rw [<-hw9]
 have q1:=B9.cell 0
 have q1':=B9.cell 1
 exact bodyPost_ret (v:=.tuple #[.agg #[.slice Ah (askL ⟨hs,ws⟩ ⟨s,t,x⟩).hs.length ch,.slice Aw (askL ⟨hs,ws⟩ ⟨s,t,x⟩).ws.length cw],.bool f]) (by simp [results,Tryz.results80,go_sem,q1,q1'];try rfl) rfl
  (ask_g rfl rfl (qgk oh hgr9 (by omega)) (by omega) (qgk ow hgr9 (by omega)) (by omega) (h6.trans (hlow9 w.heap.size (by omega))))
theorem FreeG_ (L:Lk) (s:Int) (v:Value) (w:World) (hL:LkR w v L) (h1:L.hs.length<=100000) (h2:L.ws.length<=100000) :
  Calls Tryz.prog 84 #[v,.int .i64 s] w (FreeG (freeL L s) w):=by
 obtain ⟨A,n,c,A',n',c',rfl,e1,rj,e2,rk⟩:=hL
 have hn:n<=100000:=by omega
 have hn':n'<=100000:=by omega
 have E1:=zh e1
 have E2:=zh e2
 clear e1 e2 h1 h2
 go_enter Tryz.func84,Tryz.ntmps84
 go_wp2
 obtain ⟨W,hW_,hbW,B1,B2⟩:=al2 w 29 29 #[.slice A n c,.slice A' n' c'] #[.slice none 0 0,.slice none 0 0]
 rw [<-hW_]
 clear hW_
 have D:=fun w' (h:Blk w' w.heap.size 29 #[.slice A n c,.slice A' n' c']/\Below w.heap.size w w')=>(show w'.cell? ⟨w.heap.size,0,none⟩=some (.slice A n c)/\w'.cell? ⟨w.heap.size,1,none⟩=some (.slice A' n' c') from ⟨h.1.cell 0,h.1.cell 1⟩)
 refine r2 (S:=fun w'=>Blk w' w.heap.size 29 #[.slice A n c,.slice A' n' c']/\Below w.heap.size w w') [(0,true),(1,true),(2,true),(4,true),(5,true),(6,true),(3,false),(7,false),(8,true),(9,false)] ⟨B1,hbW.drew⟩ ?_
 repeat ((first|refine pT ?_|refine pF ?_);try go_frame)
 refine pD fun K hK=>?_;go_simp
 refine (qll L.hs A n c s _ E1.out hn (rj.ext (hbW.drew))).mono ?_
 rintro e w1 ⟨A2,c2,rfl,o2,hb2⟩
 have h1:=zt hbW.drew (zm hb2 hbW.size)
 refine hK.out _ _ ⟨B1.ext (zt (zb _ _).drew hb2),h1⟩ ?_
 clear hK K
 refine pD fun K hK=>?_;go_simp
 refine (qll L.ws A' n' c' s _ E2.out hn' (rk.ext h1)).mono ?_
 rintro e w2 ⟨A3,c3,rfl,o3,hb3⟩
 have hbT:=zt (zb _ _).drew (zt hb2 (zm hb3 hb2.size))
 have h2:=zt h1 (zm hb3 h1.size)
 refine hK.out _ _ ⟨B1.ext hbT,h2⟩ ?_
 clear hK K
 repeat ((first|refine pT ?_|refine pF ?_);try go_frame)
 clear D
 have B2':=B2.ext hbT
 have f20:=B2'.frozen 0
 have f21:=B2'.frozen 1
 have q20:=B2'.cell 0
 have q21:=B2'.cell 1
 refine pD fun K hK=>?_;go_simp
 clear f20 f21 q20 q21
 obtain ⟨w3,hw3,B3,hlow,hgr⟩:=Blk.set2 B2' (.slice A2 (woL L.hs s).length c2) (.slice A3 (woL L.ws s).length c3)
 rw [<-hw3]
 clear hw3
 have h3:=zt h2 (hlow w.heap.size (Nat.le_succ _))
 have B1':=(B1.ext hbT).grown hgr (by simp)
 refine hK.out _ _ ⟨B1',h3⟩ (qad ?_)
 clear hK K
 have q30:=B3.cell 0
 have q31:=B3.cell 1
 go_wp2
 exact bodyPost_ret (v:=.agg #[.slice A2 (woL L.hs s).length c2,.slice A3 (woL L.ws s).length c3]) (by simp [results,Tryz.results84,go_sem,q30,q31];try rfl) rfl
  ⟨A2,c2,A3,c3,rfl,⟨qat (qgk (qay o2 hb3) hgr (by have h1:W.heap.size<=W.drew.heap.size:=zl _;have h2:=B2.lt;omega)) hbW.size,qat (qgk o3 hgr (by have h1:W.heap.size<=w1.heap.size:=hb2.size;have h2:=B2.lt;omega)) h1.size⟩,h3⟩
end Go.Proofs.YtdjbpcnhnkemiaaGreat.lk
namespace Go.Proofs.YtdjbpcnhnkemiaaGreat.tp
open Go.ChangeShapes Go.WideShapes Go.ChangeAt Go.RowKit Go.Proofs.YtdjbpcnhnkemiaaGreat.lib
variable {w w':World}
variable {n c g B b off i j k m n2 n3 c2 c3 c4 c5 c6 gs gn np lo gr gd id b2 off2:Nat}
variable {A A2 A3 A4 A5 A6:Option Addr}
variable {cs:List Value}
variable {l r:List UInt8}
variable {rs:List (List UInt8)}
variable {s o e:Int}
variable {nm:ByteArray}
variable {F G:qab}
variable {x:DBd}
def hdOf (h:Hld):lk.Hd:=⟨h.1,h.2.1,h.2.2⟩
def ofHd (h:lk.Hd):Hld:=(h.s,h.t,h.x)
theorem map_hd (l:List lk.Hd):(l.map ofHd).map hdOf=l:=by rw [List.map_map];exact List.map_id _
def lkOf (x:DBd):lk.Lk:=⟨x.2.2.1.map hdOf,x.2.2.2.map hdOf⟩
def qbv (x:DBd) (L:lk.Lk):DBd:=(x.1,x.2.1,L.hs.map ofHd,L.ws.map ofHd)
theorem lk_with (x:DBd) (L:lk.Lk):lkOf (qbv x L)=L:=by
 obtain ⟨hs,ws⟩:=L
 show lk.Lk.mk ((hs.map ofHd).map hdOf) ((ws.map ofHd).map hdOf)=_
 rw [map_hd,map_hd]
theorem qma (l:List Hld):lk.cellsH (l.map hdOf)=(l.map fun h=>[Value.int .i64 h.1,.string h.2.1,.bool h.2.2]).flatten:=by
 rw [lk.cellsH,List.flatMap_def,List.map_map]
 rfl
theorem own_hld {l:List Hld} (h:OwnE eHld 213 w B F A n c l):w.ownsRow B 213 3 (.slice A n c) n (lk.cellsH (l.map hdOf))/\(l.map hdOf).length=n:=by
 obtain ⟨css,h1,h2,h3⟩:=h
 have e:css=l.map fun h=>[Value.int .i64 h.1,.string h.2.1,.bool h.2.2]:=by
  have hl:css.length=l.length:=h2.1
  refine List.ext_getElem? fun i=>?_
  rw [List.getElem?_map]
  cases hx:l[i]? with
  | none =>
   rw [List.getElem?_eq_none_iff] at hx
   rw [List.getElem?_eq_none (by omega)]
   rfl
  | some y =>
   have hi:=(List.getElem?_eq_some_iff.1 hx).1
   have hc:css[i]? = some css[i]:=List.getElem?_eq_getElem (by omega)
   have hr:=h2.2 i css[i] y hc hx
   rw [hc]
   obtain ⟨_,_,e1,e2,_,_,e3,e4,e5⟩:=hr
   rw [e1,e2,e3,e4,e5]
   rfl
 rw [qma,<-e]
 exact ⟨h1,by simpa using h3⟩
theorem qki {l:List lk.Hd} (h:w.ownsRow B 213 3 (.slice A l.length c) l.length (lk.cellsH l)):OwnE eHld 213 w B F A l.length c (l.map ofHd):=by
 refine ⟨(l.map ofHd).map fun h=>[Value.int .i64 h.1,.string h.2.1,.bool h.2.2],?_,⟨by simp,fun i cs x h1 h2=>?_⟩,by simp⟩
 ·rw [<-qma,map_hd];exact h
 ·rw [List.getElem?_map,h2] at h1
  injection h1 with h1
  subst h1
  exact ⟨[_],_,rfl,rfl,[_],[_],rfl,rfl,rfl⟩
section
variable {w w':World} {g B:Nat} {o e:Int} {x:DBd} {A:Option Addr} {c:Nat} {A2:Option Addr} {c2:Nat} {A3:Option Addr} {c3:Nat} {A4:Option Addr} {c4:Nat}
theorem CallW.lkr (h:CallW w g B o e x A c A2 c2 A3 c3 A4 c4):lk.LkR w (.agg #[.slice A3 x.2.2.1.length c3,.slice A4 x.2.2.2.length c4]) (lkOf x):=by
 obtain ⟨h1,h2⟩:=own_hld h.hld.1
 obtain ⟨h3,h4⟩:=own_hld h.wai.1
 exact ⟨_,_,_,_,_,_,rfl,h2,lk.hs_of_own h1,h4,lk.hs_of_own h3⟩
theorem CallW.locks (h:CallW w g B o e x A c A2 c2 A3 c3 A4 c4) {w1:World} {L:lk.Lk} (hb:Below w.heap.size w w1) (hO:lk.Own2 L w.heap.size w1 A5 c5 A6 c6):
  CallW ((w1.setCell ⟨g,2,none⟩ (.slice A5 L.hs.length c5)).setCell ⟨g,3,none⟩ (.slice A6 L.ws.length c6)) g B o e (qbv x L) A c A2 c2 A5 c5 A6 c6/\w1.grownBy ((w1.setCell ⟨g,2,none⟩ (.slice A5 L.hs.length c5)).setCell ⟨g,3,none⟩ (.slice A6 L.ws.length c6)) (some g):=by
 have hg:=qah (qac w1 g 2 (.slice A5 L.hs.length c5)) (qac _ g 3 (.slice A6 L.ws.length c6))
 have hC:=h.ext hb
 have hk:=Keep.grown (F:=fun b=>b≠g) hg (fun g' h1 h2=>by injection h1 with h1;exact h2 h1.symm)
 have hB:=(hC.blk.set_ 2 (.slice A5 L.hs.length c5)).set_ 3 (.slice A6 L.ws.length c6)
 have lw:∀ b,w.heap.size<=b->NC B g A A2 b:=fun b hb=>⟨by have:=h.blk.lt;have:=h.lo;omega,by have:=h.blk.lt;omega,fun e=>by have:=(h.tab.lt e).2;omega,fun e=>by have:=(h.wrk.lt e).2;omega⟩
 have hBw:B<=w.heap.size:=by have:=h.blk.lt;have:=h.lo;omega
 have hl:∀ (l:List lk.Hd),(l.map ofHd).length=l.length:=fun l=>List.length_map ..
 refine ⟨⟨?_,hC.tab.keep hk (fun b q=>(h.ne b q).2) (fun b q=>q.2.1),hC.wrk.keep hk h.ne2 (fun b q=>q.2.1),?_,?_,h.ne,h.ne2,h.lo⟩,hg⟩
 ·show Blk _ g _ #[_,_,.slice A5 (L.hs.map ofHd).length c5,.slice A6 (L.ws.map ofHd).length c6,_,_,_,_]
  rw [hl,hl]
  exact hB
 ·show Hh _ B _ A5 (L.hs.map ofHd).length c5 (L.hs.map ofHd)
  rw [hl]
  have h1:Hh w1 B (NC B g A A2) A5 L.hs.length c5 (L.hs.map ofHd):=⟨(qki hO.1).base hBw,fun b e=>lw b ((qki (F:=fun _=>True) hO.1).lt e).1⟩
  exact h1.keep (hk.mono (fun b q=>q.2.1))
 ·show Hh _ B _ A6 (L.ws.map ofHd).length c6 (L.ws.map ofHd)
  rw [hl]
  have h1:Hh w1 B (NC B g A A2) A6 L.ws.length c6 (L.ws.map ofHd):=⟨(qki hO.2).base hBw,fun b e=>lw b ((qki (F:=fun _=>True) hO.2).lt e).1⟩
  exact h1.keep (hk.mono (fun b q=>q.2.1))
end
theorem askc_ {b0 b1 b3:Nat} {xx:Bool}
  (h:CallW w g B o e x A c A2 c2 A3 c3 A4 c4) (h0:Blk w b0 88 #[.pointer (some ⟨g,0,none⟩)]) (h1:Blk w b1 3 #[.int .i64 s]) (h2:Blk w b2 9 #[.string nm]) (h3:Blk w b3 4 #[.bool xx]) (hok:okDB x) :
  Calls Tryz.prog 79 #[.pointer (some ⟨b0,0,none⟩),.pointer (some ⟨b1,0,none⟩),.pointer (some ⟨b2,0,none⟩),.pointer (some ⟨b3,0,none⟩)] w fun e' w' =>
   e'=.returned (.bool (lk.freeB (lkOf x) ⟨s,nm,xx⟩))/\(∃ A5 c5 A6 c6,CallW w' g B o e (qbv x (lk.askL (lkOf x) ⟨s,nm,xx⟩)) A c A2 c2 A5 c5 A6 c6)/\Frm (fun b=>b=g) w w':=by
 have HC:=zh h
 have hgl:=h.blk.lt
 have HK:=zh (fun (w':World) (hb:Below w.heap.size w w')=>lk.AskG_ (lkOf x) ⟨s,nm,xx⟩ _ w' ((h.lkr).ext hb) (by show (x.2.2.1.map hdOf).length<=_;rw [List.length_map];have:=hok.2.2.2.2.1;omega) (by show (x.2.2.2.map hdOf).length<=_;rw [List.length_map];have:=hok.2.2.2.2.2;omega))
 have D:=fun w' (hS:Blk w' b0 88 #[.pointer (some ⟨g,0,none⟩)]/\Blk w' b1 3 #[.int .i64 s]/\Blk w' b2 9 #[.string nm]/\Blk w' b3 4 #[.bool xx])=>(za (hS.1.cell 0) (za (hS.2.1.cell 0) (za (hS.2.2.1.cell 0) (hS.2.2.2.cell 0))))
 have HSB:=zh (show ∀ w',Below w.heap.size w w'->(Blk w' b0 88 #[.pointer (some ⟨g,0,none⟩)]/\Blk w' b1 3 #[.int .i64 s]/\Blk w' b2 9 #[.string nm]/\Blk w' b3 4 #[.bool xx]) from fun w' q=>⟨h0.ext q,h1.ext q,h2.ext q,h3.ext q⟩)
 have HNE:=zh (show b0≠g/\b1≠g/\b2≠g/\b3≠g from by
  have key:∀ b t cs,Blk w b t cs->t≠110->b≠g:=fun b t cs hb ht e=>by
   subst e
   have hx:=hb.symm.trans h.blk
   injection hx with hx
   injection hx with _ hx
   exact ht hx
  exact ⟨key _ _ _ h0 (by decide),key _ _ _ h1 (by decide),key _ _ _ h2 (by decide),key _ _ _ h3 (by decide)⟩)
 clear h h0 h1 h2 h3 hok
 go_enter Tryz.func79,Tryz.ntmps79
 go_wp2_with fail
 refine r2 (S:=fun w'=>Blk w' b0 88 #[.pointer (some ⟨g,0,none⟩)]/\Blk w' b1 3 #[.int .i64 s]/\Blk w' b2 9 #[.string nm]/\Blk w' b3 4 #[.bool xx]) [(0,true),(1,true),(2,true),(3,true),(4,true),(6,true),(7,true),(8,true),(9,true),(5,false),(10,false),(11,true),(12,true),(13,true),(14,true),(15,true),(16,true),(17,false),(18,true)] (HSB.out _ (zb _ _).drew) ?_
 repeat ((first|refine pT ?_|refine pF ?_);try go_frame)
 have q2:=HC.out.blk.drew.cell 2
 have q3:=HC.out.blk.drew.cell 3
 refine pD fun K hK=>?_;go_simp
 refine hK.out _ _ (HSB.out _ (zb _ _).drew) ?_
 clear hK K q2 q3
 refine pD fun K hK=>?_;go_simp
 have HK1:=zh (HK.out w.drew (zb _ _).drew)
 refine HK1.out.mono ?_
 rintro e' w1 ⟨A5,c5,A6,c6,rfl,hO,hb1⟩
 have HO:=zh hO
 have hbw:=zt (zb w.heap.size w).drew hb1
 refine hK.out _ _ (HSB.out _ hbw) ?_
 clear hK K HK HK1 hO
 repeat ((first|refine pT ?_|refine pF ?_);try go_frame)
 obtain ⟨HN,hgr⟩:=HC.out.locks hbw HO.out
 have HN:=zh HN
 have BG:=HC.out.blk.ext hbw
 have f2:=BG.frozen 2
 have f3:=BG.frozen 3
 have q2:=BG.cell 2
 have q3:=BG.cell 3
 refine pD fun K hK=>?_;go_simp
 have hS1:=HSB.out _ hbw
 have hk:=Keep.grown (F:=fun b=>b≠g) hgr (fun g' h1 h2=>by injection h1 with h1;exact h2 h1.symm)
 refine hK.out _ _ ⟨Blk.keep hS1.1 hk HNE.out.1,Blk.keep hS1.2.1 hk HNE.out.2.1,Blk.keep hS1.2.2.1 hk HNE.out.2.2.1,Blk.keep hS1.2.2.2 hk HNE.out.2.2.2⟩ ?_
 clear hK K f2 f3 q2 q3 BG HC HO hS1 hk D
 have hF:=(Frm.below (G:=fun b=>b=g) hbw).trans (Frm.grown hgr (fun g' h=>by injection h with h;exact h.symm))
 repeat ((first|refine pT ?_|refine pF ?_);try go_frame)
 refine qad ?_
 go_wp2
 go_ret
 exact ⟨rfl,⟨A5,c5,A6,c6,HN.out⟩,hF⟩
theorem hold_free {xx:Bool}
  (h:CallW w g B o e x A c A2 c2 A3 c3 A4 c4) (hok:okDB x) (hse:qex x) (hs:-1000<=s/\s<=1000) (hm:Mono (cmpT nm) x.1) (hmw:Mono (cmpW s) x.2.1) (his:isG (cmpW s) x.2.1=true) (hit:isG (cmpT nm) x.1=true) (hfree:lk.freeB (lkOf x) ⟨s,nm,xx⟩=true) :
  Calls Tryz.prog 28 #[.pointer (some ⟨g,0,none⟩),.int .i64 s,.string nm,.bool xx] w fun e' w' =>
   e'=.returned (.int .i64 0)/\(∃ A5 c5 A6 c6,CallW w' g B o e (qbv x (lk.askL (lkOf x) ⟨s,nm,xx⟩)) A c A2 c2 A5 c5 A6 c6)/\Frm (fun b=>b=g) w w':=by
 have HC:=zh h
 have HOK:=zh hok
 have HSE:=zh hse
 have HM:=zh hm
 have HMW:=zh hmw
 have HIS:=zh his
 have HIT:=zh hit
 have HFR:=zh hfree
 have hmf:∀ (fn:Fn) (first cap:Array Value) (w:World),(Instr.makeFunc fn first cap).run Tryz.prog w=.ok (.func fn first cap) w:=fun _ _ _ _=>rfl
 obtain ⟨p,hp⟩:∃ p,posG (cmpW s) x.2.1=p:=⟨_,rfl⟩
 obtain ⟨q,hq⟩:∃ q,posG (cmpT nm) x.1=q:=⟨_,rfl⟩
 have HP:=zh hp
 have HQ:=zh hq
 clear h hok hse hm hmw his hit hfree hp hq
 go_enter Tryz.func28,Tryz.ntmps28
 go_upto_region 1 with fail
 obtain ⟨W,hW_,hb1,B0,B1,B2,B3⟩:=al4 w 88 3 9 4 #[.pointer (some ⟨g,0,none⟩)] #[.int .i64 s] #[.string nm] #[.bool xx]
 rw [<-hW_]
 clear hW_
 obtain ⟨b0,hb0⟩:∃ b,w.heap.size=b:=⟨_,rfl⟩
 obtain ⟨b1,hb1'⟩:∃ b,w.heap.size+1=b:=⟨_,rfl⟩
 obtain ⟨b2,hb2⟩:∃ b,w.heap.size+1+1=b:=⟨_,rfl⟩
 obtain ⟨b3,hb3⟩:∃ b,w.heap.size+1+1+1=b:=⟨_,rfl⟩
 rw [hb3] at B3 ⊢
 rw [hb2] at B2 ⊢
 rw [hb1'] at B1 ⊢
 rw [hb0] at B0 ⊢
 clear hb0 hb1' hb2 hb3
 have HB:=zh (show Blk W b0 88 #[.pointer (some ⟨g,0,none⟩)]/\Blk W b1 3 #[.int .i64 s]/\Blk W b2 9 #[.string nm]/\Blk W b3 4 #[.bool xx] from ⟨B0,B1,B2,B3⟩)
 have HC1:=zh (HC.out.ext hb1)
 have HF1:=zh hb1
 have q0:=B0.cell 0
 have q1:=B1.cell 0
 have HT:=qgo HC1.out s HOK.out.2.2.1 HMW.out ⟨by omega,by omega⟩ HSE.out
 rw [HIS.out,HP.out] at HT
 have HT:=zh HT
 clear B0 B1 B2 B3 hb1
 go_wp2_with fail
 refine HT.out.mono ?_
 rintro e' w1 ⟨rfl,hbb⟩
 have HB1:=zh (za (HB.out.1.ext hbb) (za (HB.out.2.1.ext hbb) (za (HB.out.2.2.1.ext hbb) (HB.out.2.2.2.ext hbb))))
 have HC2:=zh (HC1.out.ext hbb)
 have HF2:=zh ((HF1.out.tr hbb))
 clear q0 q1 hbb HT HB HC1 HF1
 have q0:=HB1.out.1.cell 0
 have q2:=HB1.out.2.2.1.cell 0
 have HT:=qme HC2.out nm HOK.out.1 HM.out
 rw [HIT.out,HQ.out] at HT
 have HT:=zh HT
 go_wp2_with fail
 refine HT.out.mono ?_
 rintro e' w2 ⟨rfl,hbb⟩
 have HB2:=zh (za (HB1.out.1.ext hbb) (za (HB1.out.2.1.ext hbb) (za (HB1.out.2.2.1.ext hbb) (HB1.out.2.2.2.ext hbb))))
 have HC3:=zh (HC2.out.ext hbb)
 have HF3:=zh ((HF2.out.tr hbb))
 clear q0 q2 hbb HT HB1 HC2 HF2
 have HA:=askc_ HC3.out HB2.out.1 HB2.out.2.1 HB2.out.2.2.1 HB2.out.2.2.2 HOK.out
 rw [HFR.out] at HA
 have HA:=zh HA
 go_wp2_with fail
 refine wp_loop_rounds 1 ?_
 rw [rounds_succ]
 go_wp2_with fail
 refine HA.out.mono ?_
 rintro e' w3 ⟨rfl,⟨A5,c5,A6,c6,hc⟩,hf⟩
 have HCF:=zh hc
 have HFF:=zh ((Frm.below HF3.out).trans hf)
 clear hc hf HA HC3 HF3 HB2
 go_wp2
 go_ret
 exact ⟨rfl,⟨A5,c5,A6,c6,HCF.out⟩,HFF.out⟩
end Go.Proofs.YtdjbpcnhnkemiaaGreat.tp
namespace Go.Proofs.YtdjbpcnhnkemiaaGreat.val
open Go.ChangeShapes Go.WideShapes Go.ChangeAt Go.RowKit Go.Proofs.YtdjbpcnhnkemiaaGreat.lib
def bareN (k n:Int):Int:=if k=1\/k=2 then n else 0
def bareS (k:Int) (s:ByteArray):ByteArray:=if k=3 then s else ByteArray.empty
theorem bare (k n:Int) (s:ByteArray) (w:World) :
  Calls Tryz.prog 225 #[.agg #[.int .i64 k,.int .i64 n,.string s]] w fun e w'=>e=.returned (.agg #[.int .i64 k,.int .i64 (bareN k n),.string (bareS k s)])/\Below w.heap.size w w':=by
 go_enter Tryz.func225,Tryz.ntmps225
 go_wp2
 ·have h:k=3:=by simpa using ‹(k == 3)=true›
  exact bodyPost_ret (v:=.agg #[.int .i64 k,.int .i64 0,.string s]) (by simp [results,Tryz.results225,go_sem]) rfl
   ⟨by rw [bareN,bareS,if_neg (by omega),if_pos h],(((zb _ _).alloc (zl _) _).alloc (by simp) _).alloc (by simp;omega) _⟩
 ·have h:k=1:=by simpa using ‹(k == 1)=true›
  exact bodyPost_ret (v:=.agg #[.int .i64 k,.int .i64 n,.string ByteArray.empty]) (by simp [results,Tryz.results225,go_sem];rfl) rfl
   ⟨by rw [bareN,bareS,if_pos (by omega),if_neg (by omega)],(((zb _ _).alloc (zl _) _).alloc (by simp) _).alloc (by simp;omega) _⟩
 ·have h:k=2:=by simpa using ‹(k == 2)=true›
  exact bodyPost_ret (v:=.agg #[.int .i64 k,.int .i64 n,.string ByteArray.empty]) (by simp [results,Tryz.results225,go_sem];rfl) rfl
   ⟨by rw [bareN,bareS,if_pos (by omega),if_neg (by omega)],(((zb _ _).alloc (zl _) _).alloc (by simp) _).alloc (by simp;omega) _⟩
 ·have h1:¬k=1:=by simpa using ‹(k == 1)=false›
  have h2:¬k=2:=by simpa using ‹(k == 2)=false›
  have h3:¬k=3:=by simpa using ‹(k == 3)=false›
  exact bodyPost_ret (v:=.agg #[.int .i64 k,.int .i64 0,.string ByteArray.empty]) (by simp [results,Tryz.results225,go_sem];rfl) rfl
   ⟨by rw [bareN,bareS,if_neg (by omega),if_neg (by omega)],(((zb _ _).alloc (zl _) _).alloc (by simp) _).alloc (by simp;omega) _⟩
def vEq (k n:Int) (s:ByteArray) (k' n':Int) (s':ByteArray):Bool:=k == k' && (n == n' && s == s')
theorem neqV (k n:Int) (s:ByteArray) (k' n':Int) (s':ByteArray) (w:World) :
  (binOp .neq 70 (.agg #[.int .i64 k,.int .i64 n,.string s]) (.agg #[.int .i64 k',.int .i64 n',.string s'])).run Tryz.prog w=.ok (.bool (!vEq k n s k' n' s')) w:=by
 unfold vEq
 rw [beq_toListBytes]
 cases h1:k == k' <;> cases h2:n == n' <;> cases h3:s.toList == s'.toList <;> go_simp
def chk (k n:Int) (s:ByteArray):Int:=if k<0\/3<k then 3 else if vEq k n s k (bareN k n) (bareS k s)=false\/(k=1/\n≠0/\n≠1) then 1 else if 60<s.size then 5 else 0
theorem check1 (k n:Int) (s:ByteArray) (w:World) (hs:s.size<=maxLen) (hk:0<=k) (hk3:k<=3) (hv:vEq k n s k (bareN k n) (bareS k s)=false) :
  Calls Tryz.prog 177 #[.agg #[.int .i64 k,.int .i64 n,.string s]] w fun e w'=>e=.returned (.int .i64 (chk k n s))/\Below w.heap.size w w':=by
 unfold maxLen at hs
 have hne:=fun W=>neqV k n s k (bareN k n) (bareS k s) W
 go_enter Tryz.func177,Tryz.ntmps177
 go_wp2_with fail
 obtain ⟨W,hW,hB,hWs,c0,c1,c2⟩:∃ W,W=w.alloc (.cells #[.int .i64 k,.int .i64 n,.string s] 70) /\
   Below w.heap.size w W/\w.heap.size<W.heap.size/\(∀ w',Below W.heap.size W.drew w'->w'.cell? ⟨w.heap.size,0,none⟩=some (.int .i64 k))/\(∀ w',Below W.heap.size W.drew w'->w'.cell? ⟨w.heap.size,1,none⟩=some (.int .i64 n)) /\
   (∀ w',Below W.heap.size W.drew w'->w'.cell? ⟨w.heap.size,2,none⟩=some (.string s)) :=
  ⟨_,rfl,(zb _ _).alloc (zl _) _,by simp,fun w' h=>(h.cell (p:=⟨_,_,_⟩) (by simp)).trans (by simp [go_sem]),fun w' h=>(h.cell (p:=⟨_,_,_⟩) (by simp)).trans (by simp [go_sem]),fun w' h=>(h.cell (p:=⟨_,_,_⟩) (by simp)).trans (by simp [go_sem])⟩
 rw [<-hW]
 clear hW
 refine r1 [(0,true),(1,true),(2,false),(3,true),(4,true),(5,true),(6,true),(7,true),(8,true),(9,true),(10,true),(11,true),(12,true),(13,true),(14,true),(15,true),(16,true),(17,true),(18,true),(19,true)] ?_
 repeat ((first|refine pT ?_|refine pF ?_);try go_frame)
 refine pD fun K hK=>?_;go_simp
 refine (bare _ _ _ _).mono ?_
 rintro e w1 ⟨rfl,hb1⟩
 refine hK.out _ _ (zt (zb _ _) hb1) ?_
 clear hK K
 repeat ((first|refine pT ?_|refine pF ?_);try go_frame)
 refine qad ?_
 have hx2:=c2 w1 (zt (zb _ _) hb1)
 clear c0 c1 c2 hne
 go_wp2
 go_ret
 exact ⟨qcp (by rw [chk,if_neg (by omega),if_pos (by simp [hv])]),(zt hB (zm (zt (zb _ _).drew hb1) (by show _<=W.heap.size;omega)))⟩
theorem check2 (k n:Int) (s:ByteArray) (w:World) (hs:s.size<=maxLen) (hk:0<=k) (hk3:k<=3) (hv:vEq k n s k (bareN k n) (bareS k s)=true) (h1:(k == 1)=false) :
  Calls Tryz.prog 177 #[.agg #[.int .i64 k,.int .i64 n,.string s]] w fun e w'=>e=.returned (.int .i64 (chk k n s))/\Below w.heap.size w w':=by
 unfold maxLen at hs
 have hne:=fun W=>neqV k n s k (bareN k n) (bareS k s) W
 go_enter Tryz.func177,Tryz.ntmps177
 go_wp2_with fail
 obtain ⟨W,hW,hB,hWs,c0,c1,c2⟩:∃ W,W=w.alloc (.cells #[.int .i64 k,.int .i64 n,.string s] 70) /\
   Below w.heap.size w W/\w.heap.size<W.heap.size/\(∀ w',Below W.heap.size W.drew w'->w'.cell? ⟨w.heap.size,0,none⟩=some (.int .i64 k))/\(∀ w',Below W.heap.size W.drew w'->w'.cell? ⟨w.heap.size,1,none⟩=some (.int .i64 n)) /\
   (∀ w',Below W.heap.size W.drew w'->w'.cell? ⟨w.heap.size,2,none⟩=some (.string s)) :=
  ⟨_,rfl,(zb _ _).alloc (zl _) _,by simp,fun w' h=>(h.cell (p:=⟨_,_,_⟩) (by simp)).trans (by simp [go_sem]),fun w' h=>(h.cell (p:=⟨_,_,_⟩) (by simp)).trans (by simp [go_sem]),fun w' h=>(h.cell (p:=⟨_,_,_⟩) (by simp)).trans (by simp [go_sem])⟩
 rw [<-hW]
 clear hW
 refine r1 [(0,true),(1,true),(2,false),(3,true),(4,true),(5,true),(6,true),(7,true),(8,true),(9,true),(10,true),(11,true),(12,true),(13,true),(14,true),(15,true),(16,true),(17,true),(18,true),(19,true)] ?_
 repeat ((first|refine pT ?_|refine pF ?_);try go_frame)
 refine pD fun K hK=>?_;go_simp
 refine (bare _ _ _ _).mono ?_
 rintro e w1 ⟨rfl,hb1⟩
 refine hK.out _ _ (zt (zb _ _) hb1) ?_
 clear hK K
 repeat ((first|refine pT ?_|refine pF ?_);try go_frame)
 refine qad ?_
 have hx2:=c2 w1 (zt (zb _ _) hb1)
 clear c0 c1 c2 hne
 by_cases h60:60<s.size
 all_goals go_wp2
 all_goals go_ret
 ·exact ⟨qcp (by rw [chk,if_neg (by omega),if_neg (by simp [hv];simp at h1;omega),if_pos h60]),(zt hB (zm (zt (zb _ _).drew hb1) (by show _<=W.heap.size;omega)))⟩
 ·exact ⟨qcp (by rw [chk,if_neg (by omega),if_neg (by simp [hv];simp at h1;omega),if_neg h60]),(zt hB (zm (zt (zb _ _).drew hb1) (by show _<=W.heap.size;omega)))⟩
theorem check3 (k n:Int) (s:ByteArray) (w:World) (hs:s.size<=maxLen) (hk:0<=k) (hk3:k<=3) (hv:vEq k n s k (bareN k n) (bareS k s)=true) (h1:(k == 1)=true) (h2:(n != 0)=false) :
  Calls Tryz.prog 177 #[.agg #[.int .i64 k,.int .i64 n,.string s]] w fun e w'=>e=.returned (.int .i64 (chk k n s))/\Below w.heap.size w w':=by
 unfold maxLen at hs
 have hne:=fun W=>neqV k n s k (bareN k n) (bareS k s) W
 go_enter Tryz.func177,Tryz.ntmps177
 go_wp2_with fail
 obtain ⟨W,hW,hB,hWs,c0,c1,c2⟩:∃ W,W=w.alloc (.cells #[.int .i64 k,.int .i64 n,.string s] 70) /\
   Below w.heap.size w W/\w.heap.size<W.heap.size/\(∀ w',Below W.heap.size W.drew w'->w'.cell? ⟨w.heap.size,0,none⟩=some (.int .i64 k))/\(∀ w',Below W.heap.size W.drew w'->w'.cell? ⟨w.heap.size,1,none⟩=some (.int .i64 n)) /\
   (∀ w',Below W.heap.size W.drew w'->w'.cell? ⟨w.heap.size,2,none⟩=some (.string s)) :=
  ⟨_,rfl,(zb _ _).alloc (zl _) _,by simp,fun w' h=>(h.cell (p:=⟨_,_,_⟩) (by simp)).trans (by simp [go_sem]),fun w' h=>(h.cell (p:=⟨_,_,_⟩) (by simp)).trans (by simp [go_sem]),fun w' h=>(h.cell (p:=⟨_,_,_⟩) (by simp)).trans (by simp [go_sem])⟩
 rw [<-hW]
 clear hW
 refine r1 [(0,true),(1,true),(2,false),(3,true),(4,true),(5,true),(6,true),(7,true),(8,true),(9,true),(10,true),(11,true),(12,true),(13,true),(14,true),(15,true),(16,true),(17,true),(18,true),(19,true)] ?_
 repeat ((first|refine pT ?_|refine pF ?_);try go_frame)
 refine pD fun K hK=>?_;go_simp
 refine (bare _ _ _ _).mono ?_
 rintro e w1 ⟨rfl,hb1⟩
 refine hK.out _ _ (zt (zb _ _) hb1) ?_
 clear hK K
 repeat ((first|refine pT ?_|refine pF ?_);try go_frame)
 refine qad ?_
 have hx2:=c2 w1 (zt (zb _ _) hb1)
 clear c0 c1 c2 hne
 by_cases h60:60<s.size
 all_goals go_wp2
 all_goals go_ret
 ·exact ⟨qcp (by rw [chk,if_neg (by omega),if_neg (by simp [hv];simp at h1 h2;omega),if_pos h60]),(zt hB (zm (zt (zb _ _).drew hb1) (by show _<=W.heap.size;omega)))⟩
 ·exact ⟨qcp (by rw [chk,if_neg (by omega),if_neg (by simp [hv];simp at h1 h2;omega),if_neg h60]),(zt hB (zm (zt (zb _ _).drew hb1) (by show _<=W.heap.size;omega)))⟩
theorem check4 (k n:Int) (s:ByteArray) (w:World) (hs:s.size<=maxLen) (hk:0<=k) (hk3:k<=3) (hv:vEq k n s k (bareN k n) (bareS k s)=true) (h1:(k == 1)=true) (h2:(n != 0)=true) (h3:(n != 1)=false) :
  Calls Tryz.prog 177 #[.agg #[.int .i64 k,.int .i64 n,.string s]] w fun e w'=>e=.returned (.int .i64 (chk k n s))/\Below w.heap.size w w':=by
 unfold maxLen at hs
 have hne:=fun W=>neqV k n s k (bareN k n) (bareS k s) W
 go_enter Tryz.func177,Tryz.ntmps177
 go_wp2_with fail
 obtain ⟨W,hW,hB,hWs,c0,c1,c2⟩:∃ W,W=w.alloc (.cells #[.int .i64 k,.int .i64 n,.string s] 70) /\
   Below w.heap.size w W/\w.heap.size<W.heap.size/\(∀ w',Below W.heap.size W.drew w'->w'.cell? ⟨w.heap.size,0,none⟩=some (.int .i64 k))/\(∀ w',Below W.heap.size W.drew w'->w'.cell? ⟨w.heap.size,1,none⟩=some (.int .i64 n)) /\
   (∀ w',Below W.heap.size W.drew w'->w'.cell? ⟨w.heap.size,2,none⟩=some (.string s)) :=
  ⟨_,rfl,(zb _ _).alloc (zl _) _,by simp,fun w' h=>(h.cell (p:=⟨_,_,_⟩) (by simp)).trans (by simp [go_sem]),fun w' h=>(h.cell (p:=⟨_,_,_⟩) (by simp)).trans (by simp [go_sem]),fun w' h=>(h.cell (p:=⟨_,_,_⟩) (by simp)).trans (by simp [go_sem])⟩
 rw [<-hW]
 clear hW
 refine r1 [(0,true),(1,true),(2,false),(3,true),(4,true),(5,true),(6,true),(7,true),(8,true),(9,true),(10,true),(11,true),(12,true),(13,true),(14,true),(15,true),(16,true),(17,true),(18,true),(19,true)] ?_
 repeat ((first|refine pT ?_|refine pF ?_);try go_frame)
 refine pD fun K hK=>?_;go_simp
 refine (bare _ _ _ _).mono ?_
 rintro e w1 ⟨rfl,hb1⟩
 refine hK.out _ _ (zt (zb _ _) hb1) ?_
 clear hK K
 repeat ((first|refine pT ?_|refine pF ?_);try go_frame)
 refine qad ?_
 have hx2:=c2 w1 (zt (zb _ _) hb1)
 clear c0 c1 c2 hne
 by_cases h60:60<s.size
 all_goals go_wp2
 all_goals go_ret
 ·exact ⟨qcp (by rw [chk,if_neg (by omega),if_neg (by simp [hv];simp at h1 h2 h3;omega),if_pos h60]),(zt hB (zm (zt (zb _ _).drew hb1) (by show _<=W.heap.size;omega)))⟩
 ·exact ⟨qcp (by rw [chk,if_neg (by omega),if_neg (by simp [hv];simp at h1 h2 h3;omega),if_neg h60]),(zt hB (zm (zt (zb _ _).drew hb1) (by show _<=W.heap.size;omega)))⟩
theorem check5 (k n:Int) (s:ByteArray) (w:World) (hs:s.size<=maxLen) (hk:0<=k) (hk3:k<=3) (hv:vEq k n s k (bareN k n) (bareS k s)=true) (h1:(k == 1)=true) (h2:(n != 0)=true) (h3:(n != 1)=true) :
  Calls Tryz.prog 177 #[.agg #[.int .i64 k,.int .i64 n,.string s]] w fun e w'=>e=.returned (.int .i64 (chk k n s))/\Below w.heap.size w w':=by
 unfold maxLen at hs
 have hne:=fun W=>neqV k n s k (bareN k n) (bareS k s) W
 go_enter Tryz.func177,Tryz.ntmps177
 go_wp2_with fail
 obtain ⟨W,hW,hB,hWs,c0,c1,c2⟩:∃ W,W=w.alloc (.cells #[.int .i64 k,.int .i64 n,.string s] 70) /\
   Below w.heap.size w W/\w.heap.size<W.heap.size/\(∀ w',Below W.heap.size W.drew w'->w'.cell? ⟨w.heap.size,0,none⟩=some (.int .i64 k))/\(∀ w',Below W.heap.size W.drew w'->w'.cell? ⟨w.heap.size,1,none⟩=some (.int .i64 n)) /\
   (∀ w',Below W.heap.size W.drew w'->w'.cell? ⟨w.heap.size,2,none⟩=some (.string s)) :=
  ⟨_,rfl,(zb _ _).alloc (zl _) _,by simp,fun w' h=>(h.cell (p:=⟨_,_,_⟩) (by simp)).trans (by simp [go_sem]),fun w' h=>(h.cell (p:=⟨_,_,_⟩) (by simp)).trans (by simp [go_sem]),fun w' h=>(h.cell (p:=⟨_,_,_⟩) (by simp)).trans (by simp [go_sem])⟩
 rw [<-hW]
 clear hW
 refine r1 [(0,true),(1,true),(2,false),(3,true),(4,true),(5,true),(6,true),(7,true),(8,true),(9,true),(10,true),(11,true),(12,true),(13,true),(14,true),(15,true),(16,true),(17,true),(18,true),(19,true)] ?_
 repeat ((first|refine pT ?_|refine pF ?_);try go_frame)
 refine pD fun K hK=>?_;go_simp
 refine (bare _ _ _ _).mono ?_
 rintro e w1 ⟨rfl,hb1⟩
 refine hK.out _ _ (zt (zb _ _) hb1) ?_
 clear hK K
 repeat ((first|refine pT ?_|refine pF ?_);try go_frame)
 refine qad ?_
 have hx2:=c2 w1 (zt (zb _ _) hb1)
 clear c0 c1 c2 hne
 go_wp2
 go_ret
 exact ⟨qcp (by rw [chk,if_neg (by omega),if_pos (by simp [hv];simp at h1 h2 h3;omega)]),(zt hB (zm (zt (zb _ _).drew hb1) (by show _<=W.heap.size;omega)))⟩
theorem check0 (k n:Int) (s:ByteArray) (w:World) (hk:k<0\/3<k) :
  Calls Tryz.prog 177 #[.agg #[.int .i64 k,.int .i64 n,.string s]] w fun e w'=>e=.returned (.int .i64 (chk k n s))/\Below w.heap.size w w':=by
 have h:chk k n s=3:=by rw [chk,if_pos hk]
 rw [h]
 rcases hk with hk|hk
 all_goals
  go_enter Tryz.func177,Tryz.ntmps177
  go_wp2
  go_ret
  exact ⟨rfl,(zb _ _).alloc (zl _) _⟩
theorem check (k n:Int) (s:ByteArray) (w:World) (hs:s.size<=maxLen) :
  Calls Tryz.prog 177 #[.agg #[.int .i64 k,.int .i64 n,.string s]] w fun e w'=>e=.returned (.int .i64 (chk k n s))/\Below w.heap.size w w':=by
 by_cases hk:k<0\/3<k
 ·exact check0 k n s w hk
 have hk0:0<=k:=by omega
 have hk3:k<=3:=by omega
 cases hv:vEq k n s k (bareN k n) (bareS k s) with
 | false=>exact check1 k n s w hs hk0 hk3 hv
 | true =>
  cases h1:k == 1 with
  | false=>exact check2 k n s w hs hk0 hk3 hv h1
  | true =>
   cases h2:n != 0 with
   | false=>exact check3 k n s w hs hk0 hk3 hv h1 h2
   | true =>
    cases h3:n != 1 with
    | false=>exact check4 k n s w hs hk0 hk3 hv h1 h2 h3
    | true=>exact check5 k n s w hs hk0 hk3 hv h1 h2 h3
end Go.Proofs.YtdjbpcnhnkemiaaGreat.val
namespace Go.Proofs.YtdjbpcnhnkemiaaGreat.val
open Go.RowKit Go.Proofs.YtdjbpcnhnkemiaaGreat.lib
theorem cb_refl:∀ a:List UInt8,Lib.compareBytes a a=0
 | []=>rfl
 | a::ar=>by
  unfold Lib.compareBytes
  rw [if_neg (by simp),if_neg (by simp)]
  exact cb_refl ar
theorem cb_anti:∀ a b:List UInt8,Lib.compareBytes b a = - Lib.compareBytes a b
 | [],[]=>rfl
 | [],_::_=>rfl
 | _::_,[]=>rfl
 | a::ar,b::br=>by
  unfold Lib.compareBytes
  by_cases h1:a<b
  ·have h2:¬b<a:=by simp only [UInt8.lt_iff_toNat_lt] at *;omega
   simp [h1,h2]
  ·by_cases h2:b<a
   ·simp [h1,h2]
   ·simp only [h1,h2,if_false]
    exact cb_anti ar br
theorem qmo:∀ a b:List UInt8,Lib.compareBytes a b=0->a=b
 | [],[],_=>rfl
 | [],_::_,h=>by simp [Lib.compareBytes] at h
 | _::_,[],h=>by simp [Lib.compareBytes] at h
 | a::ar,b::br,h=>by
  unfold Lib.compareBytes at h
  by_cases h1:a<b
  ·simp [h1] at h
  ·by_cases h2:b<a
   ·simp [h1,h2] at h
   ·simp only [h1,h2,if_false] at h
    have e:a=b:=by
     apply UInt8.toNat_inj.1
     simp only [UInt8.lt_iff_toNat_lt] at h1 h2
     omega
    rw [e,qmo ar br h]
theorem qou:∀ a b c:List UInt8,Lib.compareBytes a b<=0->Lib.compareBytes b c<=0->Lib.compareBytes a c<=0/\(Lib.compareBytes a b<0->Lib.compareBytes a c<0)/\(Lib.compareBytes b c<0->Lib.compareBytes a c<0)
 | [],[],[],_,_=>by simp [Lib.compareBytes]
 | [],[],_::_,_,_=>by simp [Lib.compareBytes]
 | [],_::_,[],_,h=>by simp [Lib.compareBytes] at h
 | [],_::_,_::_,_,_=>by simp [Lib.compareBytes]
 | _::_,[],_,h,_=>by simp [Lib.compareBytes] at h
 | _::_,_::_,[],_,h=>by simp [Lib.compareBytes] at h
 | a::ar,b::br,c::cr,h1,h2=>by
  have ih:=qou ar br cr
  have e:∀ (x y:UInt8) (l m:List UInt8),Lib.compareBytes (x::l) (y::m)=if x.toNat<y.toNat then -1 else if y.toNat<x.toNat then 1 else Lib.compareBytes l m:=fun x y l m=>by
   rw [Lib.compareBytes];simp only [UInt8.lt_iff_toNat_lt]
  rw [e] at h1 h2
  rw [e,e,e]
  by_cases x1:a.toNat<b.toNat
  ·rw [if_pos x1]
   by_cases y1:b.toNat<c.toNat
   ·have z:a.toNat<c.toNat:=by omega
    rw [if_pos z];exact ⟨by omega,fun _=>by omega,fun _=>by omega⟩
   ·rw [if_neg y1] at h2
    by_cases y2:c.toNat<b.toNat
    ·rw [if_pos y2] at h2;omega
    ·have z:a.toNat<c.toNat:=by omega
     rw [if_pos z];exact ⟨by omega,fun _=>by omega,fun _=>by omega⟩
  ·rw [if_neg x1] at h1 ⊢
   by_cases x2:b.toNat<a.toNat
   ·rw [if_pos x2] at h1;omega
   ·rw [if_neg x2] at h1 ⊢
    by_cases y1:b.toNat<c.toNat
    ·have z:a.toNat<c.toNat:=by omega
     rw [if_pos z];exact ⟨by omega,fun _=>by omega,fun _=>by omega⟩
    ·rw [if_neg y1] at h2 ⊢
     by_cases y2:c.toNat<b.toNat
     ·rw [if_pos y2] at h2;omega
     ·rw [if_neg y2] at h2 ⊢
      have z1:¬a.toNat<c.toNat:=by omega
      have z2:¬c.toNat<a.toNat:=by omega
      rw [if_neg z1,if_neg z2]
      exact ih h1 h2
structure V where
 k:Int
 n:Int
 s:ByteArray
def V.val (v:V):Value:=.agg #[.int .i64 v.k,.int .i64 v.n,.string v.s]
def cmpV (a b:V):Int:=or3 (ord a.k b.k) (ord a.n b.n) (Lib.compareBytes a.s.data.toList b.s.data.toList)
theorem qpg {a b:Int} (h:ord a b=0):a=b:=by
 unfold ord at h
 split at h
 ·cases h
 ·split at h
  ·cases h
  ·omega
theorem ord_trans (a b c:Int):ord a b<=0->ord b c<=0->ord a c<=0/\(ord a b<0->ord a c<0)/\(ord b c<0->ord a c<0):=by
 unfold ord
 repeat' split
 all_goals omega
def Hang (x y z:Int):Prop:=(x<=0->y<=0->z<=0)/\(x<0->y<=0->z<0)/\(x<=0->y<0->z<0)/\(x=0->y=0->z=0)
theorem qoc {a1 a2 a3 b1 b2 b3:Int} (h:Hang a1 a2 a3) (k:Hang b1 b2 b3):Hang (if a1=0 then b1 else a1) (if a2=0 then b2 else a2) (if a3=0 then b3 else a3):=by
 unfold Hang at *
 by_cases x1:a1=0 <;> by_cases x2:a2=0 <;> by_cases x3:a3=0 <;> (first|rw [if_pos x1]|rw [if_neg x1]) <;> (first|rw [if_pos x2]|rw [if_neg x2]) <;> (first|rw [if_pos x3]|rw [if_neg x3]) <;> omega
theorem qpc (a b c:Int):Hang (ord a b) (ord b c) (ord a c):=by
 have h:=ord_trans a b c
 exact ⟨fun x y=>(h x y).1,fun x y=>(h (by omega) y).2.1 x,fun x y=>(h x (by omega)).2.2 y,fun x y=>by rw [qpg x,qpg y];simp [ord]⟩
theorem cb_hang (a b c:List UInt8):Hang (Lib.compareBytes a b) (Lib.compareBytes b c) (Lib.compareBytes a c):=by
 have h:=qou a b c
 exact ⟨fun x y=>(h x y).1,fun x y=>(h (by omega) y).2.1 x,fun x y=>(h x (by omega)).2.2 y,fun x y=>by rw [qmo _ _ x,qmo _ _ y];exact cb_refl _⟩
theorem cmpV_hang (a b c:V):Hang (cmpV a b) (cmpV b c) (cmpV a c) :=
 qoc (qpc _ _ _) (qoc (qpc _ _ _) (cb_hang _ _ _))
end Go.Proofs.YtdjbpcnhnkemiaaGreat.val
namespace Go.Proofs.YtdjbpcnhnkemiaaGreat.tb
open Go.RowKit Go.Proofs.YtdjbpcnhnkemiaaGreat.lib Go.Proofs.YtdjbpcnhnkemiaaGreat.val
structure Col where
 name:ByteArray
 kind:Int
 null:Bool
structure Sch where
 name:ByteArray
 cols:List Col
 key:Nat
 only:Bool
def zV:V:=⟨0,0,ByteArray.empty⟩
def vchk (v:V):Int:=chk v.k v.n v.s
def qcg (key:Nat) (r:List V):V:=r.getD key zV
def qdt:List Col->List V->Int
 | c::cs,v::r=>if vchk v≠0 then vchk v else if v.k=0/\c.null=false then 13 else if v.k≠0/\v.k≠c.kind then 3 else qdt cs r
 | _,_=>0
def qdi (cs:List Col) (r:List V):Int:=if r.length≠cs.length then 1 else qdt cs r
def qca (key:Nat) (k:V) (r:List V):Bool:=decide (cmpV (qcg key r) k<0)
def atL (key:Nat) (k:V) (rows:List (List V)):Nat:=(rows.takeWhile (qca key k)).length
def isL (key:Nat) (k:V) (rows:List (List V)):Bool:=match rows[atL key k rows]? with
 | some r=>decide (cmpV (qcg key r) k=0)
 | none=>false
def putL (cs:List Col) (key:Nat) (rows:List (List V)) (r:List V):Int × List (List V) :=
 if qdi cs r≠0 then (qdi cs r,rows) else if isL key (qcg key r) rows=true then (7,rows) else if 200<=rows.length then (4,rows)
 else (0,rows.take (atL key (qcg key r) rows)++r::rows.drop (atL key (qcg key r) rows))
structure Ok (cs:List Col) (key:Nat) (rows:List (List V)):Prop where
 kl:key<cs.length
 kn:∀ c,cs[key]? = some c->c.null=false
 fit:∀ r∈rows,qdi cs r=0
 ord:rows.Pairwise fun a b=>cmpV (qcg key a) (qcg key b)<0
theorem qic {cs:List Col} {r:List V} (h:qdi cs r=0):r.length=cs.length:=by
 unfold qdi at h
 by_cases e:r.length=cs.length
 ·exact e
 ·rw [if_pos e] at h;cases h
theorem qnl:∀ (cs:List Col) (r:List V) (i:Nat) (v:V) (c:Col),qdt cs r=0->r[i]? = some v->cs[i]? = some c->vchk v=0/\(v.k=0->c.null=true)/\(v.k≠0->v.k=c.kind)
 | [],r,i,v,c,_,_,h=>by cases h
 | c::cs,[],i,v,d,_,h,_=>by cases h
 | c::cs,v::r,i,u,d,h,hv,hc=>by
  rw [qdt] at h
  by_cases h1:vchk v≠0
  ·rw [if_pos h1] at h;exact absurd h h1
  rw [if_neg h1] at h
  by_cases h2:v.k=0/\c.null=false
  ·rw [if_pos h2] at h;cases h
  rw [if_neg h2] at h
  by_cases h3:v.k≠0/\v.k≠c.kind
  ·rw [if_pos h3] at h;cases h
  rw [if_neg h3] at h
  cases i with
  | zero =>
   injection hv with hv
   injection hc with hc
   subst hv hc
   refine ⟨Decidable.not_not.1 h1,fun e=>?_,fun e=>?_⟩
   ·cases hn:c.null with
    | true=>rfl
    | false=>exact absurd ⟨e,hn⟩ h2
   ·exact Decidable.not_not.1 fun e2=>h3 ⟨e,e2⟩
  | succ i=>exact qnl cs r i u d h hv hc
theorem fits_at {cs:List Col} {r:List V} {i:Nat} {v:V} (h:qdi cs r=0) (hv:r[i]? = some v):∃ c,cs[i]? = some c/\vchk v=0/\(v.k=0->c.null=true)/\(v.k≠0->v.k=c.kind):=by
 have hl:=qic h
 have hi:=(List.getElem?_eq_some_iff.1 hv).1
 refine ⟨_,List.getElem?_eq_getElem (by omega),?_⟩
 unfold qdi at h
 rw [if_neg (by omega)] at h
 exact qnl cs r i v _ h hv (List.getElem?_eq_getElem (by omega))
theorem qpj {cs:List Col} {r:List V} {i:Nat} {v:V} {c:Col} (hv:r[i]? = some v) (hc:cs[i]? = some c) :
  qdt (cs.drop i) (r.drop i)=if vchk v≠0 then vchk v else if v.k=0/\c.null=false then 13 else if v.k≠0/\v.k≠c.kind then 3 else qdt (cs.drop (i+1)) (r.drop (i+1)):=by
 obtain ⟨h1,e1⟩:=List.getElem?_eq_some_iff.1 hv
 obtain ⟨h2,e2⟩:=List.getElem?_eq_some_iff.1 hc
 rw [List.drop_eq_getElem_cons h1,List.drop_eq_getElem_cons h2,e1,e2,qdt]
theorem qqe {cs:List Col} {r:List V} {i:Nat} (h:r.length<=i):qdt (cs.drop i) (r.drop i)=0:=by
 rw [List.drop_of_length_le h]
 cases cs.drop i <;> rfl
theorem qle {key:Nat} {r:List V} {v:V} (h:r[key]? = some v):qcg key r=v:=by
 unfold qcg;rw [List.getD_eq_getElem?_getD,h];rfl
theorem lt_at {key:Nat} {k:V}:∀ {rows:List (List V)} {i:Nat} {r:List V},i<atL key k rows->rows[i]? = some r->qca key k r=true
 | [],i,r,_,h=>by cases h
 | x::rs,i,r,hi,h=>by
  unfold atL at hi
  rw [List.takeWhile_cons] at hi
  by_cases hx:qca key k x=true
  ·rw [if_pos hx] at hi
   cases i with
   | zero=>injection h with h;subst h;exact hx
   | succ i=>exact lt_at (rows:=rs) (by unfold atL;simpa using hi) h
  ·rw [if_neg hx] at hi;exact absurd hi (by simp)
theorem qlz {key:Nat} {k:V}:∀ {rows:List (List V)} {r:List V},rows[atL key k rows]? = some r->qca key k r=false
 | [],r,h=>by cases h
 | x::rs,r,h=>by
  unfold atL at h
  rw [List.takeWhile_cons] at h
  by_cases hx:qca key k x=true
  ·rw [if_pos hx] at h
   exact qlz (rows:=rs) (by unfold atL;simpa using h)
  ·rw [if_neg hx] at h
   injection h with h
   subst h
   simpa using hx
theorem at_le (key:Nat) (k:V) (rows:List (List V)):atL key k rows<=rows.length:=by
 unfold atL
 exact (List.takeWhile_sublist _).length_le
theorem qnv {a b c:V} (h:cmpV a b<0) (k:cmpV b c<0):cmpV a c<0:=(cmpV_hang a b c).2.1 h (by omega)
theorem ge_at {key:Nat} {k:V} {rows:List (List V)} (ho:rows.Pairwise fun a b=>cmpV (qcg key a) (qcg key b)<0) {i:Nat} {r:List V} (hi:atL key k rows<=i) (h:rows[i]? = some r):qca key k r=false:=by
 have hlt:=(List.getElem?_eq_some_iff.1 h).1
 have h0:rows[atL key k rows]? = some (rows[atL key k rows]'(by omega)):=List.getElem?_eq_getElem (by omega)
 have hn:=qlz h0
 by_cases e:atL key k rows=i
 ·subst e
  exact qlz h
 ·have hp:=List.pairwise_iff_getElem.1 ho (atL key k rows) i (by omega) hlt (by omega)
  have he:rows[i]=r:=by
   rw [List.getElem?_eq_getElem hlt] at h
   injection h
  rw [he] at hp
  cases hb:qca key k r with
  | false=>rfl
  | true =>
   unfold qca at hb hn
   simp only [decide_eq_true_eq,decide_eq_false_iff_not] at hb hn
   exact absurd (qnv hp hb) hn
theorem at_unique {key:Nat} {k:V} {rows:List (List V)} {n:Nat} (hn:n<=rows.length) (h1:∀ i r,i<n->rows[i]? = some r->qca key k r=true) (h2:∀ r,rows[n]? = some r->qca key k r=false):atL key k rows=n:=by
 have hle:=at_le key k rows
 rcases Nat.lt_trichotomy (atL key k rows) n with h|h|h
 ·have h0:rows[atL key k rows]? = some (rows[atL key k rows]'(by omega)):=List.getElem?_eq_getElem (by omega)
  have:=qlz h0
  rw [h1 _ _ h h0] at this
  cases this
 ·exact h
 ·have h0:rows[n]? = some (rows[n]'(by omega)):=List.getElem?_eq_getElem (by omega)
  have:=lt_at h h0
  rw [h2 _ h0] at this
  cases this
theorem qlp {key:Nat} {k:V} {rows:List (List V)} (ho:rows.Pairwise fun a b=>cmpV (qcg key a) (qcg key b)<0) {i j:Nat} {r r':List V} (hij:i<=j) (h:rows[i]? = some r) (h':rows[j]? = some r') (hb:qca key k r'=true):qca key k r=true:=by
 rcases Nat.lt_or_ge i (atL key k rows) with hi|hi
 ·exact lt_at hi h
 ·rw [ge_at ho (Nat.le_trans hi hij) h'] at hb;cases hb
theorem key_chk {cs:List Col} {key:Nat} {r:List V} (hk:key<cs.length) (h:qdi cs r=0):∃ v,r[key]? = some v/\qcg key r=v/\vchk v=0:=by
 have hl:=qic h
 have e:r[key]? = some (r[key]'(by omega)):=List.getElem?_eq_getElem (by omega)
 obtain ⟨c,_,h1,_⟩:=fits_at h e
 exact ⟨_,e,qle e,h1⟩
end Go.Proofs.YtdjbpcnhnkemiaaGreat.tb
namespace Go.Proofs.YtdjbpcnhnkemiaaGreat.tb
open Go.ChangeShapes Go.WideShapes Go.ChangeAt Go.RowKit Go.Proofs.YtdjbpcnhnkemiaaGreat.lib Go.Proofs.YtdjbpcnhnkemiaaGreat.val
def encV (v:V):List Value:=[.int .i64 v.k,.int .i64 v.n,.string v.s]
def encC (c:Col):List Value:=[.string c.name,.int .i64 c.kind,.bool c.null]
def qht (l:List V):List Value:=qal encV l
def qhn (l:List Col):List Value:=qal encC l
theorem kV (v:V):(encV v).length=3:=rfl
theorem kC (v:Col):(encC v).length=3:=rfl
theorem lenV (l:List V):(qht l).length=l.length * 3:=qgx encV 3 kV l
theorem lenC (l:List Col):(qhn l).length=l.length * 3:=qgx encC 3 kC l
theorem oneV (l:List V):∀ u∈qht l,u.oneCell'=true:=qjt encV (p:=fun u=>u.oneCell'=true) (fun x u hu=>by
 simp [encV] at hu
 rcases hu with rfl|rfl|rfl <;> rfl) l
theorem oneC (l:List Col):∀ u∈qhn l,u.oneCell'=true:=qjt encC (p:=fun u=>u.oneCell'=true) (fun x u hu=>by
 simp [encC] at hu
 rcases hu with rfl|rfl|rfl <;> rfl) l
def Vs (w:World) (lo:Nat) (A:Option Addr) (n c:Nat) (l:List V):Prop:=Row w lo A n c (qht l)/\l.length=n
def Cs (w:World) (lo:Nat) (A:Option Addr) (n c:Nat) (l:List Col):Prop:=Row w lo A n c (qhn l)/\l.length=n
theorem Vs.ext {w w':World} {lo n c:Nat} {A:Option Addr} {l:List V} (h:Vs w lo A n c l) (hb:Below w.heap.size w w'):Vs w' lo A n c l:=⟨h.1.ext hb,h.2⟩
theorem Vs.base {w:World} {lo lo' n c:Nat} {A:Option Addr} {l:List V} (h:Vs w lo A n c l) (hb:lo'<=lo):Vs w lo' A n c l:=⟨h.1.base hb,h.2⟩
theorem Vs.at_ {w:World} {lo n c b off:Nat} {l:List V} (h:Vs w lo (some ⟨b,off,none⟩) n c l) {i:Nat} {v:V} (hi:l[i]? = some v) :
  w.cell? ⟨b,off+i * 3,none⟩=some (.int .i64 v.k)/\w.cell? ⟨b,off+i * 3+1,none⟩=some (.int .i64 v.n)/\w.cell? ⟨b,off+i * 3+2,none⟩=some (.string v.s) :=
 ⟨h.1.at_ (qdg encV 3 kV l i v 0 _ hi rfl),h.1.at_ (qdg encV 3 kV l i v 1 _ hi rfl),h.1.at_ (qdg encV 3 kV l i v 2 _ hi rfl)⟩
theorem Vs.of_own {w:World} {base:Nat} {t:TypeId} {n:Nat} {A:Option Addr} {c:Nat} {l:List V} (h:w.ownsRow base t 3 (.slice A n c) n (qht l)):Vs w base A n c l :=
 ⟨Row.of_own h,by have:=h.1;rw [lenV] at this;omega⟩
def OwnV (l:List V) (n:Nat) (w:World) (r:Ending) (w':World):Prop:=∃ A c,r=.returned (.slice A n c)/\w'.ownsRow w.heap.size 70 3 (.slice A n c) n (qht l)/\Below w.heap.size w w'
theorem cloneV (l:List V) (lo:Nat) (A:Option Addr) (n c:Nat) (w:World) (hn:n<=100000) (hr:Vs w lo A n c l) :
  Calls Tryz.prog 109 #[.slice A n c] w (OwnV l n w):=by
 obtain ⟨hr,hl⟩:=hr
 have heq:=fun W=>Lib.run_eql_slice_nil (P:=Tryz.prog) W 71 70 A n c 0 0 Tryz.underlying71
 have HL:=zh hl
 clear hl
 cases A with
 | none =>
  have hr2:n=0/\c=0:=by
   rcases hr with h|⟨_,h,_⟩|⟨_,_,h,_⟩
   ·exact ⟨h.2.1,h.2.2.1⟩
   ·cases h
   ·cases h
  obtain ⟨rfl,rfl⟩:=hr2
  have hln:l=[]:=List.length_eq_zero_iff.1 HL.out
  subst hln
  go_enter Tryz.func109,Tryz.ntmps109
  go_wp2
  go_ret
  exact ⟨none,0,rfl,World.ownsRow_nil _ _ _ _,zb _ _⟩
 | some ad =>
  obtain ⟨i0,hi,hz0,hz1,hz2⟩:=ip Tryz.prog 70 (.agg #[.int .i64 0,.int .i64 0,.string ⟨#[]⟩]) 3 32
  have HC:=zh hr
  clear hr
  go_enter Tryz.func109,Tryz.ntmps109
  go_wp2_with (at_builtin;refine wpList_append_own _ rfl (.tmp 5) (.tmp 6) 71 rfl w.heap.size 70 i0 _ 3 32 Tryz.underlying71 hi hz0 hz1 hz2 rfl (by decide) _ _ _ rfl (World.ownsRow_made w #[] 0 (zl _) (Nat.zero_le _) rfl) ad n c (qht l) rfl ?c0 ?c1 ?c2 ?c3 ?c4 ?c5 ?_)
  case c0=>rw [lenV,HL.out]
  case c1=>exact (HC.out.ext ((zb _ _).alloc (zl _) _)).src'
  case c2=>exact oneV l
  case c3=>unfold maxLen;omega
  case c4=>omega
  case c5=>simp
  intro v' w3 hown3 hgrow3 _
  obtain ⟨A',c',rfl⟩:=qan hown3
  go_wp2
  go_ret
  exact ⟨A',c',by simp,by simpa using hown3,((zb _ _).alloc (zl _) _).grown hgrow3 (by simp) (fun k hk=>by simp [Value.ownBlock] at hk;omega)⟩
theorem Cs.ext {w w':World} {lo n c:Nat} {A:Option Addr} {l:List Col} (h:Cs w lo A n c l) (hb:Below w.heap.size w w'):Cs w' lo A n c l:=⟨h.1.ext hb,h.2⟩
theorem Cs.base {w:World} {lo lo' n c:Nat} {A:Option Addr} {l:List Col} (h:Cs w lo A n c l) (hb:lo'<=lo):Cs w lo' A n c l:=⟨h.1.base hb,h.2⟩
theorem Cs.at_ {w:World} {lo n c b off:Nat} {l:List Col} (h:Cs w lo (some ⟨b,off,none⟩) n c l) {i:Nat} {v:Col} (hi:l[i]? = some v) :
  w.cell? ⟨b,off+i * 3,none⟩=some (.string v.name)/\w.cell? ⟨b,off+i * 3+1,none⟩=some (.int .i64 v.kind)/\w.cell? ⟨b,off+i * 3+2,none⟩=some (.bool v.null) :=
 ⟨h.1.at_ (qdg encC 3 kC l i v 0 _ hi rfl),h.1.at_ (qdg encC 3 kC l i v 1 _ hi rfl),h.1.at_ (qdg encC 3 kC l i v 2 _ hi rfl)⟩
theorem Cs.of_own {w:World} {base:Nat} {t:TypeId} {n:Nat} {A:Option Addr} {c:Nat} {l:List Col} (h:w.ownsRow base t 3 (.slice A n c) n (qhn l)):Cs w base A n c l :=
 ⟨Row.of_own h,by have:=h.1;rw [lenC] at this;omega⟩
def OwnC (l:List Col) (n:Nat) (w:World) (r:Ending) (w':World):Prop:=∃ A c,r=.returned (.slice A n c)/\w'.ownsRow w.heap.size 63 3 (.slice A n c) n (qhn l)/\Below w.heap.size w w'
theorem cloneC (l:List Col) (lo:Nat) (A:Option Addr) (n c:Nat) (w:World) (hn:n<=100000) (hr:Cs w lo A n c l) :
  Calls Tryz.prog 142 #[.slice A n c] w (OwnC l n w):=by
 obtain ⟨hr,hl⟩:=hr
 have heq:=fun W=>Lib.run_eql_slice_nil (P:=Tryz.prog) W 64 63 A n c 0 0 Tryz.underlying64
 have HL:=zh hl
 clear hl
 cases A with
 | none =>
  have hr2:n=0/\c=0:=by
   rcases hr with h|⟨_,h,_⟩|⟨_,_,h,_⟩
   ·exact ⟨h.2.1,h.2.2.1⟩
   ·cases h
   ·cases h
  obtain ⟨rfl,rfl⟩:=hr2
  have hln:l=[]:=List.length_eq_zero_iff.1 HL.out
  subst hln
  go_enter Tryz.func142,Tryz.ntmps142
  go_wp2
  go_ret
  exact ⟨none,0,rfl,World.ownsRow_nil _ _ _ _,zb _ _⟩
 | some ad =>
  obtain ⟨i0,hi,hz0,hz1,hz2⟩:=ip Tryz.prog 63 (.agg #[.string ⟨#[]⟩,.int .i64 0,.bool false]) 3 32
  have HC:=zh hr
  clear hr
  go_enter Tryz.func142,Tryz.ntmps142
  go_wp2_with (at_builtin;refine wpList_append_own _ rfl (.tmp 5) (.tmp 6) 64 rfl w.heap.size 63 i0 _ 3 32 Tryz.underlying64 hi hz0 hz1 hz2 rfl (by decide) _ _ _ rfl (World.ownsRow_made w #[] 0 (zl _) (Nat.zero_le _) rfl) ad n c (qhn l) rfl ?c0 ?c1 ?c2 ?c3 ?c4 ?c5 ?_)
  case c0=>rw [lenC,HL.out]
  case c1=>exact (HC.out.ext ((zb _ _).alloc (zl _) _)).src'
  case c2=>exact oneC l
  case c3=>unfold maxLen;omega
  case c4=>omega
  case c5=>simp
  intro v' w3 hown3 hgrow3 _
  obtain ⟨A',c',rfl⟩:=qan hown3
  go_wp2
  go_ret
  exact ⟨A',c',by simp,by simpa using hown3,((zb _ _).alloc (zl _) _).grown hgrow3 (by simp) (fun k hk=>by simp [Value.ownBlock] at hk;omega)⟩
def Hdr (w:World) (lo:Nat) (h:Value) (r:List V):Prop:=∃ A c,h=.slice A r.length c/\Vs w lo A r.length c r
def Hs (w:World) (lo:Nat) (hs:List Value) (rows:List (List V)):Prop:=hs.length=rows.length/\∀ (i:Nat) h r,hs[i]? = some h->rows[i]? = some r->Hdr w lo h r
def Rs (w:World) (lo:Nat) (A:Option Addr) (n c:Nat) (rows:List (List V)):Prop:=∃ hs,Row w lo A n c hs/\Hs w lo hs rows/\rows.length=n
theorem Hdr.ext {w w':World} {lo:Nat} {h:Value} {r:List V} (k:Hdr w lo h r) (hb:Below w.heap.size w w'):Hdr w' lo h r:=by
 obtain ⟨A,c,e,hv⟩:=k
 exact ⟨A,c,e,hv.ext hb⟩
theorem Hdr.base {w:World} {lo lo':Nat} {h:Value} {r:List V} (k:Hdr w lo h r) (hb:lo'<=lo):Hdr w lo' h r:=by
 obtain ⟨A,c,e,hv⟩:=k
 exact ⟨A,c,e,hv.base hb⟩
theorem Hs.ext {w w':World} {lo:Nat} {hs:List Value} {rows:List (List V)} (k:Hs w lo hs rows) (hb:Below w.heap.size w w'):Hs w' lo hs rows:=⟨k.1,fun i h r h1 h2=>(k.2 i h r h1 h2).ext hb⟩
theorem Hs.base {w:World} {lo lo':Nat} {hs:List Value} {rows:List (List V)} (k:Hs w lo hs rows) (hb:lo'<=lo):Hs w lo' hs rows:=⟨k.1,fun i h r h1 h2=>(k.2 i h r h1 h2).base hb⟩
theorem Hs.nil (w:World) (lo:Nat):Hs w lo [] []:=⟨rfl,fun i h r h1 _=>by cases h1⟩
theorem Hs.append {w:World} {lo:Nat} {hs hs':List Value} {rows rows':List (List V)} (k:Hs w lo hs rows) (k':Hs w lo hs' rows'):Hs w lo (hs++hs') (rows++rows'):=by
 refine ⟨by rw [List.length_append,List.length_append,k.1,k'.1],fun i h r h1 h2=>?_⟩
 rcases Nat.lt_or_ge i hs.length with hi|hi
 ·rw [List.getElem?_append_left hi] at h1
  rw [List.getElem?_append_left (by rw [<-k.1];exact hi)] at h2
  exact k.2 i h r h1 h2
 ·rw [List.getElem?_append_right hi] at h1
  rw [List.getElem?_append_right (by rw [<-k.1];exact hi),<-k.1] at h2
  exact k'.2 _ h r h1 h2
theorem Hs.one {w:World} {lo:Nat} {h:Value} {r:List V} (k:Hdr w lo h r):Hs w lo [h] [r]:=⟨rfl,fun i h' r' h1 h2=>by
 cases i with
 | zero=>injection h1 with h1;injection h2 with h2;subst h1 h2;exact k
 | succ i=>simp at h1⟩
theorem Hs.take {w:World} {lo:Nat} {hs:List Value} {rows:List (List V)} (k:Hs w lo hs rows) (n:Nat):Hs w lo (hs.take n) (rows.take n):=by
 refine ⟨by rw [List.length_take,List.length_take,k.1],fun i h r h1 h2=>?_⟩
 rw [List.getElem?_take] at h1 h2
 split at h1
 ·rename_i hi
  rw [if_pos hi] at h2
  exact k.2 i h r h1 h2
 ·cases h1
theorem Hs.drop {w:World} {lo:Nat} {hs:List Value} {rows:List (List V)} (k:Hs w lo hs rows) (n:Nat):Hs w lo (hs.drop n) (rows.drop n):=by
 refine ⟨by rw [List.length_drop,List.length_drop,k.1],fun i h r h1 h2=>?_⟩
 rw [List.getElem?_drop] at h1 h2
 exact k.2 _ h r h1 h2
theorem Hs.at_ {w:World} {lo:Nat} {hs:List Value} {rows:List (List V)} (k:Hs w lo hs rows) {i:Nat} {r:List V} (hr:rows[i]? = some r):∃ A c,hs[i]? = some (.slice A r.length c)/\Vs w lo A r.length c r:=by
 have hi:=(List.getElem?_eq_some_iff.1 hr).1
 have e:hs[i]? = some (hs[i]'(by rw [k.1];exact hi)):=List.getElem?_eq_getElem _
 obtain ⟨A,c,e2,hv⟩:=k.2 i _ r e hr
 exact ⟨A,c,by rw [e,e2],hv⟩
theorem Hs.one_ {w:World} {lo:Nat} {hs:List Value} {rows:List (List V)} (k:Hs w lo hs rows):∀ u∈hs,u.oneCell'=true:=by
 intro u hu
 obtain ⟨i,hi,e⟩:=List.getElem_of_mem hu
 have hi':i<rows.length:=by rw [<-k.1];exact hi
 obtain ⟨A,c,e2,_⟩:=k.2 i u _ (by rw [List.getElem?_eq_getElem hi,e]) (List.getElem?_eq_getElem hi')
 rw [e2];rfl
theorem Rs.ext {w w':World} {lo n c:Nat} {A:Option Addr} {rows:List (List V)} (h:Rs w lo A n c rows) (hb:Below w.heap.size w w'):Rs w' lo A n c rows:=by
 obtain ⟨hs,h1,h2,h3⟩:=h
 exact ⟨hs,h1.ext hb,h2.ext hb,h3⟩
theorem Rs.base {w:World} {lo lo' n c:Nat} {A:Option Addr} {rows:List (List V)} (h:Rs w lo A n c rows) (hb:lo'<=lo):Rs w lo' A n c rows:=by
 obtain ⟨hs,h1,h2,h3⟩:=h
 exact ⟨hs,h1.base hb,h2.base hb,h3⟩
theorem Rs.nil (w:World) (lo:Nat):Rs w lo none 0 0 []:=⟨[],Row.nil w lo,Hs.nil w lo,rfl⟩
def Fine (A:Option Addr):Prop:=A=none\/∃ b off,A=some ⟨b,off,none⟩
def tabA (S:Sch) (A:Option Addr) (n c:Nat) (A':Option Addr) (n' c':Nat):Array Value:=#[.string S.name,.slice A n c,.int .i64 S.key,.bool S.only,.slice A' n' c']
def schA (S:Sch) (A:Option Addr) (n c:Nat):Array Value:=#[.string S.name,.slice A n c,.int .i64 S.key,.bool S.only]
def TabR (w:World) (lo:Nat) (v:Value) (S:Sch) (rows:List (List V)):Prop:=∃ A n c A' n' c',v=.agg (tabA S A n c A' n' c')/\Cs w lo A n c S.cols/\Rs w lo A' n' c' rows/\Fine A'
theorem TabR.base {w:World} {lo lo':Nat} {v:Value} {S:Sch} {rows:List (List V)} (h:TabR w lo v S rows) (hb:lo'<=lo):TabR w lo' v S rows:=by
 obtain ⟨A,n,c,A',n',c',e,h1,h2,h3⟩:=h
 exact ⟨A,n,c,A',n',c',e,h1.base hb,h2.base hb,h3⟩
theorem five {w:World} {g:Nat} {t:TypeId} {x0 x1 x2 x3 x4:Value} (h:Blk w g t #[x0,x1,x2,x3,x4]) {w':World} (hb:Below w.heap.size w w') :
  w'.cell? ⟨g,0,none⟩=some x0/\w'.cell? ⟨g,1,none⟩=some x1/\w'.cell? ⟨g,2,none⟩=some x2/\w'.cell? ⟨g,3,none⟩=some x3/\w'.cell? ⟨g,4,none⟩=some x4 :=
 ⟨(h.ext hb).cell 0,(h.ext hb).cell 1,(h.ext hb).cell 2,(h.ext hb).cell 3,(h.ext hb).cell 4⟩
theorem four {w:World} {g:Nat} {t:TypeId} {x0 x1 x2 x3:Value} (h:Blk w g t #[x0,x1,x2,x3]) {w':World} (hb:Below w.heap.size w w') :
  w'.cell? ⟨g,0,none⟩=some x0/\w'.cell? ⟨g,1,none⟩=some x1/\w'.cell? ⟨g,2,none⟩=some x2/\w'.cell? ⟨g,3,none⟩=some x3 :=
 ⟨(h.ext hb).cell 0,(h.ext hb).cell 1,(h.ext hb).cell 2,(h.ext hb).cell 3⟩
theorem key_ (S:Sch) (A:Option Addr) (n c:Nat) (A':Option Addr) (n' c':Nat) (r:List V) (lo:Nat) (Ar:Option Addr) (m cr:Nat) (v:V) (w:World) (hr:Vs w lo Ar m cr r) (hv:r[S.key]? = some v) (hm:m<=100000) :
  Calls Tryz.prog 108 #[.agg (tabA S A n c A' n' c'),.slice Ar m cr] w fun e w'=>e=.returned (.agg #[.int .i64 v.k,.int .i64 v.n,.string v.s])/\Below w.heap.size w w':=by
 have hlt:S.key<m:=by have:=(List.getElem?_eq_some_iff.1 hv).1;rw [hr.2] at this;exact this
 obtain ⟨b,o,rfl,_,_,hb⟩:=hr.1.some_ (by omega)
 obtain ⟨nm,cols,key,only⟩:=S
 simp only [tabA] at hlt hv ⊢
 go_enter Tryz.func108,Tryz.ntmps108
 go_upto_region 1 with fail
 obtain ⟨W,hW_,hbW,B1,B2⟩:=al2 w 245 70 #[.string nm,.slice A n c,.int .i64 key,.bool only,.slice A' n' c'] #[.int .i64 0,.int .i64 0,.string ⟨#[]⟩]
 rw [<-hW_]
 clear hW_
 have q1:=five B1 (zb _ _)
 have q2:=B2.three (zb _ _)
 have f2:=B2.free3
 have q:=(hr.ext hbW).at_ hv
 have hd1:decide ((key:Int)<0)=false:=by simp
 have hd2:decide ((m:Int)<=(key:Int))=false:=by simp;omega
 have hkm:(key:Int)<(m:Int):=by omega
 go_wp2
 obtain ⟨w3,hw3,B3,hlow,hgr⟩:=B2.set3 (.int .i64 v.k) (.int .i64 v.n) (.string v.s)
 rw [<-hw3]
 have q3:=B3.three (zb _ _)
 exact bodyPost_ret (v:=.agg #[.int .i64 v.k,.int .i64 v.n,.string v.s]) (by simp [results,Tryz.results108,go_sem,q3];try rfl) rfl ⟨rfl,zt hbW (hlow w.heap.size (Nat.le_succ _))⟩
theorem findc_ (S:Sch) (A:Option Addr) (n c:Nat) (A':Option Addr) (n' c':Nat) (g:Nat) (k:V) (r:List V) (lo:Nat) (Ar:Option Addr) (m cr:Nat) (v:V) (w:World) (hg:Blk w g 245 (tabA S A n c A' n' c')) (hr:Vs w lo Ar m cr r) (hv:r[S.key]? = some v) (hm:m<=100000) :
  Calls Tryz.prog 181 #[.slice Ar m cr,.agg #[.int .i64 k.k,.int .i64 k.n,.string k.s],.pointer (some ⟨g,0,none⟩)] w fun e w'=>e=.returned (.int .i64 (cmpV v k))/\Below w.heap.size w w':=by
 obtain ⟨kk,kn,ks⟩:=k
 simp only
 have hg5:Blk w g 245 #[.string S.name,.slice A n c,.int .i64 S.key,.bool S.only,.slice A' n' c']:=hg
 go_enter Tryz.func181,Tryz.ntmps181
 go_upto_region 1 with fail
 obtain ⟨W,hW_,hbW,B1⟩:=al1 w 70 #[.int .i64 kk,.int .i64 kn,.string ks]
 rw [<-hW_]
 clear hW_
 have D:=fun w' (h:Below W.heap.size W.drew w')=>five hg5 (zt hbW.drew (zm h hbW.size))
 have D2:=fun w' (h:Below W.heap.size W.drew w')=>B1.three (zt (zb _ _).drew h)
 refine r1 [(0,true),(1,true),(3,true),(2,false),(4,false),(5,true)] ?_
 repeat ((first|refine pT ?_|refine pF ?_);try go_frame)
 refine pD fun K hK=>?_;go_simp
 refine (key_ S A n c A' n' c' r lo Ar m cr v _ (hr.ext hbW.drew) hv hm).mono ?_
 rintro e w1 ⟨rfl,hb1⟩
 refine hK.out _ _ hb1 ?_
 clear hK K
 refine pD fun K hK=>?_;go_simp
 refine (compare v.k v.n v.s kk kn ks _).mono ?_
 rintro e w2 ⟨rfl,hb2⟩
 have h2:=zt hb1 (zm hb2 hb1.size)
 refine hK.out _ _ h2 ?_
 clear hK K
 repeat ((first|refine pT ?_|refine pF ?_);try go_frame)
 refine qad ?_
 clear D D2
 go_wp2
 go_ret
 exact ⟨rfl,zt hbW.drew (zm h2 hbW.size)⟩
def Keyed (key:Nat) (rows:List (List V)):Prop:=∀ (i:Nat) r,rows[i]? = some r->r.length<=100000/\∃ v,r[key]? = some v
theorem Ok.keyed {cs:List Col} {key:Nat} {rows:List (List V)} (h:Ok cs key rows) (hc:cs.length<=100000):Keyed key rows:=fun i r hr=>by
 have hf:=h.fit r (List.mem_of_getElem? hr)
 have hl:=qic hf
 obtain ⟨v,hv,_⟩:=key_chk h.kl hf
 exact ⟨by omega,v,hv⟩
theorem bsf_ (S:Sch) (Ag:Option Addr) (ng cg:Nat) (Ag':Option Addr) (ng' cg':Nat) (g:Nat) (k:V) (rows:List (List V)) (lo:Nat) (A:Option Addr) (n c:Nat) (w:World) (hg:Blk w g 245 (tabA S Ag ng cg Ag' ng' cg')) (hr:Rs w lo A n c rows)
  (hk:Keyed S.key rows) (ho:rows.Pairwise fun a b=>cmpV (qcg S.key a) (qcg S.key b)<0) (hn:n<=100000) :
  Calls Tryz.prog 180 #[.slice A n c,.agg #[.int .i64 k.k,.int .i64 k.n,.string k.s],.func (.func 181) #[] #[.pointer (some ⟨g,0,none⟩)]] w
   fun e w'=>e=.returned (.tuple #[.int .i64 (atL S.key k rows:Nat),.bool (isL S.key k rows)])/\Below w.heap.size w w':=by
 have hrn:rows.length=n:=by obtain ⟨_,_,_,h⟩:=hr;exact h
 have HN:=zh hrn
 have HK:=zh hk
 have HO:=zh ho
 clear hrn hk ho
 obtain ⟨kk,kn,ks⟩:=k
 simp only
 obtain ⟨k,hkd⟩:∃ k:V,k=⟨kk,kn,ks⟩:=⟨_,rfl⟩
 rw [<-hkd]
 have HKD:=zh hkd
 clear hkd
 have FC:=fun (r:List V) lo Ar m cr v w hg hr hv hm=>findc_ S Ag ng cg Ag' ng' cg' g ⟨kk,kn,ks⟩ r lo Ar m cr v w hg hr hv hm
 simp only at FC
 rw [<-HKD.out] at FC
 have FC:=zh FC
 go_enter Tryz.func180,Tryz.ntmps180
 go_upto_region 1 with fail
 obtain ⟨W,hW_,hbW,B1⟩:=al1 w 70 #[.int .i64 kk,.int .i64 kn,.string ks]
 rw [<-hW_]
 clear hW_
 go_wp2_with fail
 go_loopw [9,10] (fun i j wr=>∃ l h:Nat,i=.int .i64 l/\j=.int .i64 h/\l<=h/\h<=n/\Below W.heap.size W wr/\Hid ((∀ t r,t<l->rows[t]? = some r->qca S.key k r=true)/\(∀ t r,h<=t->rows[t]? = some r->qca S.key k r=false))) (fun i j _=>(intOf j).toNat - (intOf i).toNat)
 case atStart=>exact ⟨0,n,rfl,rfl,Nat.zero_le _,zl _,zb _ _,zh ⟨fun t r h=>absurd h (by omega),fun t r h hr=>by have:=(List.getElem?_eq_some_iff.1 hr).1;have:=HN.out;omega⟩⟩
 case round =>
  obtain ⟨l,h,rfl,rfl,hlh,hhn,hbw,HI⟩:=hrel
  rcases Nat.lt_or_ge l h with hlt|hge
  ·have hd:decide ((l:Int)<(h:Int))=true:=by simp;omega
   obtain ⟨m,hmi,hm1,hm2⟩:∃ m:Nat,Hid (((l:Int)+(h:Int)) / 2=(m:Int))/\l<=m/\m<h:=⟨(l+h) / 2,zh (by omega),by omega,by omega⟩
   have hmn:(m:Int)<(n:Int):=by omega
   obtain ⟨r,hx⟩:∃ r,rows[m]? = some r:=⟨_,List.getElem?_eq_getElem (by rw [HN.out];omega)⟩
   obtain ⟨hrl,v,hv⟩:=HK.out m r hx
   obtain ⟨hs,R,H,_⟩:=hr
   obtain ⟨b,off,rfl,_,_,hb⟩:=R.some_ (by omega)
   obtain ⟨Ar,cr,he,hvs⟩:=H.at_ hx
   have HX:=zh hx
   have HV:=zh hv
   have HKV:=zh (qle hv)
   clear hx hv
   go_wp2_with fail
   rw [hmi.out]
   have hw1:=zt hbW (zm hbw hbW.size)
   have D:=fun w' (h:Below wr.heap.size wr.drew w')=>(R.ext (zt hw1.drew (zm h hw1.size))).at_ he
   have D2:=fun w' (h:Below wr.heap.size wr.drew w')=>B1.three (zt hbw.drew (zm h hbw.size))
   obtain ⟨p,hp⟩:∃ p,decide (cmpV v k<0)=p:=⟨_,rfl⟩
   refine r1 [(0,true),(1,true),(2,true),(3,true),(4,true),(5,true),(6,false),(7,true)] ?_
   repeat ((first|refine pT ?_|refine pF ?_);try go_frame)
   refine pD fun K hK=>?_;go_simp
   refine (FC.out r lo Ar r.length cr v _ (hg.ext hw1.drew) (hvs.ext hw1.drew) HV.out hrl).mono ?_
   rintro e w1 ⟨rfl,hb1⟩
   refine hK.out _ _ hb1 ?_
   clear hK K
   repeat ((first|refine pT ?_|refine pF ?_);try go_frame)
   refine qad ?_
   clear D D2
   have hbw2:=zt hbw.drew (zm hb1 hbw.size)
   have HP:=zh hp
   clear hp
   cases p with
   | true =>
    go_wp2
    go_roundw
    case rel =>
     refine ⟨m+1,h,by go_num,rfl,by omega,hhn,hbw2,zh ⟨fun t r' ht hr'=>?_,HI.out.2⟩⟩
     exact qlp HO.out (by omega) hr' HX.out (by unfold qca;rw [HKV.out];exact HP.out)
    case measure=>simp [intOf];omega
   | false =>
    go_wp2
    go_roundw
    case rel =>
     refine ⟨l,m,rfl,rfl,by omega,by omega,hbw2,zh ⟨HI.out.1,fun t r' ht hr'=>?_⟩⟩
     cases hb:qca S.key k r' with
     | false=>rfl
     | true =>
      have:=qlp HO.out ht HX.out hr' hb
      unfold qca at this
      rw [HKV.out,HP.out] at this
      cases this
    case measure=>simp [intOf];omega
  ·have hd:decide ((l:Int)<(h:Int))=false:=by simp;omega
   have hlh':l=h:=by omega
   subst hlh'
   have hat:atL S.key k rows=l:=at_unique (by rw [HN.out];exact hhn) (fun i r hi hr=>HI.out.1 i r hi hr) (fun r hr=>HI.out.2 l r (zl _) hr)
   have HA:=zh hat
   clear hat
   have hw1:=zt hbW (zm hbw hbW.size)
   rcases Nat.lt_or_ge l n with hln|hln
   ·have hd2:decide ((l:Int)<(n:Int))=true:=by simp;omega
    have hd3:decide (l<n)=true:=by simp;omega
    have hmn:(l:Int)<(n:Int):=by omega
    obtain ⟨r,hx⟩:∃ r,rows[l]? = some r:=⟨_,List.getElem?_eq_getElem (by rw [HN.out];omega)⟩
    obtain ⟨hrl,v,hv⟩:=HK.out l r hx
    obtain ⟨hs,R,H,_⟩:=hr
    obtain ⟨b,off,rfl,_,_,hb⟩:=R.some_ (by omega)
    obtain ⟨Ar,cr,he,hvs⟩:=H.at_ hx
    have his:isL S.key k rows=(cmpV v k == 0):=by
     unfold isL
     rw [HA.out,hx]
     simp only [qle hv]
     cases h:(cmpV v k == 0) <;> simpa using h
    have HIS:=zh his
    have HV:=zh hv
    clear hx hv his
    go_wp2_with fail
    have D:=fun w' (h:Below wr.heap.size wr.drew w')=>(R.ext (zt hw1.drew (zm h hw1.size))).at_ he
    have D2:=fun w' (h:Below wr.heap.size wr.drew w')=>B1.three (zt hbw.drew (zm h hbw.size))
    obtain ⟨p,hp⟩:∃ p,(cmpV v k == 0)=p:=⟨_,rfl⟩
    refine r1 [(0,true),(1,true),(2,true),(3,true),(4,true),(5,true),(6,true),(7,true),(8,true),(9,true),(10,true),(11,false),(12,true),(13,true),(14,true),(15,true)] ?_
    repeat ((first|refine pT ?_|refine pF ?_);try go_frame)
    refine pD fun K hK=>?_;go_simp
    refine (FC.out r lo Ar r.length cr v _ (hg.ext hw1.drew) (hvs.ext hw1.drew) HV.out hrl).mono ?_
    rintro e w1 ⟨rfl,hb1⟩
    refine hK.out _ _ hb1 ?_
    clear hK K
    repeat ((first|refine pT ?_|refine pF ?_);try go_frame)
    refine qad ?_
    clear D D2
    have HP:=zh hp
    clear hp
    go_wp2
    exact bodyPost_ret (v:=.tuple #[.int .i64 (l:Int),.bool p]) (by simp [results,Tryz.results180,go_sem];try rfl) rfl ⟨by rw [HA.out,HIS.out,HP.out],zt hw1.drew (zm hb1 hw1.size)⟩
   ·have hd2:decide ((l:Int)<(n:Int))=false:=by simp;omega
    have hd3:decide (l<n)=false:=by simp;omega
    have his:isL S.key k rows=false:=by
     unfold isL
     rw [HA.out,List.getElem?_eq_none (by rw [HN.out];exact hln)]
    have HIS:=zh his
    clear his
    go_wp2_with fail
    refine r1 [(0,true),(1,true),(2,true),(3,true),(4,true),(5,true),(6,true),(7,true),(8,true),(9,true),(10,true),(11,true),(12,true),(13,true),(14,true),(15,true)] ?_
    repeat ((first|refine pT ?_|refine pF ?_);try go_frame)
    refine qad ?_
    go_wp2
    exact bodyPost_ret (v:=.tuple #[.int .i64 (l:Int),.bool false]) (by simp [results,Tryz.results180,go_sem];try rfl) rfl ⟨by rw [HA.out,HIS.out],hw1.drew⟩
theorem find_ (S:Sch) (k:V) (rows:List (List V)) (lo:Nat) (A:Option Addr) (n c:Nat) (A':Option Addr) (n' c':Nat) (w:World) (hr:Rs w lo A' n' c' rows)
  (hk:Keyed S.key rows) (ho:rows.Pairwise fun a b=>cmpV (qcg S.key a) (qcg S.key b)<0) (hn:n'<=100000) :
  Calls Tryz.prog 107 #[.agg (tabA S A n c A' n' c'),.agg #[.int .i64 k.k,.int .i64 k.n,.string k.s]] w
   fun e w'=>e=.returned (.tuple #[.int .i64 (atL S.key k rows:Nat),.bool (isL S.key k rows)])/\Below w.heap.size w w':=by
 have HB:=zh (fun g w' hg hr'=>bsf_ S A n c A' n' c' g k rows lo A' n' c' w' hg hr' hk ho hn)
 obtain ⟨p,hp⟩:∃ p,atL S.key k rows=p:=⟨_,rfl⟩
 obtain ⟨q,hq⟩:∃ q,isL S.key k rows=q:=⟨_,rfl⟩
 rw [hp,hq] at HB ⊢
 clear hp hq hk ho
 obtain ⟨kk,kn,ks⟩:=k
 simp only at HB ⊢
 simp only [tabA] at HB ⊢
 go_enter Tryz.func107,Tryz.ntmps107
 go_upto_region 1 with fail
 obtain ⟨W,hW_,hbW,B1,B2⟩:=al2 w 245 70 #[.string S.name,.slice A n c,.int .i64 S.key,.bool S.only,.slice A' n' c'] #[.int .i64 kk,.int .i64 kn,.string ks]
 rw [<-hW_]
 clear hW_
 have q1:=B1.cell 4
 have q2:=B2.three (zb _ _)
 go_wp2_with fail
 refine (HB.out _ _ B1 (hr.ext hbW)).mono ?_
 rintro e w1 ⟨rfl,hb1⟩
 clear q1 q2
 go_wp2
 exact bodyPost_ret (v:=.tuple #[.int .i64 (p:Int),.bool q]) (by simp [results,Tryz.results107,go_sem];try rfl) rfl ⟨rfl,zt hbW (zm hb1 hbW.size)⟩
theorem Hs.far {w:World} {lo:Nat} {hs:List Value} {rows:List (List V)} (k:Hs w lo hs rows) {p:Addr} (u:Value) (hp:p.block<lo):Hs (w.setCell p u) lo hs rows:=⟨k.1,fun i h r h1 h2=>by
 obtain ⟨A,c,e,hv⟩:=k.2 i h r h1 h2
 exact ⟨A,c,e,hv.1.farL u hp,hv.2⟩⟩
def OwnR (rows:List (List V)) (n:Nat) (w:World) (r:Ending) (w':World):Prop:=∃ A c,r=.returned (.slice A n c)/\Rs w' w.heap.size A n c rows/\Fine A/\Below w.heap.size w w'
def nilS:Value:=.slice none 0 0
theorem made_nil (n:Nat):(madeCells #[Value.slice none 0 0] n).toList=List.replicate n nilS:=by
 apply List.ext_getElem?
 intro i
 simp only [madeCells,Array.toList_map,Array.toList_range,List.getElem?_map,List.getElem?_replicate]
 by_cases h:i<n
 ·rw [if_pos h,List.getElem?_range h]
  simp [nilS,Nat.mod_one]
 ·rw [if_neg h,List.getElem?_eq_none (by simpa using h)];rfl
theorem fill_set (hs:List Value) (n k:Nat) (u:Value) (hk:hs.length=k) (hn:k<n):(hs++List.replicate (n - k) nilS).set k u=(hs++[u])++List.replicate (n - (k+1)) nilS:=by
 have e:n - k=n - (k+1)+1:=by omega
 rw [List.set_append_right _ _ (by omega),hk,Nat.sub_self,e,List.replicate_succ,List.set_cons_zero,List.append_assoc];rfl
theorem own_ (rows:List (List V)) (lo:Nat) (A:Option Addr) (n c:Nat) (w:World) (hr:Rs w lo A n c rows) (hn:n<=100000) (hl:∀ r∈rows,r.length<=100000) :
  Calls Tryz.prog 178 #[.slice A n c] w (OwnR rows n w):=by
 obtain ⟨hs0,R,H,hN⟩:=hr
 have HN:=zh hN
 have HL:=zh hl
 clear hN hl
 obtain ⟨i0,hi,hz0,hz1,hz2⟩:=ip Tryz.prog 71 (.slice none 0 0) 1 24
 go_enter Tryz.func178,Tryz.ntmps178
 go_wp2_with (at_make;refine wpList_make_full _ rfl _ _ 116 rfl w.heap.size 71 i0 (.slice none 0 0) 1 Tryz.underlying116 hi hz0 hz1 _ _ _ _ n rfl rfl rfl rfl ?b2 ?b3 (zl _) ?_)
 case b2=>rw [hz2];omega
 case b3=>unfold maxLen;omega
 intro w3 hown3 hgrow3
 rw [made_nil] at hown3
 have hb3:Below w.heap.size w w3:=(zb _ _).grown hgrow3 (zl _) (fun k h=>by cases h)
 have hs3:=(hown3.lt w.heap.size rfl).2
 have HO3:=zh hown3
 clear hown3 hgrow3
 go_wp2
 go_loopw [11] (fun i wr=>∃ (k:Nat) (hs:List Value),k<=n/\i=.int .i64 k/\wr.ownsRow w.heap.size 71 1 (.slice (some ⟨w.heap.size,0,none⟩) n n) n (hs++List.replicate (n - k) nilS)/\Hs wr (w.heap.size+1) hs (rows.take k)/\Below w.heap.size w wr) (fun i _=>n - (intOf i).toNat)
 case atStart=>exact ⟨0,[],by omega,rfl,HO3.out,Hs.nil _ _,hb3⟩
 case round =>
  obtain ⟨k,hs,hk,rfl,hown,hH,hbw⟩:=hrel
  have hsl:hs.length=k:=by rw [hH.1,List.length_take,HN.out];omega
  rcases Nat.lt_or_ge k n with hlt|hge
  ·have hd:decide ((k:Int)<(n:Int))=true:=by simp;omega
   have hkn:(k:Int)<(n:Int):=by omega
   obtain ⟨r,hx⟩:∃ r,rows[k]? = some r:=⟨_,List.getElem?_eq_getElem (by rw [HN.out];exact hlt)⟩
   obtain ⟨b,off,rfl,_,_,hb⟩:=R.some_ (by omega)
   obtain ⟨Ar,cr,he,hvs⟩:=H.at_ hx
   have hrl:=HL.out r (List.mem_of_getElem? hx)
   have q:=(R.ext hbw).at_ he
   have HO:=zh hown
   have HX:=zh hx
   clear hown hx
   have hsz:=(HO.out.lt w.heap.size rfl).2
   go_wp2_with fail
   clear q
   refine (cloneV r lo Ar r.length cr _ hrl (hvs.ext hbw)).mono ?_
   rintro e w4 ⟨A2,c2,rfl,hown2,hb4⟩
   have hown4:=qay HO.out hb4
   have f:=hown4.frozenAt k
   have q:=hown4.cellAt k (by omega)
   have hst:=hown4.stored k (.slice A2 r.length c2)
   rw [fill_set hs n k _ hsl hlt] at hst
   have hV2:Vs w4 (w.heap.size+1) A2 r.length c2 r:=(Vs.of_own hown2).base (by omega)
   have hH4:=((hH.ext hb4).append (Hs.one ⟨A2,c2,rfl,hV2⟩)).far (p:=⟨w.heap.size,k,none⟩) (.slice A2 r.length c2) (Nat.lt_succ_self _)
   have HS:=zh hst
   have hbw4:=zt hbw (zm hb4 hbw.size)
   clear hown2 hown4 hst
   have hq:∃ x,w4.cell? ⟨w.heap.size,k,none⟩=some x:=by
    rw [q]
    exact ⟨_,List.getElem?_eq_getElem (by rw [List.length_append,List.length_replicate];omega)⟩
   clear q
   obtain ⟨x,q⟩:=hq
   go_wp2
   clear q f
   go_roundw
   case rel =>
    refine ⟨k+1,hs++[.slice A2 r.length c2],by omega,by go_num,HS.out.1,?_,hbw4.grown HS.out.2 hbw4.size (fun j hj=>by injection hj with hj;omega)⟩
    rw [List.take_add_one,HX.out]
    exact hH4
   case measure=>simp [intOf];omega
  ·have hd:decide ((k:Int)<(n:Int))=false:=by simp;omega
   obtain rfl:k=n:=by omega
   rw [Nat.sub_self,List.replicate_zero,List.append_nil] at hown
   rw [List.take_of_length_le (by rw [HN.out];exact zl _)] at hH
   have hRow:=Row.of_own hown
   go_wp2
   go_ret
   exact ⟨_,_,rfl,⟨hs,hRow,hH.base (Nat.le_succ _),HN.out⟩,.inr ⟨_,_,rfl⟩,hbw⟩
end Go.Proofs.YtdjbpcnhnkemiaaGreat.tb
