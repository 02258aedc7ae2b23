/- Laws of its own that the claim's proof needs; no condition beyond those that each states. -/
import Derived.Test.YtgbcdkmjcokclaaGreatZ3
import Derived.Test.YtgbcdkmjcokclaaGreatZ2
import Derived.Test.YtgbcdkmjcokclaaGreatZ1
import Derived.Lib.Overlaps
import Derived.OwnWalk
set_option linter.unusedVariables false
set_option maxRecDepth 1000000
set_option maxHeartbeats 16000000
namespace Go.Proofs.YtgbcdkmjcokclaaGreat.tp
open Go.ChangeShapes Go.WideShapes Go.ChangeAt Go.RowKit Go.Proofs.YtgbcdkmjcokclaaGreat.lib
def flagN (b:Bool):Nat:=if b then 1 else 0
def colB (c:ColD):List UInt8:=le 2 c.1.size++c.1.data.toList++[b8 c.2.1.toNat]++[b8 (flagN c.2.2)]
def schB (s:Sch):List UInt8:=le 2 s.1.size++s.1.data.toList++[b8 s.2.1.length]++s.2.1.flatMap colB++le 8 s.2.2.1.toNat++[b8 (flagN s.2.2.2)]
structure OkS (s:Sch):Prop where
 nm:s.1.size≤100
 few:s.2.1.length≤100
 col:∀ c∈s.2.1,c.1.size≤100∧0≤c.2.1∧c.2.1<1000
 k0:0≤s.2.2.1
 k1:s.2.2.1<1000
theorem colB_len (c:ColD) (h:c.1.size≤100):(colB c).length≤104:=by
 simp [colB,le]
 omega
theorem cols_len:∀ (l:List ColD),(∀ c∈l,c.1.size≤100)→(l.flatMap colB).length≤l.length * 104
 | [],_=>by simp
 | v::l,h=>by
  have ih:=cols_len l (fun v hv=>h v (List.mem_cons_of_mem _ hv))
  have:=colB_len v (h v (List.mem_cons_self ..))
  rw [List.flatMap_cons,List.length_append,List.length_cons]
  omega
theorem schB_len (s:Sch) (h:OkS s):(schB s).length≤11000:=by
 have h1:=cols_len s.2.1 (fun c hc=>(h.col c hc).1)
 have h2:=h.few
 have h3:=h.nm
 simp only [schB,List.length_append,le_len,List.length_singleton,Array.length_toList]
 have h4:s.1.data.size=s.1.size:=rfl
 omega
theorem sflag_ (b:Bool) (w:World):Calls Tryz.prog 172 #[.bool b] w fun e w'=>e=.returned (.int .i64 (flagN b:Nat))∧w=w':=by
 cases b
 ·go_enter Tryz.func172,Tryz.ntmps172
  go_wp2
  go_ret
  exact ⟨rfl,rfl⟩
 ·go_enter Tryz.func172,Tryz.ntmps172
  go_wp2
  go_ret
  exact ⟨rfl,rfl⟩
theorem Ob.byN {w:World} {B c m:Nat} {A:Option Addr} {l:List UInt8} (h:Ob w B A c l) (hl:l.length=m):By w A m c l:=hl ▸ h.by
theorem schbytes_ {w:World} {F:Blocks} {cs:List Value} {x:Sch} (h:eSch.rel w F cs x) (hok:OkS x):Calls Tryz.prog 97 #[.agg cs.toArray] w (OwnB (schB x) w):=by
 obtain ⟨A,n,c,rfl,hc⟩:=eSch_inv h
 have HS:=Lib.hid hc
 have HL:=Lib.hid hc.len
 have HOK:=Lib.hid hok
 obtain ⟨nm,cols,key,only⟩:=x
 have hk0:=hok.k0
 have hk1:=hok.k1
 have hnb:n≤100:=by have:=hc.len;have:=hok.few;omega
 obtain ⟨kN,rfl⟩:∃ q:Nat,key=(q:Int):=⟨key.toNat,by simp only at hk0;omega⟩
 simp only at hk0 hk1 ⊢
 clear h hc hok
 go_enter Tryz.func97,Tryz.ntmps97
 go_upto_region 1 with fail
 obtain ⟨W,hW_,hb1,BS⟩:=al1 w 53 #[.string nm,.slice A n c,.int .i64 (kN:Int),.bool only]
 rw [←hW_]
 clear hW_
 obtain ⟨gs,hgs⟩:∃ g,w.heap.size=g:=⟨_,rfl⟩
 have hwg:gs<W.heap.size:=by rw [←hgs];exact BS.lt
 rw [hgs] at BS ⊢
 have HWG:=Lib.hid hgs
 clear hgs
 have HBS:=Lib.hid BS
 have HW1:=Lib.hid hb1
 have D:=fun w' (h:Below W.heap.size W.drew w')=>four BS (Below.trans (Below.refl _ _).drew h)
 refine wp_region_oneS (S:=fun w'=>Below W.heap.size W.drew w') [(0,true),(1,true),(3,true),(4,true),(5,true),(2,false),(6,false),(7,true)] (by kernel_rfl) (by kernel_rfl) (by kernel_rfl) (by decide) (Below.refl _ _) ?_
 repeat ((with_reducible refine pG ?_);(first|refine pT ?_|refine pF ?_);try go_frame)
 have HT:=Lib.hid (text_ [] nm none 0 0 W.drew (By.nil _) (by omega) (by have:=HOK.out.nm;simp only at this;omega))
 refine pD fun K hK=>?_;go_simp
 refine HT.out.mono ?_
 rintro e w2 ⟨A2,c2,rfl,ho2,hb2⟩
 have HO2:=Lib.hid (show Ob w2 w.heap.size A2 c2 ([]++le 2 nm.size++nm.data.toList) from own_base ho2 (by have:=HW1.out.size;exact this))
 obtain ⟨m2,hm2⟩:∃ m,([]++le 2 nm.size++nm.data.toList).length=m:=⟨_,rfl⟩
 have HM2:=Lib.hid hm2
 rw [hm2]
 clear hm2
 refine hK.out _ _ hb2 ?_
 clear hK K HT ho2
 obtain ⟨L2,hL2⟩:∃ L,L=[]++le 2 nm.size++nm.data.toList:=⟨_,rfl⟩
 rw [←hL2] at HO2 HM2
 have HL2:=Lib.hid (show L2.length≤102∧L2=le 2 nm.size++nm.data.toList from ⟨by rw [hL2];have:=HOK.out.nm;simp only at this;have h4:nm.data.size=nm.size:=rfl;simp [le];omega,by rw [hL2];rfl⟩)
 clear hL2
 have HT:=Lib.hid (byte_ L2 n A2 m2 c2 w2 (HO2.out.byN HM2.out) (by have:=HL2.out.1;have:=HM2.out;omega) (by omega))
 refine pD fun K hK=>?_;go_simp
 refine HT.out.mono ?_
 rintro e w3 ⟨A3,c3,rfl,ho3,hb3⟩
 have hd3:=hb2.trans (Below.mono hb3 hb2.size)
 have hbw3:=hb1.trans (Below.mono ((Below.refl W.heap.size W).drew.trans hd3) hb1.size)
 have HO3:=Lib.hid (show Ob w3 w.heap.size A3 c3 (L2++[b8 n]) from own_base ho3 (by have:=HW1.out.size;have h5:W.heap.size≤w2.heap.size:=hb2.size;omega))
 obtain ⟨m3,hm3⟩:∃ m,(L2++[b8 n]).length=m:=⟨_,rfl⟩
 have HM3:=Lib.hid hm3
 rw [hm3]
 clear hm3
 refine hK.out _ _ hd3 ?_
 clear hK K HT ho3 HO2 D BS hb1 hb2 hb3
 repeat ((with_reducible refine pG ?_);(first|refine pT ?_|refine pF ?_);try go_frame)
 refine wpPerm_done ?_
 have HBS3:=Lib.hid (HBS.out.ext ((Below.refl W.heap.size W).drew.trans hd3))
 have HW3:=Lib.hid hbw3
 have hs3:W.heap.size≤w3.heap.size:=hd3.size
 clear hbw3 hd3 HBS HW1
 have qs:=four HBS3.out (Below.refl _ _)
 go_wp2_with fail
 clear qs
 go_loopw [3,16] (fun b i wr=>∃ (k:Nat) (A':Option Addr) (c' m:Nat),b=.slice A' m c'∧i=.int .i64 k∧k≤n∧Hid (m=(L2++[b8 n]++(cols.take k).flatMap colB).length∧Ob wr w.heap.size A' c' (L2++[b8 n]++(cols.take k).flatMap colB))∧Hid (Below w.heap.size w wr∧Blk wr gs 53 #[.string nm,.slice A n c,.int .i64 (kN:Int),.bool only])) (fun _ i _=>n - (intOf i).toNat)
 case atStart=>exact ⟨0,A3,c3,m3,rfl,rfl,Nat.zero_le _,Lib.hid ⟨by rw [←HM3.out];simp,by simpa using HO3.out⟩,Lib.hid ⟨HW3.out,HBS3.out⟩⟩
 case round =>
  clear HO3 HW3 HBS3
  obtain ⟨k,A',c',m,rfl,rfl,hk,HO,HW⟩:=hrel
  obtain ⟨L,hL⟩:∃ L,L=L2++[b8 n]++(cols.take k).flatMap colB:=⟨_,rfl⟩
  have HLL:=Lib.hid (show L.length≤11000 from by
   have h1:=cols_len (cols.take k) (fun v hv=>(HOK.out.col v (List.mem_of_mem_take hv)).1)
   have h2:(cols.take k).length≤100:=by rw [List.length_take];omega
   have h3:=HL2.out.1
   rw [hL,List.length_append,List.length_append,List.length_singleton]
   omega)
  rcases Nat.lt_or_ge k n with hlt|hge
  ·have hd:decide ((k:Int)<(n:Int))=true:=by simp;omega
   have hkn:(k:Int)<(n:Int):=by omega
   obtain ⟨v,hv⟩:∃ v,cols[k]? = some v:=⟨_,List.getElem?_eq_getElem (by have h:cols.length=n:=HL.out;omega)⟩
   have hvk:=HOK.out.col v (List.mem_of_getElem? hv)
   have HLK:=Lib.hid (show L2++[b8 n]++(cols.take (k+1)).flatMap colB=L++colB v from by rw [take_snoc hv,List.flatMap_append,hL];simp)
   obtain ⟨hm0,hO⟩:=HO.out
   rw [←hL] at hm0 hO
   subst hm0
   have HO:=Lib.hid hO
   obtain ⟨b0,off,rfl,_,_,_⟩:=HS.out.some_ (by omega)
   have hS:=HS.out.ext HW.out.1
   obtain ⟨cs,hcs,hcell⟩:=hS.at_ hv
   obtain ⟨cn,kd,nul⟩:=v
   obtain ⟨hsz,hk0',hk1'⟩:=hvk
   simp only at hsz hk0' hk1'
   obtain ⟨dN,rfl⟩:∃ q:Nat,kd=(q:Int):=⟨kd.toNat,by omega⟩
   obtain ⟨_,_,e1,e2,_,_,e3,e4,e5⟩:=hcs
   rw [e2,e3,e4,e5] at e1
   subst e1
   simp only [show eCol.k=3 from rfl] at hcell
   have q0:=hcell 0 _ rfl
   have q1:=hcell 1 _ rfl
   have q2:=hcell 2 _ rfl
   simp only [Nat.add_zero] at q0
   clear hcell hS hv hO hL e2 e3 e4 e5
   go_upto_region 5 with fail
   clear q0 q1 q2
   obtain ⟨W2,hW_,hb2,BV⟩:=al1 wr 50 #[.string cn,.int .i64 (dN:Int),.bool nul]
   rw [←hW_]
   clear hW_
   obtain ⟨gv,hgv⟩:∃ g,wr.heap.size=g:=⟨_,rfl⟩
   rw [hgv] at BV ⊢
   clear hgv
   have HW2:=Lib.hid (And.intro (HW.out.1.trans (Below.mono hb2 HW.out.1.size)) (HW.out.2.ext hb2))
   have HOx:=Lib.hid (HO.out.ext hb2)
   clear hb2 HW HO
   have D:=fun w' (h:Below W2.heap.size W2.drew w')=>BV.three (Below.trans (Below.refl _ _).drew h)
   refine wp_region_oneS (S:=fun w'=>Below W2.heap.size W2.drew w') [(0,true),(1,true),(2,true),(4,true),(5,true),(7,true),(8,true),(3,false),(6,false),(9,false),(10,false),(11,true)] (by kernel_rfl) (by kernel_rfl) (by kernel_rfl) (by decide) (Below.refl _ _) ?_
   repeat ((with_reducible refine pG ?_);(first|refine pT ?_|refine pF ?_);try go_frame)
   have HT:=Lib.hid (text_ L cn A' L.length c' W2.drew (HOx.out.ext (Below.refl _ _).drew).by (by have:=HLL.out;omega) (by omega))
   refine pD fun K hK=>?_;go_simp
   refine HT.out.mono ?_
   rintro e w4 ⟨A4,c4,rfl,ho4,hb4⟩
   have HO4:=Lib.hid (show Ob w4 w.heap.size A4 c4 (L++le 2 cn.size++cn.data.toList) from own_base ho4 HW2.out.1.size)
   obtain ⟨m4,hm4⟩:∃ m,(L++le 2 cn.size++cn.data.toList).length=m:=⟨_,rfl⟩
   have HM4:=Lib.hid hm4
   rw [hm4]
   clear hm4
   refine hK.out _ _ hb4 ?_
   clear hK K HT ho4
   have hcl:(L++le 2 cn.size++cn.data.toList).length≤12000:=by have h4:cn.data.size=cn.size:=rfl;have:=HLL.out;simp [le];omega
   have HT:=Lib.hid (byte_ (L++le 2 cn.size++cn.data.toList) dN A4 m4 c4 w4 (HO4.out.byN HM4.out) (by have:=HM4.out;omega) (by omega))
   refine pD fun K hK=>?_;go_simp
   refine HT.out.mono ?_
   rintro e w5 ⟨A5,c5,rfl,ho5,hb5⟩
   have hs45:w.heap.size≤w4.heap.size:=Nat.le_trans HW2.out.1.size hb4.size
   have HO5:=Lib.hid (show Ob w5 w.heap.size A5 c5 (L++le 2 cn.size++cn.data.toList++[b8 dN]) from own_base ho5 hs45)
   obtain ⟨m5,hm5⟩:∃ m,(L++le 2 cn.size++cn.data.toList++[b8 dN]).length=m:=⟨_,rfl⟩
   have HM5:=Lib.hid hm5
   rw [hm5]
   clear hm5
   have hd5:=hb4.trans (Below.mono hb5 hb4.size)
   refine hK.out _ _ hd5 ?_
   clear hK K HT ho5
   refine pD fun K hK=>?_;go_simp
   refine (sflag_ nul w5).mono ?_
   rintro e w' ⟨rfl,rfl⟩
   refine hK.out _ _ hd5 ?_
   clear hK K
   have HT:=Lib.hid (byte_ (L++le 2 cn.size++cn.data.toList++[b8 dN]) (flagN nul) A5 m5 c5 w5 (HO5.out.byN HM5.out) (by have:=HM5.out;rw [List.length_append,List.length_singleton] at this;omega) (by unfold flagN;split <;> omega))
   refine pD fun K hK=>?_;go_simp
   refine HT.out.mono ?_
   rintro e w6 ⟨A6,c6,rfl,ho6,hb6⟩
   have hs56:w.heap.size≤w5.heap.size:=Nat.le_trans hs45 hb5.size
   have HO6:=Lib.hid (show Ob w6 w.heap.size A6 c6 (L++le 2 cn.size++cn.data.toList++[b8 dN]++[b8 (flagN nul)]) from own_base ho6 hs56)
   obtain ⟨m6,hm6⟩:∃ m,(L++le 2 cn.size++cn.data.toList++[b8 dN]++[b8 (flagN nul)]).length=m:=⟨_,rfl⟩
   have HM6:=Lib.hid hm6
   rw [hm6]
   clear hm6
   have hd6:=hd5.trans (Below.mono hb6 hd5.size)
   refine hK.out _ _ hd6 ?_
   clear hK K HT ho6 D
   repeat ((with_reducible refine pG ?_);(first|refine pT ?_|refine pF ?_);try go_frame)
   refine wpPerm_done ?_
   have hbb:=(Below.refl W2.heap.size W2).drew.trans hd6
   have HW6:=Lib.hid (And.intro (HW2.out.1.trans (Below.mono hbb HW2.out.1.size)) (HW2.out.2.ext hbb))
   clear hb4 hb5 hb6 hd5 hd6 hbb HW2 HO4 HO5 HOx BV hcl
   go_wp2
   go_roundw
   case rel =>
    have e:L++colB (cn,(dN:Int),nul)=L++le 2 cn.size++cn.data.toList++[b8 dN]++[b8 (flagN nul)]:=by simp [colB]
    exact ⟨k+1,A6,c6,m6,rfl,by go_num,by omega,Lib.hid (by rw [HLK.out,e];exact ⟨HM6.out.symm,HO6.out⟩),HW6⟩
   case measure=>simp [intOf];omega
  ·obtain rfl:k=n:=by omega
   have hd:decide ((k:Int)<(k:Int))=false:=by simp
   obtain ⟨hm0,hO⟩:=HO.out
   rw [←hL] at hm0 hO
   subst hm0
   have HO:=Lib.hid hO
   have HLE:=Lib.hid hL
   clear hL hO
   go_wp2_with fail
   have D:=fun w' (h:Below wr.heap.size wr.drew w')=>four HW.out.2 (Below.trans (Below.refl _ _).drew h)
   refine wp_region_oneS (S:=fun w'=>Below wr.heap.size wr.drew w') [(0,true),(1,true),(2,true),(4,true),(5,true),(3,false),(6,false),(7,false),(8,true)] (by kernel_rfl) (by kernel_rfl) (by kernel_rfl) (by decide) (Below.refl _ _) ?_
   repeat ((with_reducible refine pG ?_);(first|refine pT ?_|refine pF ?_);try go_frame)
   have HT:=Lib.hid (int_ L kN A' L.length c' wr.drew (HO.out.ext (Below.refl _ _).drew).by (by have:=HLL.out;omega) (by omega))
   refine pD fun K hK=>?_;go_simp
   refine HT.out.mono ?_
   rintro e w4 ⟨A4,c4,rfl,ho4,hb4⟩
   have HO4:=Lib.hid (show Ob w4 w.heap.size A4 c4 (L++le 8 kN) from own_base ho4 HW.out.1.size)
   obtain ⟨m4,hm4⟩:∃ m,(L++le 8 kN).length=m:=⟨_,rfl⟩
   have HM4:=Lib.hid hm4
   rw [hm4]
   clear hm4
   refine hK.out _ _ hb4 ?_
   clear hK K HT ho4
   refine pD fun K hK=>?_;go_simp
   refine (sflag_ only w4).mono ?_
   rintro e w' ⟨rfl,rfl⟩
   refine hK.out _ _ hb4 ?_
   clear hK K
   have HT:=Lib.hid (byte_ (L++le 8 kN) (flagN only) A4 m4 c4 w4 (HO4.out.byN HM4.out) (by have:=HLL.out;have:=HM4.out;rw [List.length_append,le_len] at this;omega) (by unfold flagN;split <;> omega))
   refine pD fun K hK=>?_;go_simp
   refine HT.out.mono ?_
   rintro e w5 ⟨A5,c5,rfl,ho5,hb5⟩
   have hs45:w.heap.size≤w4.heap.size:=Nat.le_trans HW.out.1.size hb4.size
   have HO5:=Lib.hid (show Ob w5 w.heap.size A5 c5 (L++le 8 kN++[b8 (flagN only)]) from own_base ho5 hs45)
   obtain ⟨m5,hm5⟩:∃ m,(L++le 8 kN++[b8 (flagN only)]).length=m:=⟨_,rfl⟩
   have HM5:=Lib.hid hm5
   rw [hm5]
   clear hm5
   have hd5:=hb4.trans (Below.mono hb5 hb4.size)
   refine hK.out _ _ hd5 ?_
   clear hK K HT ho5 D
   repeat ((with_reducible refine pG ?_);(first|refine pT ?_|refine pF ?_);try go_frame)
   refine wpPerm_done ?_
   have hbb:=(Below.refl wr.heap.size wr).drew.trans hd5
   have HW6:=Lib.hid (HW.out.1.trans (Below.mono hbb HW.out.1.size))
   have hck:cols.length=k:=HL.out
   have HE:=Lib.hid (show schB (nm,cols,(kN:Int),only)=L++le 8 kN++[b8 (flagN only)] from by
    rw [HLE.out,←hck,List.take_length,HL2.out.2]
    simp [schB])
   clear hck hb4 hb5 hd5 hbb
   go_wp2
   go_ret
   rw [HE.out]
   exact ⟨A5,c5,by rw [HM5.out];rfl,HO5.out,HW6.out⟩
theorem leaf_ {w:World} {A:Option Addr} {n c:Nat} {l:List UInt8} (h:By w A n c l) (hn:n≤300000):Calls Tryz.prog 157 #[.slice A n c] w fun e w'=>e=.returned (.agg (cellsB (shaL (0::l))).toArray)∧Below w.heap.size w w':=by
 have HB:=Lib.hid h
 clear h
 have hz:=zero32
 go_enter Tryz.func157,Tryz.ntmps157
 go_upto_region 1 with fail
 have hb1:Below w.heap.size w (w.alloc (.cells (cellsB h0).toArray 32)):=(Below.refl _ _).alloc (Nat.le_refl _) _
 have BR:=Blk.new w 32 (cellsB h0).toArray
 generalize w.alloc (.cells (cellsB h0).toArray 32)=w1 at *
 obtain ⟨gr,hgr0⟩:∃ g,w.heap.size=g:=⟨_,rfl⟩
 have hgrw:w.heap.size≤gr:=by omega
 rw [hgr0] at BR ⊢
 clear hgr0
 go_wp2_with fail
 obtain ⟨W,hW_,hb2,B1,B2⟩:=al2 w1 5 91 #[.int .u8 0] #[.slice (some ⟨w1.heap.size,0,none⟩) 1 1,.slice A n c]
 rw [←hW_]
 clear hW_
 have hbw2:=hb1.trans (Below.mono hb2 hb1.size)
 have BR2:=BR.ext hb2
 have hps:=two_parts B2 (By.blk (l:=[0]) B1 rfl 1 1 rfl (Nat.le_refl _)) (HB.out.ext hbw2)
 have HS:=Lib.hid (sumOf_ W _ (0::l) _ 2 rfl B2.lt hps (by simp [sumN,HB.out.2];omega) (by simp [allC,cellsB]) (by simp [HB.out.2];omega) (by omega))
 clear hps B1 B2 hb2 hb1 BR
 refine HS.out.mono ?_
 rintro e w3 ⟨rfl,hb3⟩
 have BR3:=BR2.ext hb3
 have hbw3:=hbw2.trans (Below.mono hb3 hbw2.size)
 clear HS hb3 hbw2 BR2
 obtain ⟨H,hH⟩:∃ H,shaL (0::l)=H:=⟨_,rfl⟩
 have hHl:H.length=32:=by rw [←hH];exact shaL_len _
 have HH9:=Lib.hid hH
 rw [hH]
 clear hH
 have hsz9:=size32 H hHl
 have hth9:=Blk.there (o:=0) (n:=32) BR3 (by rw [lenB,h0_len];omega)
 obtain ⟨B9,hg9⟩:=Blk.lay (cellsB H) 0 BR3 (by rw [lenB,lenB,h0_len,hHl];omega)
 rw [laid_all _ _ (by rw [lenB,lenB,h0_len,hHl])] at B9
 have hbw9:=hbw3.grown hg9 hbw3.size (fun k hk=>by injection hk with hk;omega)
 go_wp2_with ((with_reducible show wpList _ _ _ (Oper.mk none (Op.store _ (Operand.tmp 2) _) _ _ _ _::_) _ _);(refine wpList_store_mid rfl 32 _ _ rfl gr 0 (cellsB H).toArray rfl rfl ?h1 ?h2 (all_oneCell_toArray (oneB _)) ?_))
 case h1=>exact (show (cellsB H).toArray.size=32 by simp [lenB,hHl]) ▸ hth9
 case h2=>exact (show (cellsB H).toArray.size=(cellsB H).length by simp) ▸ hsz9
 clear hth9 hg9 BR3
 generalize w3.setCells gr 0 (cellsB H)=w9 at *
 go_wp2
 exact bodyPost_ret (v:=.agg (cellsB H).toArray) (results_cell_row rfl _ _ gr _ _ (0,0) _ rfl B9 Tryz.underlying32 rfl (by rw [List.size_toArray];exact hsz9)) rfl ⟨by rw [HH9.out],hbw9⟩
theorem root1_ {w:World} {b off c:Nat} {h:List UInt8} (hl:h.length=32) (hc:w.rangeAt b off (cellsB h)) (hbl:b<w.heap.size) (hcc:1≤c):Calls Tryz.prog 88 #[.slice (some ⟨b,off,none⟩) 1 c] w fun e w'=>e=.returned (.agg (cellsB h).toArray)∧Below w.heap.size w w':=by
 have HC:=Lib.hid hc
 clear hc
 have hz:=zero32
 have hszh:=size32 h hl
 go_enter Tryz.func88,Tryz.ntmps88
 go_upto_region 1 with fail
 have hb1:Below w.heap.size w (w.alloc (.cells (cellsB h0).toArray 32)):=(Below.refl _ _).alloc (Nat.le_refl _) _
 have BR:=Blk.new w 32 (cellsB h0).toArray
 generalize w.alloc (.cells (cellsB h0).toArray 32)=w1 at *
 obtain ⟨gr,hgr0⟩:∃ g,w.heap.size=g:=⟨_,rfl⟩
 have hgrw:w.heap.size≤gr:=by omega
 rw [hgr0] at BR ⊢
 clear hgr0
 have hrg:w1.rangeAt b off (cellsB h):=fun j u hu=>(hb1.cell (p:=⟨b,off+j,none⟩) hbl).trans (HC.out j u hu)
 have HRG:=Lib.hid hrg
 clear hrg
 go_upto_region 5 with fail
 have hsz9:=size32 h hl
 have hth9:=Blk.there (o:=0) (n:=32) BR (by rw [lenB,h0_len];omega)
 obtain ⟨B9,hg9⟩:=Blk.lay (cellsB h) 0 BR (by rw [lenB,lenB,h0_len,hl];omega)
 rw [laid_all _ _ (by rw [lenB,lenB,h0_len,hl])] at B9
 have hbw9:=hb1.grown hg9 hb1.size (fun k hk=>by injection hk with hk;omega)
 go_wp2_with (first|((with_reducible show wpList _ _ _ (Oper.mk (some 13) _ _ _ _ _::_) _ _);(refine wpList_load_mid rfl 32 _ rfl b off rfl (cellsB h) _ HRG.out Tryz.underlying32 rfl hszh ?_)) |
  ((with_reducible show wpList _ _ _ (Oper.mk none (Op.store _ (Operand.tmp 2) _) _ _ _ _::_) _ _);(refine wpList_store_mid rfl 32 _ _ rfl gr 0 (cellsB h).toArray rfl rfl ?h1 ?h2 (all_oneCell_toArray (oneB _)) ?_)))
 case h1=>exact (show (cellsB h).toArray.size=32 by simp [lenB,hl]) ▸ hth9
 case h2=>exact (show (cellsB h).toArray.size=(cellsB h).length by simp) ▸ hsz9
 clear hth9 hg9 BR HRG
 generalize w1.setCells gr 0 (cellsB h)=w9 at *
 go_wp2
 exact bodyPost_ret (v:=.agg (cellsB h).toArray) (results_cell_row rfl _ _ gr _ _ (0,0) _ rfl B9 Tryz.underlying32 rfl (by rw [List.size_toArray];exact hsz9)) rfl ⟨rfl,hbw9⟩
theorem ints1_ {w:World} {g:Nat} {a:Nat} (hg:Blk w g 3 #[.int .i64 (a:Int)]) (ha:a<9223372036854775808):Calls Tryz.prog 129 #[.slice none 0 0,.slice (some ⟨g,0,none⟩) 1 1] w (OwnB (le 8 a) w):=by
 have HB1:=Lib.hid (int_ [] a none 0 0 w (By.nil _) (by omega) ha)
 have q0:=hg.cell 0
 go_enter Tryz.func129,Tryz.ntmps129
 go_wp2_with fail
 refine wp_loop_rounds 2 ?_
 rw [rounds_succ]
 go_wp2_with fail
 refine HB1.out.mono ?_
 rintro e w1 ⟨A1,c1,rfl,ho1,hb1⟩
 obtain ⟨m1,hm1⟩:∃ m,([]++le 8 a).length=m:=⟨_,rfl⟩
 have HM1:=Lib.hid hm1
 rw [hm1]
 have HO1:=Lib.hid (show Ob w1 w.heap.size A1 c1 ([]++le 8 a) from ho1)
 clear hm1 ho1 HB1 q0
 go_wp2_with fail
 rw [rounds_succ]
 go_wp2
 go_ret
 exact ⟨A1,c1,by rw [show le 8 a=[]++le 8 a from rfl,HM1.out];rfl,HO1.out,hb1⟩
theorem ints2_ {w:World} {g:Nat} {a b:Nat} (hg:Blk w g 3 #[.int .i64 (a:Int),.int .i64 (b:Int)]) (ha:a<9223372036854775808) (hb:b<9223372036854775808):Calls Tryz.prog 129 #[.slice none 0 0,.slice (some ⟨g,0,none⟩) 2 2] w (OwnB (le 8 a++le 8 b) w):=by
 have HB1:=Lib.hid (int_ [] a none 0 0 w (By.nil _) (by omega) ha)
 have q0:=hg.cell 0
 have q1:=hg.cell 1
 go_enter Tryz.func129,Tryz.ntmps129
 go_wp2_with fail
 refine wp_loop_rounds 3 ?_
 rw [rounds_succ]
 go_wp2_with fail
 refine HB1.out.mono ?_
 rintro e w1 ⟨A1,c1,rfl,ho1,hb1⟩
 obtain ⟨m1,hm1⟩:∃ m,([]++le 8 a).length=m:=⟨_,rfl⟩
 have HM1:=Lib.hid hm1
 rw [hm1]
 have HO1:=Lib.hid (show Ob w1 w.heap.size A1 c1 ([]++le 8 a) from ho1)
 clear hm1 ho1 HB1 q0 q1
 have hg1:=hg.ext hb1
 have q1:=hg1.cell 1
 have HB2:=Lib.hid (int_ ([]++le 8 a) b A1 m1 c1 w1 (HO1.out.byN HM1.out) (by rw [←HM1.out];simp [le]) hb)
 go_wp2_with fail
 rw [rounds_succ]
 go_wp2_with fail
 refine HB2.out.mono ?_
 rintro e w2 ⟨A2,c2,rfl,ho2,hb2⟩
 obtain ⟨m2,hm2⟩:∃ m,([]++le 8 a++le 8 b).length=m:=⟨_,rfl⟩
 have HM2:=Lib.hid hm2
 rw [hm2]
 have HO2:=Lib.hid (show Ob w2 w.heap.size A2 c2 ([]++le 8 a++le 8 b) from own_base ho2 hb1.size)
 have hbw2:=hb1.trans (Below.mono hb2 hb1.size)
 clear hm2 ho2 HB2 q1
 go_wp2_with fail
 rw [rounds_succ]
 go_wp2
 go_ret
 exact ⟨A2,c2,by rw [show le 8 a++le 8 b=[]++le 8 a++le 8 b from rfl,HM2.out];rfl,HO2.out,hbw2⟩
def txtB (s:List UInt8):List UInt8:=le 2 s.length++s
def rowT (tx seq:Nat) (c:Chg):List UInt8:=le 8 tx++le 8 seq++[b8 c.2.1.toNat]++txtB c.1.data.toList++txtB (rowB c.2.2)
def rowH (tx seq:Nat) (c:Chg):List UInt8:=shaL (0::rowT tx seq c)
structure OkC (c:Chg):Prop where
 nm:c.1.size≤100
 op0:0≤c.2.1
 op1:c.2.1<256
 row_:∀ v∈c.2.2,OkV v
 few:c.2.2.length≤1000
theorem rowB_len (r:RowD) (h:∀ v∈r,OkV v) (hn:r.length≤1000):(rowB r).length≤63001:=by
 have:=rows_len r h
 rw [rowB,List.length_append,List.length_singleton]
 omega
theorem rowT_len (tx seq:Nat) (c:Chg) (h:OkC c):(rowT tx seq c).length≤70000:=by
 have h1:=rowB_len c.2.2 h.row_ h.few
 have h2:=h.nm
 have h4:c.1.data.size=c.1.size:=rfl
 simp only [rowT,txtB,List.length_append,le_len,List.length_singleton,Array.length_toList]
 omega
theorem lrow_ {w:World} {F:Blocks} {cs:List Value} {x:Chg} {tx seq:Nat} (h:eChg.rel w F cs x) (hok:OkC x) (htx:tx<9223372036854775808) (hseq:seq<9223372036854775808) :
  Calls Tryz.prog 86 #[.int .i64 (tx:Int),.int .i64 (seq:Int),.agg cs.toArray] w fun e w'=>e=.returned (.agg (cellsB (rowH tx seq x)).toArray)∧Below w.heap.size w w':=by
 obtain ⟨A,n,c,rfl,hr⟩:=eChg_inv h
 have HR:=Lib.hid hr
 have HOK:=Lib.hid hok
 obtain ⟨nm,op,row⟩:=x
 have ho0:=hok.op0
 have ho1:=hok.op1
 have hnm:=hok.nm
 simp only at ho0 ho1 hnm hr ⊢
 have hnb:n≤1000:=by have h1:=hr.len;have h2:=hok.few;simp only at h2;omega
 obtain ⟨oN,rfl⟩:∃ q:Nat,op=(q:Int):=⟨op.toNat,by omega⟩
 have HRL:=Lib.hid (rowB_len row hok.row_ hok.few)
 have hz:=zero32
 clear h hr hok
 go_enter Tryz.func86,Tryz.ntmps86
 go_upto_region 1 with fail
 obtain ⟨W,hW_,hb1,BC,BR⟩:=al2 w 155 32 #[.string nm,.int .i64 (oN:Int),.slice A n c] ((cellsB h0).toArray)
 rw [←hW_]
 clear hW_
 obtain ⟨gc,hgc⟩:∃ g,w.heap.size=g:=⟨_,rfl⟩
 obtain ⟨gr,hgr⟩:∃ g,w.heap.size+1=g:=⟨_,rfl⟩
 have hgrw:w.heap.size≤gr:=by omega
 rw [hgr] at BR ⊢
 rw [hgc] at BC ⊢
 clear hgc hgr
 have HBC:=Lib.hid BC
 have HBR:=Lib.hid BR
 have HW1:=Lib.hid hb1
 have D:=fun w' (h:Below W.heap.size W.drew w')=>BC.three (Below.trans (Below.refl _ _).drew h)
 refine wp_region_oneS (S:=fun w'=>Below W.heap.size W.drew w') [(0,true),(1,true),(4,true),(5,true),(2,false),(3,false),(6,false),(7,true)] (by kernel_rfl) (by kernel_rfl) (by kernel_rfl) (by decide) (Below.refl _ _) ?_
 repeat ((with_reducible refine pG ?_);(first|refine pT ?_|refine pF ?_);try go_frame)
 refine pD fun K hK=>?_;go_simp
 obtain ⟨Wa,hWa⟩:∃ W',W'=(W.alloc (.cells #[.int .i64 (tx:Int),.int .i64 (seq:Int)] 3)).drew:=⟨_,rfl⟩
 have BI:Blk Wa W.heap.size 3 #[.int .i64 (tx:Int),.int .i64 (seq:Int)]:=by rw [hWa];exact Blk.new _ _ _
 have hda:Below W.heap.size W.drew Wa:=by rw [hWa];exact show Below W.heap.size W.drew (W.drew.alloc _) from (Below.refl W.heap.size W.drew).alloc (Nat.le_refl _) _
 rw [←hWa]
 clear hWa
 refine hK.out _ _ hda ?_
 clear hK K
 have HI:=Lib.hid (ints2_ BI htx hseq)
 refine pD fun K hK=>?_;go_simp
 refine HI.out.mono ?_
 rintro e w2 ⟨A2,c2,rfl,ho2,hb2⟩
 have HO2:=Lib.hid (show Ob w2 Wa.heap.size A2 c2 (le 8 tx++le 8 seq) from ho2)
 have hd2:=hda.trans (Below.mono hb2 hda.size)
 rw [show (le 8 tx++le 8 seq).length=16 by simp [le]]
 refine hK.out _ _ hd2 ?_
 clear hK K HI ho2 BI
 have HT:=byte_ (le 8 tx++le 8 seq) oN A2 16 c2 w2 (HO2.out.byN (by simp [le])) (by omega) (by omega)
 have HT:=Lib.hid HT
 refine pD fun K hK=>?_;go_simp
 refine HT.out.mono ?_
 rintro e w3 ⟨A3,c3,rfl,ho3,hb3⟩
 have HO3:=Lib.hid (show Ob w3 w2.heap.size A3 c3 (le 8 tx++le 8 seq++[b8 oN]) from ho3)
 have hd3:=hd2.trans (Below.mono hb3 hd2.size)
 rw [show (le 8 tx++le 8 seq++[b8 oN]).length=17 by simp [le]]
 refine hK.out _ _ hd3 ?_
 clear hK K HT ho3 HO2 D BC BR
 repeat ((with_reducible refine pG ?_);(first|refine pT ?_|refine pF ?_);try go_frame)
 refine wpPerm_done ?_
 have hbb:=(Below.refl W.heap.size W).drew.trans hd3
 have BC3:=HBC.out.ext hbb
 have HBR3:=Lib.hid (HBR.out.ext hbb)
 have hbw3:=hb1.trans (Below.mono hbb hb1.size)
 have HR3:=Lib.hid (HR.out.ext hbw3)
 have HW3:=Lib.hid hbw3
 clear hda hb2 hd2 hb3 hd3 hbb hb1 HBC HBR HW1 HR
 go_wp2_with fail
 have D:=fun w' (h:Below w3.heap.size w3.drew w')=>BC3.three (Below.trans (Below.refl _ _).drew h)
 refine wp_region_tail (S:=fun w'=>Below w3.heap.size w3.drew w') [(0,true),(1,true),(2,true),(4,true),(5,true),(3,false),(6,false),(7,false),(8,false),(9,false)] [(10,false)] (by kernel_rfl) (by kernel_rfl) (Below.refl _ _) ?_
 repeat ((with_reducible refine pG ?_);(first|refine pT ?_|refine pF ?_);try go_frame)
 obtain ⟨L3,hL3⟩:∃ L,L=le 8 tx++le 8 seq++[b8 oN]:=⟨_,rfl⟩
 have HL3:=Lib.hid hL3
 have hl3:L3.length=17:=by rw [hL3];simp [le]
 rw [←hL3] at HO3
 have HLL3:=Lib.hid hl3
 clear hL3 hl3
 have HT:=Lib.hid (text_ L3 nm A3 17 c3 w3.drew ((HO3.out.ext (Below.refl _ _).drew).byN HLL3.out) (by omega) (by omega))
 refine pD fun K hK=>?_;go_simp
 refine HT.out.mono ?_
 rintro e w4 ⟨A4,c4,rfl,ho4,hb4⟩
 obtain ⟨L4,hL4⟩:∃ L,L=L3++le 2 nm.size++nm.data.toList:=⟨_,rfl⟩
 rw [←hL4] at ho4 ⊢
 obtain ⟨m4,hm4⟩:∃ m,L4.length=m:=⟨_,rfl⟩
 have HL4:=Lib.hid (And.intro hL4 hm4)
 have HO4:=Lib.hid (show Ob w4 w3.heap.size A4 c4 L4 from ho4)
 rw [hm4]
 have hm4b:m4≤200:=by rw [←hm4,hL4];have h4:nm.data.size=nm.size:=rfl;have:=HLL3.out;simp [le];omega
 refine hK.out _ _ hb4 ?_
 clear hK K HT ho4 hL4 hm4
 have HB:=Lib.hid (rowbytes_ (HR3.out.ext ((Below.refl w3.heap.size w3).drew.trans hb4)) HOK.out.row_ (by omega))
 refine pD fun K hK=>?_;go_simp
 refine HB.out.mono ?_
 rintro e w5 ⟨A5,c5,rfl,ho5,hb5⟩
 obtain ⟨rb,hrb⟩:∃ l,rowB row=l:=⟨_,rfl⟩
 have HRB:=Lib.hid hrb
 have hrl:=HRL.out
 rw [hrb] at ho5 hrl ⊢
 obtain ⟨m5,hm5⟩:∃ m,rb.length=m:=⟨_,rfl⟩
 have HM5:=Lib.hid hm5
 rw [hm5] at hrl
 have HO5:=Lib.hid (show Ob w5 w4.heap.size A5 c5 rb from ho5)
 rw [hm5]
 have hd5:=hb4.trans (Below.mono hb5 hb4.size)
 refine hK.out _ _ hd5 ?_
 clear hK K HB ho5 hrb hm5
 have HCV:=conv_text (HO5.out.byN HM5.out)
 refine pD fun K hK=>?_;go_simp
 refine hK.out _ _ hd5 ?_
 clear hK K HCV
 have HO45:=Lib.hid (HO4.out.ext hb5)
 have HT:=text_ L4 ⟨rb.toArray⟩ A4 m4 c4 w5 (HO45.out.byN HL4.out.2) (by omega) (by show rb.toArray.size≤65535;rw [List.size_toArray];have:=HM5.out;omega)
 have HT:=Lib.hid HT
 refine pD fun K hK=>?_;go_simp
 refine HT.out.mono ?_
 rintro e w6 ⟨A6,c6,rfl,ho6,hb6⟩
 have hd6:=hd5.trans (Below.mono hb6 hd5.size)
 have e6:L4++le 2 (⟨rb.toArray⟩:ByteArray).size++(⟨rb.toArray⟩:ByteArray).data.toList=rowT tx seq (nm,(oN:Int),row):=by
  have h4:nm.data.size=nm.size:=rfl
  have h5:(⟨rb.toArray⟩:ByteArray).size=rb.length:=by show rb.toArray.size=_;rw [List.size_toArray]
  rw [h5,HL4.out.1,HL3.out,←HRB.out]
  simp [rowT,txtB,h4]
 rw [e6] at ho6 ⊢
 obtain ⟨LT,hLT⟩:∃ L,rowT tx seq (nm,(oN:Int),row)=L:=⟨_,rfl⟩
 have HLT:=Lib.hid hLT
 have hltl:=rowT_len tx seq (nm,(oN:Int),row) HOK.out
 rw [hLT] at ho6 hltl ⊢
 obtain ⟨m6,hm6⟩:∃ m,LT.length=m:=⟨_,rfl⟩
 have HM6:=Lib.hid hm6
 have HO6:=Lib.hid (show Ob w6 w5.heap.size A6 c6 LT from ho6)
 rw [hm6] at hltl ⊢
 refine hK.out _ _ hd6 ?_
 clear hK K HT ho6 e6 hLT hm6
 have HF:=Lib.hid (leaf_ (HO6.out.byN HM6.out) (by omega))
 refine pD fun K hK=>?_;go_simp
 refine HF.out.mono ?_
 rintro e w7 ⟨rfl,hb7⟩
 have hd7:=hd6.trans (Below.mono hb7 hd6.size)
 refine hK.out _ _ hd7 ?_
 clear hK K HF D
 refine wpTail_done ?_
 have hbb:=(Below.refl w3.heap.size w3).drew.trans hd7
 have BR7:=HBR3.out.ext hbb
 have hbw7:=HW3.out.trans (Below.mono hbb HW3.out.size)
 clear hb4 hb5 hb6 hb7 hd5 hd6 hd7 hbb
 obtain ⟨H,hH⟩:∃ H,shaL (0::LT)=H:=⟨_,rfl⟩
 have hHl:H.length=32:=by rw [←hH];exact shaL_len _
 have HH9:=Lib.hid hH
 rw [hH]
 clear hH
 have hsz9:=size32 H hHl
 have hth9:=Blk.there (o:=0) (n:=32) BR7 (by rw [lenB,h0_len];omega)
 obtain ⟨B9,hg9⟩:=Blk.lay (cellsB H) 0 BR7 (by rw [lenB,lenB,h0_len,hHl];omega)
 rw [laid_all _ _ (by rw [lenB,lenB,h0_len,hHl])] at B9
 have hbw9:=hbw7.grown hg9 hbw7.size (fun k hk=>by injection hk with hk;omega)
 refine wpPerm_do rfl (wanted_free rfl) (fun K hK=>?_)
 refine wp_store_wide 32 (.tmp 6) (.tmp 24) rfl rfl gr 0 (cellsB H) rfl rfl (by rw [lenB,hHl];exact hth9) hsz9 (oneB _) ?_
 refine hK.out _ _ trivial (wpPerm_done ?_)
 clear hK K hth9 hg9 BR7
 generalize w7.setCells gr 0 (cellsB H)=w9 at *
 go_wp2
 exact bodyPost_ret (v:=.agg (cellsB H).toArray) (results_cell_row rfl _ _ gr _ _ (0,0) _ rfl B9 Tryz.underlying32 rfl (by rw [List.size_toArray];exact hsz9)) rfl ⟨by rw [←HH9.out,←HLT.out];rfl,hbw9⟩
theorem townWork_ {w:World} {F:Blocks} {cs:List Value} {x:Wrk} (h:eWrk.rel w F cs x) (hok:okWrk x):Calls Tryz.prog 102 #[.agg cs.toArray] w (Owned eWrkT x w):=by
 obtain ⟨A,n,c,A2,n2,c2,rfl,h1,h2⟩:=eWrk_inv h
 have HS1:=Lib.hid h1
 have HS2:=Lib.hid h2
 have hn1:n2≤1000:=by have:=h2.len;have:=hok.2.2;omega
 have HOK:=Lib.hid hok
 clear h h1 h2 hok
 go_enter Tryz.func102,Tryz.ntmps102
 go_upto_region 1 with fail
 obtain ⟨W,hW_,hb1,B1,B2⟩:=al2 w 148 148 #[.int .i64 x.1,.slice A n c,.slice A2 n2 c2] #[.int .i64 0,.slice none 0 0,.slice none 0 0]
 rw [←hW_]
 clear hW_
 obtain ⟨g2,hg2⟩:∃ g,w.heap.size+1=g:=⟨_,rfl⟩
 have hg2n:w.heap.size<g2:=by omega
 rw [hg2] at B2 ⊢
 clear hg2
 have D:∀ w',Below W.heap.size W.drew w'→w'.cell? ⟨w.heap.size,1,none⟩=some (.slice A n c)∧w'.cell? ⟨w.heap.size,2,none⟩=some (.slice A2 n2 c2):=fun w' h=>⟨(B1.ext (Below.trans (Below.refl _ _).drew h)).cell 1,(B1.ext (Below.trans (Below.refl _ _).drew h)).cell 2⟩
 refine wp_region_tail (S:=fun w'=>Below W.heap.size W.drew w') [(0,true),(1,true),(3,true),(4,true),(2,false),(6,true),(5,false)] [(7,false),(8,true),(9,false)] (by kernel_rfl) (by kernel_rfl) (Below.refl _ _) ?_
 repeat ((with_reducible refine pG ?_);(first|refine pT ?_|refine pF ?_);try go_frame)
 have HF:=Lib.hid (teachChgT (HS1.out.ext hb1.drew) HOK.out.1 HOK.out.2.1)
 refine pD fun K hK=>?_;go_simp
 refine HF.out.mono ?_
 rintro e w3 ⟨A4,rfl,hown4,hb3⟩
 refine hK.out _ _ hb3 ?_
 clear hK K HF
 repeat ((with_reducible refine pG ?_);(first|refine pT ?_|refine pF ?_);try go_frame)
 have HF:=Lib.hid (copyM (HS2.out.ext (hb1.drew.trans (Below.mono hb3 hb1.size))) (by omega))
 refine pD fun K hK=>?_;go_simp
 refine HF.out.mono ?_
 rintro e w4 ⟨A5,c5,rfl,hown5,hb4⟩
 refine hK.out _ _ (hb3.trans (Below.mono hb4 hb3.size)) ?_
 clear hK K HF D
 have HC:=Lib.hid ((hown4.sl (G:=fun b=>W.heap.size≤b) (fun b h _=>h) (fun b h=>h.1)).ext hb4)
 have HD:=Lib.hid (hown5.sl (G:=fun b=>W.heap.size≤b) (fun b h _=>Nat.le_trans hb3.size h) (fun b h=>Nat.le_trans hb3.size h.1))
 have hbb:=(Below.refl _ _).drew.trans (Below.mono (hb3.trans (Below.mono hb4 hb3.size)) (Nat.le_refl W.heap.size))
 have B14:=B1.ext hbb
 have B24:=B2.ext hbb
 have hbw4:=hb1.trans (Below.mono hbb hb1.size)
 have hw1:g2<W.heap.size:=B2.lt
 have hWs:=hbb.size
 clear hown4 hown5 B1 B2 hb4 hb3 hb1 hbb HS1 HS2
 refine wpTail_done ?_
 have q:=B14.cell 1
 have f:=B14.frozen 1
 refine pD fun K hK=>?_;go_simp
 refine hK.out _ _ trivial ?_
 clear hK K
 have hk5:=Keep.set (F:=fun b=>W.heap.size≤b) w4 ⟨w.heap.size,1,none⟩ (.slice A4 (List.length x.2.1) (List.length x.2.1)) (show ¬W.heap.size≤w.heap.size by omega)
 have HC5:=Lib.hid (HC.out.keep hk5)
 have HD5:=Lib.hid (HD.out.keep hk5)
 have B15:=B14.set_ 1 (.slice A4 (List.length x.2.1) (List.length x.2.1))
 have B25:=Blk.keep (F:=fun b=>b≠w.heap.size) B24 (Keep.grown (set_grown w4 w.heap.size 1 (.slice A4 (List.length x.2.1) (List.length x.2.1))) (fun g hg h=>by injection hg with hg;omega)) (by omega)
 have hbw5:=hbw4.grown (set_grown w4 w.heap.size 1 (.slice A4 (List.length x.2.1) (List.length x.2.1))) (Nat.le_of_lt B14.lt) (fun k hk=>by injection hk with hk;omega)
 have hWs5:W.heap.size≤(w4.setCell ⟨w.heap.size,1,none⟩ (.slice A4 (List.length x.2.1) (List.length x.2.1))).heap.size:=Nat.le_trans hWs (set_grown w4 w.heap.size 1 (.slice A4 (List.length x.2.1) (List.length x.2.1))).size
 obtain ⟨W5,hW5⟩:∃ W,W=w4.setCell ⟨w.heap.size,1,none⟩ (.slice A4 (List.length x.2.1) (List.length x.2.1)):=⟨_,rfl⟩
 rw [←hW5] at HC5 HD5 B15 B25 hbw5 hWs5 ⊢
 clear hW5 hk5 B14 B24 HC HD hbw4 q f hWs
 have B14:=B15
 have B24:=B25
 have hWs:=hWs5
 have HC:=HC5
 have HD:=HD5
 have hbw4:=hbw5
 clear B15 B25 hbw5 hWs5 HC5 HD5
 repeat ((with_reducible refine pG ?_);(first|refine pT ?_|refine pF ?_);try go_frame)
 clear w4
 have q:=B14.cell 2
 have f:=B14.frozen 2
 refine pD fun K hK=>?_;go_simp
 refine hK.out _ _ trivial (wpPerm_done ?_)
 clear hK K
 have hk5:=Keep.set (F:=fun b=>W.heap.size≤b) W5 ⟨w.heap.size,2,none⟩ (.slice A5 (List.length x.2.2) c5) (show ¬W.heap.size≤w.heap.size by omega)
 have HC5:=Lib.hid (HC.out.keep hk5)
 have HD5:=Lib.hid (HD.out.keep hk5)
 have B15:=B14.set_ 2 (.slice A5 (List.length x.2.2) c5)
 have B25:=Blk.keep (F:=fun b=>b≠w.heap.size) B24 (Keep.grown (set_grown W5 w.heap.size 2 (.slice A5 (List.length x.2.2) c5)) (fun g hg h=>by injection hg with hg;omega)) (by omega)
 have hbw5:=hbw4.grown (set_grown W5 w.heap.size 2 (.slice A5 (List.length x.2.2) c5)) (Nat.le_of_lt B14.lt) (fun k hk=>by injection hk with hk;omega)
 have hWs5:W.heap.size≤(W5.setCell ⟨w.heap.size,2,none⟩ (.slice A5 (List.length x.2.2) c5)).heap.size:=Nat.le_trans hWs (set_grown W5 w.heap.size 2 (.slice A5 (List.length x.2.2) c5)).size
 obtain ⟨W6,hW6⟩:∃ W,W=W5.setCell ⟨w.heap.size,2,none⟩ (.slice A5 (List.length x.2.2) c5):=⟨_,rfl⟩
 rw [←hW6] at HC5 HD5 B15 B25 hbw5 hWs5 ⊢
 clear hW6 hk5 B14 B24 HC HD hbw4 q f hWs
 have B14:=B15
 have B24:=B25
 have hWs:=hWs5
 have HC:=HC5
 have HD:=HD5
 have hbw4:=hbw5
 clear B15 B25 hbw5 hWs5 HC5 HD5
 have HR:=Lib.hid (eWrkT_mk (x:=x) HC.out HD.out)
 clear HC HD
 obtain ⟨cz,hcz⟩:∃ z,z=([.int .i64 x.1,.slice A4 x.2.1.length x.2.1.length,.slice A5 x.2.2.length c5]:List Value):=⟨_,rfl⟩
 have hczl:cz.length=3:=by rw [hcz];rfl
 have hone:∀ u∈cz,u.oneCell'=true:=HR.out |> fun h=>by rw [hcz];exact eWrkT.one h
 have hsz:(Tryz.prog.info? 148).map (·.size)=some cz.length:=by rw [hczl];kernel_rfl
 have hth:=Blk.there (o:=0) (n:=3) B24 (by simp)
 have hrg:W6.rangeAt w.heap.size 0 cz:=by rw [hcz];exact Blk.whole B14
 go_wp2_with (first|((with_reducible show wpList _ _ _ (Oper.mk (some 11) _ _ _ _ _::_) _ _);(refine wpList_load_mid rfl 148 _ rfl w.heap.size 0 rfl cz _ hrg Tryz.underlying148 rfl hsz ?_)) |
  ((with_reducible show wpList _ _ _ (Oper.mk none _ _ _ _ _::_) _ _);(refine wpList_store_mid rfl 148 _ _ rfl g2 0 cz.toArray rfl rfl ?s1 ?s2 (all_oneCell_toArray hone) ?_)))
 case s1=>exact (show cz.toArray.size=3 by simp [hczl]) ▸ hth
 case s2=>exact (show cz.toArray.size=cz.length by simp) ▸ hsz
 obtain ⟨B8,hg8⟩:=Blk.lay cz 0 B24 (by rw [hczl];simp)
 rw [laid_all _ _ (by rw [hczl];rfl)] at B8
 have hbw8:=hbw4.grown hg8 (Nat.le_of_lt (Nat.lt_of_lt_of_le hg2n (Nat.le_of_lt B24.lt))) (fun k hk=>by injection hk with hk;omega)
 have HR8:=Lib.hid (eWrkT.keep HR.out (Keep.grown hg8 (fun g hg h=>by injection hg with hg;omega)))
 generalize W6.setCells g2 0 cz=w8 at *
 clear hth B14 B24 hg8 hrg HR hbw4
 go_wp2
 refine bodyPost_ret (v:=.agg cz.toArray) (results_cell_row rfl _ _ g2 _ _ (0,0) _ rfl B8 Tryz.underlying148 rfl (by rw [List.size_toArray];exact hsz)) rfl ⟨cz,rfl,by rw [hcz];exact eWrkT.mono HR8.out (fun b h=>by omega),hbw8⟩
theorem teachWrkT {w:World} {F:Blocks} {A:Option Addr} {n c:Nat} {x:List Wrk} (h:Sl eWrk w F A n c x) (hn:x.length≤1000) (hok:∀ y∈x,okWrk y):Calls Tryz.prog 101 #[.slice A n c,.func (.func 102) #[] #[]] w (CopiedT eWrkT 148 x w):=by
 obtain ⟨i0,hi,hz0,hz1,hz2⟩:=info_parts (P:=Tryz.prog) (e:=148) (z:=.agg #[.int .i64 0,.slice none 0 0,.slice none 0 0]) (size:=3) (bytes:=56) (by kernel_rfl)
 have HS:=Lib.hid h
 have HL:=Lib.hid h.len
 have hn:n≤1000:=by have:=h.len;omega
 clear h
 have HK:=Lib.hid hok
 clear hok
 go_enter Tryz.func101,Tryz.ntmps101
 go_wp2_with (at_make;refine wpList_make_full _ rfl _ _ 38 rfl w.heap.size 148 i0 (.agg #[.int .i64 0,.slice none 0 0,.slice none 0 0]) 3 Tryz.underlying38 hi hz0 hz1 _ _ _ _ n rfl rfl rfl rfl ?b2 ?b3 (Nat.le_refl _) ?_)
 case b2=>rw [hz2];omega
 case b3=>unfold maxLen;omega
 intro w1 hown hgrow
 obtain ⟨Z,BO,hZl⟩:=made_blk hown
 have hb1:=(Below.refl w.heap.size w).grown hgrow (Nat.le_refl _) (fun k hk=>by cases hk)
 obtain ⟨go,hgo⟩:∃ g,w.heap.size=g:=⟨_,rfl⟩
 have BO0:Blk w1 w.heap.size 148 ((([]:List (List Value)).flatten++Z.drop (0 * 3)).toArray):=by simpa using BO
 have HB0:=Lib.hid (And.intro BO0 hb1)
 clear hown hgrow BO BO0 hb1
 rw [hgo] at HB0
 have hgw:go=w.heap.size:=hgo.symm
 rw [hgo]
 clear hgo
 have HGW:=Lib.hid hgw
 clear hgw
 go_wp2_with fail
 go_loopw [13] (fun i wr=>∃ (k:Nat) (css:List (List Value)),i=.int .i64 k∧k≤n∧Hid (Els eWrkT wr (fun b=>go<b) css (x.take k))∧Hid (Blk wr go 148 (css.flatten++Z.drop (k * 3)).toArray∧Below go w wr)) (fun i _=>n - (intOf i).toNat)
 case atStart=>exact ⟨0,[],rfl,Nat.zero_le _,Lib.hid (by simpa using Els.nil _ _),HB0⟩
 case round =>
  clear HB0
  obtain ⟨k,css,rfl,hk,HE,HB⟩:=hrel
  rcases Nat.lt_or_ge k n with hlt|hge
  ·have hd:decide ((k:Int)<(n:Int))=true:=by simp;omega
   have hkn:(k:Int)<(n:Int):=by omega
   obtain ⟨y,hy⟩:∃ y,x[k]? = some y:=⟨_,List.getElem?_eq_getElem (by have:=HL.out;omega)⟩
   have HY:=Lib.hid hy
   obtain ⟨b0,off,rfl,hnc,hFb,hbl⟩:=HS.out.some_ (by omega)
   have hbw:=HB.out.2
   have hsz:=HB.out.1.lt
   have hS:=HS.out.ext (show Below w.heap.size w wr by rw [←HGW.out];exact hbw)
   obtain ⟨cs,hcs,hcell⟩:=hS.at_ hy
   have hcl1:cs.length=3:=eWrk.len hcs
   have hone:=eWrk.one hcs
   have hcz:(Tryz.prog.info? 148).map (·.size)=some cs.length:=by rw [hcl1];kernel_rfl
   have C7:=Blk.new wr 148 (([.int .i64 0,.slice none 0 0,.slice none 0 0]:List Value)).toArray
   have hth7:=Blk.there (o:=0) (n:=3) C7 (by simp)
   obtain ⟨B7,hg7⟩:=Blk.lay cs 0 C7 (by rw [hcl1];simp)
   rw [laid_all _ _ (by rw [hcl1];rfl)] at B7
   have hb7:Below wr.heap.size wr ((wr.alloc (.cells #[.int .i64 0,.slice none 0 0,.slice none 0 0] 148)).setCells wr.heap.size 0 cs):=((Below.refl _ _).alloc (Nat.le_refl _) _).grown hg7 (by simp) (fun k hk=>by injection hk with hk;omega)
   clear hg7 C7
   have hrg:wr.rangeAt b0 (off+k * 3) cs:=fun j u hu=>hcell j u hu
   have HR:=Lib.hid hrg
   clear hrg hcell hS hy
   go_upto_region 5 with (first|((with_reducible show wpList _ _ _ (Oper.mk (some 17) _ _ _ _ _::_) _ _);(refine wpList_load_mid rfl 148 _ rfl b0 (off+k * 3) rfl cs _ HR.out Tryz.underlying148 rfl hcz ?_)) |
    ((with_reducible show wpList _ _ _ (Oper.mk none (Op.store _ (Operand.tmp 7) _) _ _ _ _::_) _ _);(refine wpList_store_mid rfl 148 _ _ rfl wr.heap.size 0 cs.toArray rfl rfl ?s5 ?s6 (all_oneCell_toArray hone) ?_)))
   case s5=>exact (show cs.toArray.size=3 by simp [hcl1]) ▸ hth7
   case s6=>rw [List.size_toArray];exact hcz
   have HC:=Lib.hid (eWrk.ext hcs hb7)
   clear hcs
   generalize (wr.alloc (.cells #[.int .i64 0,.slice none 0 0,.slice none 0 0] 148)).setCells wr.heap.size 0 cs=W7 at *
   have HF:=Lib.hid (townWork_ HC.out (HK.out y (List.mem_of_getElem? HY.out)))
   go_wp2_with ((with_reducible show wpList _ _ _ (Oper.mk (some 21) _ _ _ _ _::_) _ _);(refine wpList_load_mid rfl 148 _ rfl wr.heap.size 0 rfl cs _ (Blk.whole B7) Tryz.underlying148 rfl hcz ?_))
   refine HF.out.mono ?_
   rintro e w4 ⟨cs4,rfl,hr4,hb4⟩
   clear HF HC B7
   have hcl4:cs4.length=3:=eWrkT.len hr4
   have hone4:=eWrkT.one hr4
   have hcz4:(Tryz.prog.info? 148).map (·.size)=some cs4.length:=by rw [hcl4];kernel_rfl
   have hr4:=eWrkT.mono hr4 (G:=fun b=>go<b) (fun b h=>by have:=hb7.size;omega)
   have hE4:=Els.snoc ((HE.out.ext hb7).ext hb4) HY.out hr4
   have hfl:css.flatten.length=k * 3:=by have h9:=HE.out.flen;rw [List.length_take,Nat.min_eq_left (by have:=HL.out;omega)] at h9;exact h9
   have B4:=(HB.out.1.ext hb7).ext hb4
   have hbw4:=(hbw.trans (Below.mono hb7 (Nat.le_of_lt hsz))).trans (Below.mono hb4 (Nat.le_trans (Nat.le_of_lt hsz) hb7.size))
   have hkk:(k+1) * 3≤n * 3:=Nat.mul_le_mul_right _ hlt
   have hth:=Blk.there (o:=k * 3) (n:=3) B4 (by rw [List.length_append,List.length_drop,hfl,hZl];omega)
   obtain ⟨B5,hg5⟩:=Blk.lay cs4 (k * 3) B4 (by rw [List.length_append,List.length_drop,hfl,hZl];omega)
   rw [lay_at css.flatten Z cs4 k 3 hfl hcl4 (by rw [hZl];exact hkk)] at B5
   have hE5:=Els.keep hE4 (Keep.grown hg5 (fun g hg hlt=>by injection hg with hg;omega))
   have hbw5:=hbw4.grown hg5 (Nat.le_of_lt B4.lt) (fun k hk=>by injection hk with hk;omega)
   have HE5:=Lib.hid hE5
   have HB5:=Lib.hid (show Blk _ go 148 ((css++[cs4]).flatten++Z.drop ((k+1) * 3)).toArray∧Below go w _ from ⟨by rw [List.flatten_append,List.flatten_singleton];exact B5,hbw5⟩)
   clear hE5 hg5 B5 hbw5 hE4 hr4 hfl B4 hbw4 hbw
   go_upto_region 6 with ((with_reducible show wpList _ _ _ (Oper.mk none (Op.store _ (Operand.tmp 23) _) _ _ _ _::_) _ _);(refine wpList_store_mid rfl 148 _ _ rfl go (k * 3) cs4.toArray rfl rfl ?s7 ?s8 (all_oneCell_toArray hone4) ?_))
   case s7=>exact (show cs4.toArray.size=3 by simp [hcl4]) ▸ hth
   case s8=>rw [List.size_toArray];exact hcz4
   generalize w4.setCells go (k * 3) cs4=W5 at *
   clear hth hone hone4
   go_wp2_with fail
   go_roundw
   case rel=>exact ⟨k+1,_,by go_num,by omega,HE5,HB5⟩
   case measure=>simp [intOf];omega
  ·obtain rfl:k=n:=by omega
   have hd:decide ((k:Int)<(k:Int))=false:=by simp
   have hxk:x.length=k:=HL.out
   subst hxk
   have hE:=HE.out
   rw [List.take_length] at hE
   have hB:=HB.out
   rw [List.drop_eq_nil_of_le (by omega),List.append_nil] at hB
   have HR:=Lib.hid (show OwnE eWrkT 148 wr w.heap.size (fun b=>w.heap.size≤b∧(some ⟨go,0,none⟩:Option Addr)≠some ⟨b,0,none⟩) (some ⟨go,0,none⟩) x.length x.length x from ⟨css,own_of_blk hB.1 hE.flen (by rw [HGW.out];exact Nat.le_refl _) hn,hE.mono (fun b h=>⟨by have:=HGW.out;omega,fun e=>by injection e with e;injection e with e;omega⟩),rfl⟩)
   have hbw:Below w.heap.size w wr:=by rw [←HGW.out];exact hB.2
   clear hE hB HE HB
   go_wp2
   go_ret
   exact ⟨_,rfl,HR.out,hbw⟩
theorem teachWrk {w:World} {F:Blocks} {A:Option Addr} {n c:Nat} {x:List Wrk} (h:Sl eWrk w F A n c x) (hn:x.length≤1000) (hok:∀ y∈x,okWrk y):Calls Tryz.prog 101 #[.slice A n c,.func (.func 102) #[] #[]] w (Copied eWrkT 148 x w):=(teachWrkT h hn hok).mono fun _ _ h=>h.copied
theorem sownWork_ {w:World} {F:Blocks} {cs:List Value} {x:Wrk} (h:eWrk.rel w F cs x) (hok:okWrk x):Calls Tryz.prog 73 #[.agg cs.toArray] w (Owned eWrkT x w):=by
 obtain ⟨A,n,c,A2,n2,c2,rfl,h1,h2⟩:=eWrk_inv h
 have HS1:=Lib.hid h1
 have HS2:=Lib.hid h2
 have hn1:n2≤1000:=by have:=h2.len;have:=hok.2.2;omega
 have HOK:=Lib.hid hok
 clear h h1 h2 hok
 go_enter Tryz.func73,Tryz.ntmps73
 go_upto_region 1 with fail
 obtain ⟨W,hW_,hb1,B1,B2⟩:=al2 w 148 148 #[.int .i64 x.1,.slice A n c,.slice A2 n2 c2] #[.int .i64 0,.slice none 0 0,.slice none 0 0]
 rw [←hW_]
 clear hW_
 obtain ⟨g2,hg2⟩:∃ g,w.heap.size+1=g:=⟨_,rfl⟩
 have hg2n:w.heap.size<g2:=by omega
 rw [hg2] at B2 ⊢
 clear hg2
 have D:∀ w',Below W.heap.size W.drew w'→w'.cell? ⟨w.heap.size,1,none⟩=some (.slice A n c)∧w'.cell? ⟨w.heap.size,2,none⟩=some (.slice A2 n2 c2):=fun w' h=>⟨(B1.ext (Below.trans (Below.refl _ _).drew h)).cell 1,(B1.ext (Below.trans (Below.refl _ _).drew h)).cell 2⟩
 refine wp_region_tail (S:=fun w'=>Below W.heap.size W.drew w') [(0,true),(1,true),(3,true),(4,true),(2,false),(6,true),(5,false)] [(7,false),(8,true),(9,false)] (by kernel_rfl) (by kernel_rfl) (Below.refl _ _) ?_
 repeat ((with_reducible refine pG ?_);(first|refine pT ?_|refine pF ?_);try go_frame)
 have HF:=Lib.hid (seachChgT (HS1.out.ext hb1.drew) HOK.out.1 HOK.out.2.1)
 refine pD fun K hK=>?_;go_simp
 refine HF.out.mono ?_
 rintro e w3 ⟨A4,rfl,hown4,hb3⟩
 refine hK.out _ _ hb3 ?_
 clear hK K HF
 repeat ((with_reducible refine pG ?_);(first|refine pT ?_|refine pF ?_);try go_frame)
 have HF:=Lib.hid (copyM (HS2.out.ext (hb1.drew.trans (Below.mono hb3 hb1.size))) (by omega))
 refine pD fun K hK=>?_;go_simp
 refine HF.out.mono ?_
 rintro e w4 ⟨A5,c5,rfl,hown5,hb4⟩
 refine hK.out _ _ (hb3.trans (Below.mono hb4 hb3.size)) ?_
 clear hK K HF D
 have HC:=Lib.hid ((hown4.sl (G:=fun b=>W.heap.size≤b) (fun b h _=>h) (fun b h=>h.1)).ext hb4)
 have HD:=Lib.hid (hown5.sl (G:=fun b=>W.heap.size≤b) (fun b h _=>Nat.le_trans hb3.size h) (fun b h=>Nat.le_trans hb3.size h.1))
 have hbb:=(Below.refl _ _).drew.trans (Below.mono (hb3.trans (Below.mono hb4 hb3.size)) (Nat.le_refl W.heap.size))
 have B14:=B1.ext hbb
 have B24:=B2.ext hbb
 have hbw4:=hb1.trans (Below.mono hbb hb1.size)
 have hw1:g2<W.heap.size:=B2.lt
 have hWs:=hbb.size
 clear hown4 hown5 B1 B2 hb4 hb3 hb1 hbb HS1 HS2
 refine wpTail_done ?_
 have q:=B14.cell 1
 have f:=B14.frozen 1
 refine pD fun K hK=>?_;go_simp
 refine hK.out _ _ trivial ?_
 clear hK K
 have hk5:=Keep.set (F:=fun b=>W.heap.size≤b) w4 ⟨w.heap.size,1,none⟩ (.slice A4 (List.length x.2.1) (List.length x.2.1)) (show ¬W.heap.size≤w.heap.size by omega)
 have HC5:=Lib.hid (HC.out.keep hk5)
 have HD5:=Lib.hid (HD.out.keep hk5)
 have B15:=B14.set_ 1 (.slice A4 (List.length x.2.1) (List.length x.2.1))
 have B25:=Blk.keep (F:=fun b=>b≠w.heap.size) B24 (Keep.grown (set_grown w4 w.heap.size 1 (.slice A4 (List.length x.2.1) (List.length x.2.1))) (fun g hg h=>by injection hg with hg;omega)) (by omega)
 have hbw5:=hbw4.grown (set_grown w4 w.heap.size 1 (.slice A4 (List.length x.2.1) (List.length x.2.1))) (Nat.le_of_lt B14.lt) (fun k hk=>by injection hk with hk;omega)
 have hWs5:W.heap.size≤(w4.setCell ⟨w.heap.size,1,none⟩ (.slice A4 (List.length x.2.1) (List.length x.2.1))).heap.size:=Nat.le_trans hWs (set_grown w4 w.heap.size 1 (.slice A4 (List.length x.2.1) (List.length x.2.1))).size
 obtain ⟨W5,hW5⟩:∃ W,W=w4.setCell ⟨w.heap.size,1,none⟩ (.slice A4 (List.length x.2.1) (List.length x.2.1)):=⟨_,rfl⟩
 rw [←hW5] at HC5 HD5 B15 B25 hbw5 hWs5 ⊢
 clear hW5 hk5 B14 B24 HC HD hbw4 q f hWs
 have B14:=B15
 have B24:=B25
 have hWs:=hWs5
 have HC:=HC5
 have HD:=HD5
 have hbw4:=hbw5
 clear B15 B25 hbw5 hWs5 HC5 HD5
 repeat ((with_reducible refine pG ?_);(first|refine pT ?_|refine pF ?_);try go_frame)
 clear w4
 have q:=B14.cell 2
 have f:=B14.frozen 2
 refine pD fun K hK=>?_;go_simp
 refine hK.out _ _ trivial (wpPerm_done ?_)
 clear hK K
 have hk5:=Keep.set (F:=fun b=>W.heap.size≤b) W5 ⟨w.heap.size,2,none⟩ (.slice A5 (List.length x.2.2) c5) (show ¬W.heap.size≤w.heap.size by omega)
 have HC5:=Lib.hid (HC.out.keep hk5)
 have HD5:=Lib.hid (HD.out.keep hk5)
 have B15:=B14.set_ 2 (.slice A5 (List.length x.2.2) c5)
 have B25:=Blk.keep (F:=fun b=>b≠w.heap.size) B24 (Keep.grown (set_grown W5 w.heap.size 2 (.slice A5 (List.length x.2.2) c5)) (fun g hg h=>by injection hg with hg;omega)) (by omega)
 have hbw5:=hbw4.grown (set_grown W5 w.heap.size 2 (.slice A5 (List.length x.2.2) c5)) (Nat.le_of_lt B14.lt) (fun k hk=>by injection hk with hk;omega)
 have hWs5:W.heap.size≤(W5.setCell ⟨w.heap.size,2,none⟩ (.slice A5 (List.length x.2.2) c5)).heap.size:=Nat.le_trans hWs (set_grown W5 w.heap.size 2 (.slice A5 (List.length x.2.2) c5)).size
 obtain ⟨W6,hW6⟩:∃ W,W=W5.setCell ⟨w.heap.size,2,none⟩ (.slice A5 (List.length x.2.2) c5):=⟨_,rfl⟩
 rw [←hW6] at HC5 HD5 B15 B25 hbw5 hWs5 ⊢
 clear hW6 hk5 B14 B24 HC HD hbw4 q f hWs
 have B14:=B15
 have B24:=B25
 have hWs:=hWs5
 have HC:=HC5
 have HD:=HD5
 have hbw4:=hbw5
 clear B15 B25 hbw5 hWs5 HC5 HD5
 have HR:=Lib.hid (eWrkT_mk (x:=x) HC.out HD.out)
 clear HC HD
 obtain ⟨cz,hcz⟩:∃ z,z=([.int .i64 x.1,.slice A4 x.2.1.length x.2.1.length,.slice A5 x.2.2.length c5]:List Value):=⟨_,rfl⟩
 have hczl:cz.length=3:=by rw [hcz];rfl
 have hone:∀ u∈cz,u.oneCell'=true:=HR.out |> fun h=>by rw [hcz];exact eWrkT.one h
 have hsz:(Tryz.prog.info? 148).map (·.size)=some cz.length:=by rw [hczl];kernel_rfl
 have hth:=Blk.there (o:=0) (n:=3) B24 (by simp)
 have hrg:W6.rangeAt w.heap.size 0 cz:=by rw [hcz];exact Blk.whole B14
 go_wp2_with (first|((with_reducible show wpList _ _ _ (Oper.mk (some 11) _ _ _ _ _::_) _ _);(refine wpList_load_mid rfl 148 _ rfl w.heap.size 0 rfl cz _ hrg Tryz.underlying148 rfl hsz ?_)) |
  ((with_reducible show wpList _ _ _ (Oper.mk none _ _ _ _ _::_) _ _);(refine wpList_store_mid rfl 148 _ _ rfl g2 0 cz.toArray rfl rfl ?s1 ?s2 (all_oneCell_toArray hone) ?_)))
 case s1=>exact (show cz.toArray.size=3 by simp [hczl]) ▸ hth
 case s2=>exact (show cz.toArray.size=cz.length by simp) ▸ hsz
 obtain ⟨B8,hg8⟩:=Blk.lay cz 0 B24 (by rw [hczl];simp)
 rw [laid_all _ _ (by rw [hczl];rfl)] at B8
 have hbw8:=hbw4.grown hg8 (Nat.le_of_lt (Nat.lt_of_lt_of_le hg2n (Nat.le_of_lt B24.lt))) (fun k hk=>by injection hk with hk;omega)
 have HR8:=Lib.hid (eWrkT.keep HR.out (Keep.grown hg8 (fun g hg h=>by injection hg with hg;omega)))
 generalize W6.setCells g2 0 cz=w8 at *
 clear hth B14 B24 hg8 hrg HR hbw4
 go_wp2
 refine bodyPost_ret (v:=.agg cz.toArray) (results_cell_row rfl _ _ g2 _ _ (0,0) _ rfl B8 Tryz.underlying148 rfl (by rw [List.size_toArray];exact hsz)) rfl ⟨cz,rfl,by rw [hcz];exact eWrkT.mono HR8.out (fun b h=>by omega),hbw8⟩
theorem seachWrkT {w:World} {F:Blocks} {A:Option Addr} {n c:Nat} {x:List Wrk} (h:Sl eWrk w F A n c x) (hn:x.length≤1000) (hok:∀ y∈x,okWrk y):Calls Tryz.prog 72 #[.slice A n c,.func (.func 73) #[] #[]] w (CopiedT eWrkT 148 x w):=by
 obtain ⟨i0,hi,hz0,hz1,hz2⟩:=info_parts (P:=Tryz.prog) (e:=148) (z:=.agg #[.int .i64 0,.slice none 0 0,.slice none 0 0]) (size:=3) (bytes:=56) (by kernel_rfl)
 have HS:=Lib.hid h
 have HL:=Lib.hid h.len
 have hn:n≤1000:=by have:=h.len;omega
 clear h
 have HK:=Lib.hid hok
 clear hok
 go_enter Tryz.func72,Tryz.ntmps72
 go_wp2_with (at_make;refine wpList_make_full _ rfl _ _ 38 rfl w.heap.size 148 i0 (.agg #[.int .i64 0,.slice none 0 0,.slice none 0 0]) 3 Tryz.underlying38 hi hz0 hz1 _ _ _ _ n rfl rfl rfl rfl ?b2 ?b3 (Nat.le_refl _) ?_)
 case b2=>rw [hz2];omega
 case b3=>unfold maxLen;omega
 intro w1 hown hgrow
 obtain ⟨Z,BO,hZl⟩:=made_blk hown
 have hb1:=(Below.refl w.heap.size w).grown hgrow (Nat.le_refl _) (fun k hk=>by cases hk)
 obtain ⟨go,hgo⟩:∃ g,w.heap.size=g:=⟨_,rfl⟩
 have BO0:Blk w1 w.heap.size 148 ((([]:List (List Value)).flatten++Z.drop (0 * 3)).toArray):=by simpa using BO
 have HB0:=Lib.hid (And.intro BO0 hb1)
 clear hown hgrow BO BO0 hb1
 rw [hgo] at HB0
 have hgw:go=w.heap.size:=hgo.symm
 rw [hgo]
 clear hgo
 have HGW:=Lib.hid hgw
 clear hgw
 go_wp2_with fail
 go_loopw [13] (fun i wr=>∃ (k:Nat) (css:List (List Value)),i=.int .i64 k∧k≤n∧Hid (Els eWrkT wr (fun b=>go<b) css (x.take k))∧Hid (Blk wr go 148 (css.flatten++Z.drop (k * 3)).toArray∧Below go w wr)) (fun i _=>n - (intOf i).toNat)
 case atStart=>exact ⟨0,[],rfl,Nat.zero_le _,Lib.hid (by simpa using Els.nil _ _),HB0⟩
 case round =>
  clear HB0
  obtain ⟨k,css,rfl,hk,HE,HB⟩:=hrel
  rcases Nat.lt_or_ge k n with hlt|hge
  ·have hd:decide ((k:Int)<(n:Int))=true:=by simp;omega
   have hkn:(k:Int)<(n:Int):=by omega
   obtain ⟨y,hy⟩:∃ y,x[k]? = some y:=⟨_,List.getElem?_eq_getElem (by have:=HL.out;omega)⟩
   have HY:=Lib.hid hy
   obtain ⟨b0,off,rfl,hnc,hFb,hbl⟩:=HS.out.some_ (by omega)
   have hbw:=HB.out.2
   have hsz:=HB.out.1.lt
   have hS:=HS.out.ext (show Below w.heap.size w wr by rw [←HGW.out];exact hbw)
   obtain ⟨cs,hcs,hcell⟩:=hS.at_ hy
   have hcl1:cs.length=3:=eWrk.len hcs
   have hone:=eWrk.one hcs
   have hcz:(Tryz.prog.info? 148).map (·.size)=some cs.length:=by rw [hcl1];kernel_rfl
   have C7:=Blk.new wr 148 (([.int .i64 0,.slice none 0 0,.slice none 0 0]:List Value)).toArray
   have hth7:=Blk.there (o:=0) (n:=3) C7 (by simp)
   obtain ⟨B7,hg7⟩:=Blk.lay cs 0 C7 (by rw [hcl1];simp)
   rw [laid_all _ _ (by rw [hcl1];rfl)] at B7
   have hb7:Below wr.heap.size wr ((wr.alloc (.cells #[.int .i64 0,.slice none 0 0,.slice none 0 0] 148)).setCells wr.heap.size 0 cs):=((Below.refl _ _).alloc (Nat.le_refl _) _).grown hg7 (by simp) (fun k hk=>by injection hk with hk;omega)
   clear hg7 C7
   have hrg:wr.rangeAt b0 (off+k * 3) cs:=fun j u hu=>hcell j u hu
   have HR:=Lib.hid hrg
   clear hrg hcell hS hy
   go_upto_region 5 with (first|((with_reducible show wpList _ _ _ (Oper.mk (some 17) _ _ _ _ _::_) _ _);(refine wpList_load_mid rfl 148 _ rfl b0 (off+k * 3) rfl cs _ HR.out Tryz.underlying148 rfl hcz ?_)) |
    ((with_reducible show wpList _ _ _ (Oper.mk none (Op.store _ (Operand.tmp 7) _) _ _ _ _::_) _ _);(refine wpList_store_mid rfl 148 _ _ rfl wr.heap.size 0 cs.toArray rfl rfl ?s5 ?s6 (all_oneCell_toArray hone) ?_)))
   case s5=>exact (show cs.toArray.size=3 by simp [hcl1]) ▸ hth7
   case s6=>rw [List.size_toArray];exact hcz
   have HC:=Lib.hid (eWrk.ext hcs hb7)
   clear hcs
   generalize (wr.alloc (.cells #[.int .i64 0,.slice none 0 0,.slice none 0 0] 148)).setCells wr.heap.size 0 cs=W7 at *
   have HF:=Lib.hid (sownWork_ HC.out (HK.out y (List.mem_of_getElem? HY.out)))
   go_wp2_with ((with_reducible show wpList _ _ _ (Oper.mk (some 21) _ _ _ _ _::_) _ _);(refine wpList_load_mid rfl 148 _ rfl wr.heap.size 0 rfl cs _ (Blk.whole B7) Tryz.underlying148 rfl hcz ?_))
   refine HF.out.mono ?_
   rintro e w4 ⟨cs4,rfl,hr4,hb4⟩
   clear HF HC B7
   have hcl4:cs4.length=3:=eWrkT.len hr4
   have hone4:=eWrkT.one hr4
   have hcz4:(Tryz.prog.info? 148).map (·.size)=some cs4.length:=by rw [hcl4];kernel_rfl
   have hr4:=eWrkT.mono hr4 (G:=fun b=>go<b) (fun b h=>by have:=hb7.size;omega)
   have hE4:=Els.snoc ((HE.out.ext hb7).ext hb4) HY.out hr4
   have hfl:css.flatten.length=k * 3:=by have h9:=HE.out.flen;rw [List.length_take,Nat.min_eq_left (by have:=HL.out;omega)] at h9;exact h9
   have B4:=(HB.out.1.ext hb7).ext hb4
   have hbw4:=(hbw.trans (Below.mono hb7 (Nat.le_of_lt hsz))).trans (Below.mono hb4 (Nat.le_trans (Nat.le_of_lt hsz) hb7.size))
   have hkk:(k+1) * 3≤n * 3:=Nat.mul_le_mul_right _ hlt
   have hth:=Blk.there (o:=k * 3) (n:=3) B4 (by rw [List.length_append,List.length_drop,hfl,hZl];omega)
   obtain ⟨B5,hg5⟩:=Blk.lay cs4 (k * 3) B4 (by rw [List.length_append,List.length_drop,hfl,hZl];omega)
   rw [lay_at css.flatten Z cs4 k 3 hfl hcl4 (by rw [hZl];exact hkk)] at B5
   have hE5:=Els.keep hE4 (Keep.grown hg5 (fun g hg hlt=>by injection hg with hg;omega))
   have hbw5:=hbw4.grown hg5 (Nat.le_of_lt B4.lt) (fun k hk=>by injection hk with hk;omega)
   have HE5:=Lib.hid hE5
   have HB5:=Lib.hid (show Blk _ go 148 ((css++[cs4]).flatten++Z.drop ((k+1) * 3)).toArray∧Below go w _ from ⟨by rw [List.flatten_append,List.flatten_singleton];exact B5,hbw5⟩)
   clear hE5 hg5 B5 hbw5 hE4 hr4 hfl B4 hbw4 hbw
   go_upto_region 6 with ((with_reducible show wpList _ _ _ (Oper.mk none (Op.store _ (Operand.tmp 23) _) _ _ _ _::_) _ _);(refine wpList_store_mid rfl 148 _ _ rfl go (k * 3) cs4.toArray rfl rfl ?s7 ?s8 (all_oneCell_toArray hone4) ?_))
   case s7=>exact (show cs4.toArray.size=3 by simp [hcl4]) ▸ hth
   case s8=>rw [List.size_toArray];exact hcz4
   generalize w4.setCells go (k * 3) cs4=W5 at *
   clear hth hone hone4
   go_wp2_with fail
   go_roundw
   case rel=>exact ⟨k+1,_,by go_num,by omega,HE5,HB5⟩
   case measure=>simp [intOf];omega
  ·obtain rfl:k=n:=by omega
   have hd:decide ((k:Int)<(k:Int))=false:=by simp
   have hxk:x.length=k:=HL.out
   subst hxk
   have hE:=HE.out
   rw [List.take_length] at hE
   have hB:=HB.out
   rw [List.drop_eq_nil_of_le (by omega),List.append_nil] at hB
   have HR:=Lib.hid (show OwnE eWrkT 148 wr w.heap.size (fun b=>w.heap.size≤b∧(some ⟨go,0,none⟩:Option Addr)≠some ⟨b,0,none⟩) (some ⟨go,0,none⟩) x.length x.length x from ⟨css,own_of_blk hB.1 hE.flen (by rw [HGW.out];exact Nat.le_refl _) hn,hE.mono (fun b h=>⟨by have:=HGW.out;omega,fun e=>by injection e with e;injection e with e;omega⟩),rfl⟩)
   have hbw:Below w.heap.size w wr:=by rw [←HGW.out];exact hB.2
   clear hE hB HE HB
   go_wp2
   go_ret
   exact ⟨_,rfl,HR.out,hbw⟩
theorem seachWrk {w:World} {F:Blocks} {A:Option Addr} {n c:Nat} {x:List Wrk} (h:Sl eWrk w F A n c x) (hn:x.length≤1000) (hok:∀ y∈x,okWrk y):Calls Tryz.prog 72 #[.slice A n c,.func (.func 73) #[] #[]] w (Copied eWrkT 148 x w):=(seachWrkT h hn hok).mono fun _ _ h=>h.copied
def okDB (x:DBd):Prop:=x.1.length≤1000∧(∀ t∈x.1,okTab t)∧x.2.1.length≤1000∧(∀ k∈x.2.1,okWrk k)∧x.2.2.1.length≤1000∧x.2.2.2.length≤1000
theorem OwnE.ext {α:Type} {E:Enc α} {t:TypeId} {w w':World} {B:Nat} {F:Blocks} {A:Option Addr} {n c:Nat} {x:List α} (h:OwnE E t w B F A n c x) (hb:Below w.heap.size w w'):OwnE E t w' B F A n c x:=by
 obtain ⟨css,h1,h2,h3⟩:=h
 exact ⟨css,own_ext h1 hb,h2.ext hb,h3⟩
theorem OwnE.base {α:Type} {E:Enc α} {t:TypeId} {w:World} {B B':Nat} {F:Blocks} {A:Option Addr} {n c:Nat} {x:List α} (h:OwnE E t w B F A n c x) (hb:B'≤B):OwnE E t w B' F A n c x:=by
 obtain ⟨css,h1,h2,h3⟩:=h
 exact ⟨css,own_base h1 hb,h2,h3⟩
theorem OwnE.mono {α:Type} {E:Enc α} {t:TypeId} {w:World} {B:Nat} {F G:Blocks} {A:Option Addr} {n c:Nat} {x:List α} (h:OwnE E t w B F A n c x) (hF:∀ b,F b→G b):OwnE E t w B G A n c x:=by
 obtain ⟨css,h1,h2,h3⟩:=h
 exact ⟨css,h1,h2.mono hF,h3⟩
theorem own_keep {G:Blocks} {w w':World} {B k n c:Nat} {t:TypeId} {A:Option Addr} {xs:List Value} (h:w.ownsRow B t k (.slice A n c) n xs) (hk:Keep G w w') (hA:∀ b,A=some ⟨b,0,none⟩→G b):w'.ownsRow B t k (.slice A n c) n xs:=by
 refine ⟨h.1,?_⟩
 rcases h.2 with h1|⟨g,cap,cur,h1,h2,h3,h4⟩
 ·exact .inl h1
 ·exact .inr ⟨g,cap,cur,h1,h2,Blk.keep (F:=G) h3 hk (hA g (by injection h1)),h4⟩
theorem OwnE.keep {α:Type} {E:Enc α} {t:TypeId} {w w':World} {B:Nat} {F G:Blocks} {A:Option Addr} {n c:Nat} {x:List α} (h:OwnE E t w B F A n c x) (hk:Keep G w w') (hA:∀ b,A=some ⟨b,0,none⟩→G b) (hF:∀ b,F b→G b):OwnE E t w' B F A n c x:=by
 obtain ⟨css,h1,h2,h3⟩:=h
 exact ⟨css,own_keep h1 hk hA,h2.keep (hk.mono hF),h3⟩
theorem OwnE.lt {α:Type} {E:Enc α} {t:TypeId} {w:World} {B b:Nat} {F:Blocks} {A:Option Addr} {n c:Nat} {x:List α} (h:OwnE E t w B F A n c x) (hA:A=some ⟨b,0,none⟩):B≤b∧b<w.heap.size:=by
 obtain ⟨css,h1,_,_⟩:=h
 exact h1.lt b (by rw [hA];rfl)
theorem OwnE.len {α:Type} {E:Enc α} {t:TypeId} {w:World} {B:Nat} {F:Blocks} {A:Option Addr} {n c:Nat} {x:List α} (h:OwnE E t w B F A n c x):x.length=n:=by
 obtain ⟨_,_,_,h⟩:=h
 exact h
def Bnd {α:Type} (E:Enc α):Prop:=∀ {w F cs x},E.rel w F cs x→E.rel w (fun b=>F b∧b<w.heap.size) cs x
theorem Flat.bnd {α:Type} {E:Enc α} (h:Flat E):Bnd E:=fun {w F cs x} hr=>h.any hr w _
theorem Els.bound {α:Type} {E:Enc α} (hE:Bnd E) {w:World} {F:Blocks} {css:List (List Value)} {xs:List α} (h:Els E w F css xs):Els E w (fun b=>F b∧b<w.heap.size) css xs:=⟨h.1,fun i cs x h1 h2=>hE (h.2 i cs x h1 h2)⟩
theorem Sl.bound {α:Type} {E:Enc α} (hE:Bnd E) {w:World} {F:Blocks} {A:Option Addr} {n c:Nat} {x:List α} (h:Sl E w F A n c x):Sl E w (fun b=>F b∧b<w.heap.size) A n c x:=by
 obtain ⟨css,h1,h2,h3⟩:=h
 exact ⟨css,h1.bound,h2.bound hE,h3⟩
theorem OwnE.bound {α:Type} {E:Enc α} (hE:Bnd E) {t:TypeId} {w:World} {B:Nat} {F:Blocks} {A:Option Addr} {n c:Nat} {x:List α} (h:OwnE E t w B F A n c x):OwnE E t w B (fun b=>F b∧b<w.heap.size) A n c x:=by
 obtain ⟨css,h1,h2,h3⟩:=h
 exact ⟨css,h1,h2.bound hE,h3⟩
theorem bnd_sl {α:Type} {E:Enc α} (hE:Bnd E):Bnd (eSl E):=fun ⟨A,n,c,e,h⟩=>⟨A,n,c,e,h.bound hE⟩
theorem bnd_pair {α β:Type} {E:Enc α} {D:Enc β} (hE:Bnd E) (hD:Bnd D):Bnd (E.pair D):=fun ⟨a,b,e,h1,h2⟩=>⟨a,b,e,hE h1,hD h2⟩
theorem bnd_slF {α:Type} {E:Enc α} (hE:Bnd E):Bnd (eSlF E):=fun ⟨A,n,c,e,hf,h⟩=>⟨A,n,c,e,hf,h.bound hE⟩
theorem bnd_int:Bnd eInt:=fun h=>h
theorem bnd_str:Bnd eStr:=fun h=>h
theorem bnd_bool:Bnd eBool:=fun h=>h
theorem bnd_row:Bnd eRow:=bnd_sl flat_val.bnd
theorem bnd_sch:Bnd eSch:=bnd_pair bnd_str (bnd_pair (bnd_sl flat_col.bnd) (bnd_pair bnd_int bnd_bool))
theorem bnd_tab:Bnd eTab:=bnd_pair bnd_sch (bnd_slF bnd_row)
theorem bnd_chg:Bnd eChg:=bnd_pair bnd_str (bnd_pair bnd_int bnd_row)
theorem bnd_wrk:Bnd eWrk:=bnd_pair bnd_int (bnd_pair (bnd_sl bnd_chg) (bnd_sl flat_mrk.bnd))
theorem bnd_slT {α:Type} {E:Enc α} (hE:Bnd E):Bnd (eSlT E):=fun ⟨A,n,e,h⟩=>⟨A,n,e,h.bound hE⟩
theorem bnd_wrkT:Bnd eWrkT:=bnd_pair bnd_int (bnd_pair (bnd_slT bnd_chg) (bnd_sl flat_mrk.bnd))
def Hh (w:World) (B:Nat) (F:Blocks) (A:Option Addr) (n c:Nat) (l:List Hld):Prop:=OwnE eHld 196 w B F A n c l∧∀ b,A=some ⟨b,0,none⟩→F b
theorem Hh.ext {w w':World} {B:Nat} {F:Blocks} {A:Option Addr} {n c:Nat} {l:List Hld} (h:Hh w B F A n c l) (hb:Below w.heap.size w w'):Hh w' B F A n c l:=⟨h.1.ext hb,h.2⟩
theorem Hh.keep {w w':World} {B:Nat} {F:Blocks} {A:Option Addr} {n c:Nat} {l:List Hld} (h:Hh w B F A n c l) (k:Keep F w w'):Hh w' B F A n c l:=⟨h.1.keep k h.2 (fun _ h=>h),h.2⟩
theorem Hh.mono {w:World} {B:Nat} {F G:Blocks} {A:Option Addr} {n c:Nat} {l:List Hld} (h:Hh w B F A n c l) (k:∀ b,F b→G b):Hh w B G A n c l:=⟨h.1.mono k,fun b e=>k b (h.2 b e)⟩
theorem Hh.base {w:World} {B B':Nat} {F:Blocks} {A:Option Addr} {n c:Nat} {l:List Hld} (h:Hh w B F A n c l) (hb:B'≤B):Hh w B' F A n c l:=⟨h.1.base hb,h.2⟩
theorem Hh.len {w:World} {B:Nat} {F:Blocks} {A:Option Addr} {n c:Nat} {l:List Hld} (h:Hh w B F A n c l):l.length=n:=h.1.len
theorem Hh.sl {w:World} {B:Nat} {F:Blocks} {A:Option Addr} {n c:Nat} {l:List Hld} (h:Hh w B F A n c l):Sl eHld w F A n c l:=by
 obtain ⟨⟨css,h1,h2,h3⟩,h4⟩:=h
 refine ⟨css,?_,h2,h3⟩
 rcases RowF.of_row (F:=fun _=>True) (Row.of_own h1) (fun _ _ _=>trivial) with q|q|⟨b,off,q1,q2,q3,q4,q5⟩
 ·exact .inl q
 ·exact .inr (.inl q)
 ·refine .inr (.inr ⟨b,off,q1,q2,h4 b ?_,q4,q5⟩)
  rcases h1.2 with ⟨z,_⟩|⟨g',cap,cur,z,_⟩
  ·injection z with z;rw [z] at q1;cases q1
  ·injection z with z;rw [z] at q1 ⊢;injection q1 with q1;injection q1 with q1;rw [q1]
def NB (n:Nat) (A A2:Option Addr):Blocks:=fun b=>n≤b∧A≠some ⟨b,0,none⟩∧A2≠some ⟨b,0,none⟩
def OwnDBw (x:DBd) (B:Nat) (w':World) (A:Option Addr) (c:Nat) (A2:Option Addr) (c2:Nat) (A3:Option Addr) (c3:Nat) (A4:Option Addr) (c4:Nat):Prop :=
 OwnE eTab 153 w' B (NB B A A2) A x.1.length c x.1∧OwnE eWrkT 148 w' B (NB B A A2) A2 x.2.1.length c2 x.2.1 ∧
  Hh w' B (NB B A A2) A3 x.2.2.1.length c3 x.2.2.1∧Hh w' B (NB B A A2) A4 x.2.2.2.length c4 x.2.2.2∧∀ b,A=some ⟨b,0,none⟩→A2≠some ⟨b,0,none⟩
def OwnDB (x:DBd) (w:World) (e:Ending) (w':World):Prop:=∃ A c A2 c2 A3 c3 A4 c4,e=.returned (.agg #[.slice A x.1.length c,.slice A2 x.2.1.length c2,.slice A3 x.2.2.1.length c3,.slice A4 x.2.2.2.length c4])∧OwnDBw x w.heap.size w' A c A2 c2 A3 c3 A4 c4∧Below w.heap.size w w'
theorem OwnDB.owned {x:DBd} {w w':World} {e:Ending} (h:OwnDB x w e w'):Owned eDB x w e w':=by
 obtain ⟨A,c,A2,c2,A3,c3,A4,c4,h1,⟨h2,h3,h4,h5,_⟩,h6⟩:=h
 exact ⟨_,h1,eDB_mk (h2.sl (fun b h _=>h) (fun b h=>h.1)) (h3.loose.sl (fun b h _=>h) (fun b h=>h.1)) ((h4.sl).mono (fun b h=>h.1)) ((h5.sl).mono (fun b h=>h.1)),h6⟩
theorem oneSl (A B C D:Value) (hA:A.oneCell'=true) (hB:B.oneCell'=true) (hC:C.oneCell'=true) (hD:D.oneCell'=true):∀ u∈[A,B,C,D],u.oneCell'=true:=fun u hu=>by
 simp at hu
 rcases hu with rfl|rfl|rfl|rfl <;> assumption
theorem town_ {w:World} {F:Blocks} {cs:List Value} {x:DBd} (h:eDB.rel w F cs x) (hok:okDB x):Calls Tryz.prog 41 #[.agg cs.toArray] w (OwnDB x w):=by
 obtain ⟨A,n,c,A2,n2,c2,A3,n3,c3,A4,n4,c4,rfl,h1,h2,h3,h4⟩:=eDB_inv h
 have HS1:=Lib.hid h1
 have HS2:=Lib.hid h2
 have HS3:=Lib.hid h3
 have HS4:=Lib.hid h4
 have hn3:n3≤1000:=by have:=h3.len;have:=hok.2.2.2.2.1;omega
 have hn4:n4≤1000:=by have:=h4.len;have:=hok.2.2.2.2.2;omega
 have HOK:=Lib.hid hok
 clear h h1 h2 h3 h4 hok
 go_enter Tryz.func41,Tryz.ntmps41
 go_upto_region 1 with fail
 obtain ⟨W,hW_,hb1,B1,B2⟩:=al2 w 43 43 #[.slice A n c,.slice A2 n2 c2,.slice A3 n3 c3,.slice A4 n4 c4] #[.slice none 0 0,.slice none 0 0,.slice none 0 0,.slice none 0 0]
 rw [←hW_]
 clear hW_
 obtain ⟨g2,hg2⟩:∃ g,w.heap.size+1=g:=⟨_,rfl⟩
 have hg2n:w.heap.size<g2:=by omega
 rw [hg2] at B2 ⊢
 clear hg2
 have D:∀ w',Below W.heap.size W.drew w'→w'.cell? ⟨w.heap.size,0,none⟩=some (.slice A n c)∧w'.cell? ⟨w.heap.size,1,none⟩=some (.slice A2 n2 c2)∧w'.cell? ⟨w.heap.size,2,none⟩=some (.slice A3 n3 c3)∧w'.cell? ⟨w.heap.size,3,none⟩=some (.slice A4 n4 c4):=fun w' h=>⟨(B1.ext (Below.trans (Below.refl _ _).drew h)).cell 0,(B1.ext (Below.trans (Below.refl _ _).drew h)).cell 1,(B1.ext (Below.trans (Below.refl _ _).drew h)).cell 2,(B1.ext (Below.trans (Below.refl _ _).drew h)).cell 3⟩
 refine wp_region_tail (S:=fun w'=>Below W.heap.size W.drew w') [(0,true),(1,true),(3,true),(4,true),(6,true),(7,true),(8,true),(10,true),(11,true),(12,true),(2,false),(5,false),(9,false),(13,false)] [(14,true),(15,true),(16,false)] (by kernel_rfl) (by kernel_rfl) (Below.refl _ _) ?_
 repeat ((with_reducible refine pG ?_);(first|refine pT ?_|refine pF ?_);try go_frame)
 have HF:=Lib.hid (teachTab (HS1.out.ext hb1.drew) HOK.out.1 HOK.out.2.1)
 refine pD fun K hK=>?_;go_simp
 refine HF.out.mono ?_
 rintro e w3 ⟨A5,c5,rfl,ho5,hb3⟩
 have H5:=Lib.hid ho5
 have ho5:=Lib.hid ho5
 refine hK.out _ _ hb3 ?_
 clear hK K HF D
 have hbw3:=hb1.drew.trans (Below.mono hb3 hb1.size)
 have HF:=Lib.hid (teachWrk (HS2.out.ext hbw3) HOK.out.2.2.1 HOK.out.2.2.2.1)
 refine pD fun K hK=>?_;go_simp
 refine HF.out.mono ?_
 rintro e w4 ⟨A6,c6,rfl,ho6,hb4⟩
 have H6:=Lib.hid ho6
 have ho6:=Lib.hid ho6
 have hd4:=hb3.trans (Below.mono hb4 hb3.size)
 refine hK.out _ _ hd4 ?_
 clear hK K HF
 have hbw4:=hbw3.trans (Below.mono hb4 hbw3.size)
 have HF:=Lib.hid (copyH (HS3.out.ext hbw4) (by omega))
 refine pD fun K hK=>?_;go_simp
 refine HF.out.mono ?_
 rintro e w5 ⟨A7,c7,rfl,ho7,hb5⟩
 have H7:=Lib.hid ho7
 clear ho7
 have hd5:=hd4.trans (Below.mono hb5 hd4.size)
 refine hK.out _ _ hd5 ?_
 clear hK K HF
 have hbw5:=hbw4.trans (Below.mono hb5 hbw4.size)
 have HF:=Lib.hid (copyH (HS4.out.ext hbw5) (by omega))
 refine pD fun K hK=>?_;go_simp
 refine HF.out.mono ?_
 rintro e w6 ⟨A8,c8,rfl,ho8,hb6⟩
 have H8:=Lib.hid ho8
 clear ho8
 have hd6:=hd5.trans (Below.mono hb6 hd5.size)
 refine hK.out _ _ hd6 ?_
 clear hK K HF
 have hbw6:=hbw5.trans (Below.mono hb6 hbw5.size)
 refine wpTail_done ?_
 repeat ((with_reducible refine pG ?_);(first|refine pT ?_|refine pF ?_);try go_frame)
 have H5:=Lib.hid (((H5.out.bound bnd_tab).ext hb4).ext (hb5.trans (Below.mono hb6 hb5.size)))
 have H6:=Lib.hid ((H6.out.bound bnd_wrkT).ext (hb5.trans (Below.mono hb6 hb5.size)))
 have H7:=Lib.hid ((show Hh w5 w4.heap.size (fun b=>w4.heap.size≤b) A7 _ c7 _ from ⟨H7.out.mono (fun b h=>h.1),fun b e=>(H7.out.lt e).1⟩).ext hb6)
 have H8:=Lib.hid (show Hh w6 w4.heap.size (fun b=>w4.heap.size≤b) A8 _ c8 _ from ⟨(H8.out.mono (fun b h=>Nat.le_trans hb5.size h.1)).base hb5.size,fun b e=>Nat.le_trans hb5.size (H8.out.lt e).1⟩)
 have hW:w.heap.size≤W.heap.size:=hb1.size
 have h3:W.heap.size≤w3.heap.size:=hb3.size
 have h4:w3.heap.size≤w4.heap.size:=hb4.size
 have l5:∀ b,A5=some ⟨b,0,none⟩→b<w3.heap.size:=fun b h=>(ho5.out.lt h).2
 have l6:∀ b,A6=some ⟨b,0,none⟩→w3.heap.size≤b∧b<w4.heap.size:=fun b h=>ho6.out.lt h
 have B26:=B2.ext (Below.trans (Below.refl _ _).drew hd6)
 have hsz:(Tryz.prog.info? 43).map (·.size)=some 4:=by kernel_rfl
 obtain ⟨cz,hcz⟩:∃ z,z=([.slice A5 x.1.length c5,.slice A6 x.2.1.length c6,.slice A7 x.2.2.1.length c7,.slice A8 x.2.2.2.length c8]:List Value):=⟨_,rfl⟩
 have hczl:cz.length=4:=by rw [hcz];rfl
 have hone:∀ u∈cz,u.oneCell'=true:=by rw [hcz];exact oneSl _ _ _ _ rfl rfl rfl rfl
 have hth:=Blk.there (o:=0) (n:=4) B26 (by simp)
 refine wpPerm_do rfl (wanted_free rfl) (fun K hK=>?_)
 refine wp_store_wide 43 (.tmp 2) (.tmp 18) rfl rfl g2 0 cz rfl (by rw [hcz];rfl) (by rw [hczl];exact hth) (by rw [hczl];exact hsz) hone ?_
 refine hK.out _ _ trivial (wpPerm_done ?_)
 clear hK K
 obtain ⟨B8,hg8⟩:=Blk.lay cz 0 B26 (by rw [hczl];simp)
 rw [laid_all _ _ (by rw [hczl];rfl)] at B8
 have hbw8:=hbw6.grown hg8 (Nat.le_of_lt (Nat.lt_of_lt_of_le hg2n (Nat.le_of_lt B26.lt))) (fun k hk=>by injection hk with hk;omega)
 have hg2W:g2<W.heap.size:=B2.lt
 have hk8:=Keep.grown (F:=fun b=>W.heap.size≤b) hg8 (fun g hg h=>by injection hg with hg;omega)
 have R:OwnDBw x w.heap.size (w6.setCells g2 0 cz) A5 c5 A6 c6 A7 c7 A8 c8:=by
  refine ⟨?_,?_,?_,?_,fun b h h'=>by have:=l5 b h;have:=l6 b h';omega⟩
  ·exact ((H5.out.keep hk8 (fun b h=>(H5.out.lt h).1) (fun b h=>h.1.1)).base hW).mono (fun b h=>⟨Nat.le_trans hW h.1.1,h.1.2,fun e=>by have:=l6 b e;omega⟩)
  ·exact ((H6.out.keep hk8 (fun b h=>Nat.le_trans h3 (H6.out.lt h).1) (fun b h=>Nat.le_trans h3 h.1.1)).base (Nat.le_trans hW h3)).mono (fun b h=>⟨by omega,fun e=>by have:=l5 b e;omega,h.1.2⟩)
  ·exact ((H7.out.keep (hk8.mono (fun b h=>by omega))).base (by omega)).mono (fun b h=>⟨by omega,fun e=>by have:=l5 b e;omega,fun e=>by have:=l6 b e;omega⟩)
  ·exact ((H8.out.keep (hk8.mono (fun b h=>by omega))).base (by omega)).mono (fun b h=>⟨by omega,fun e=>by have:=l5 b e;omega,fun e=>by have:=l6 b e;omega⟩)
 have HR:=Lib.hid R
 clear R H5 H6 H7 H8 hg8 hk8 l5 l6 hth B26 B2
 generalize w6.setCells g2 0 cz=w8 at *
 go_wp2
 refine bodyPost_ret (v:=.agg cz.toArray) (results_cell_row rfl _ _ g2 _ _ (0,0) _ rfl B8 Tryz.underlying43 rfl (by rw [List.size_toArray,hczl];exact hsz)) rfl ⟨A5,c5,A6,c6,A7,c7,A8,c8,by rw [hcz],HR.out,hbw8⟩
end Go.Proofs.YtgbcdkmjcokclaaGreat.tp
namespace Go.Proofs.YtgbcdkmjcokclaaGreat.val
open Go.ChangeShapes Go.WideShapes Go.ChangeAt Go.RowKit Go.Proofs.YtgbcdkmjcokclaaGreat.lib
theorem isnan (a:Int) (w:World):Calls Tryz.prog 234 #[.int .i64 a] w fun e w'=>e=.returned (.bool false)∧w=w':=by
 go_enter Tryz.func234,Tryz.ntmps234
 go_wp2
 go_ret
 exact ⟨by simp,rfl⟩
def ord (a b:Int):Int:=if a<b then -1 else if b<a then 1 else 0
theorem cmpInt (a b:Int) (w:World):Calls Tryz.prog 210 #[.int .i64 a,.int .i64 b] w fun e w'=>e=.returned (.int .i64 (ord a b))∧w=w':=by
 unfold ord
 go_enter Tryz.func210,Tryz.ntmps210
 go_wp2_with (go_at_call 234;refine (isnan _ _).mono ?_;rintro e w' ⟨rfl,rfl⟩)
 all_goals go_ret
 all_goals exact ⟨by simp [*],rfl⟩
theorem cmpStr0 (a b:ByteArray) (w:World):Calls Tryz.prog 204 #[.string a,.string b] w fun e w'=>e=.returned (.int .i64 (Lib.compareBytes a.data.toList b.data.toList))∧w=w':=by
 go_enter Tryz.func204,Tryz.ntmps204
 go_wp2_with fail
 rw [run_callFunc_extern Tryz.func232 (by kernel_rfl) (by kernel_rfl) (by kernel_rfl) (e:=Extern.BytealgCompare.compare) (by kernel_rfl),Lib.run_compareString]
 simp only [Result.andThen]
 rw [Oper.upon_value]
 go_wp2
 go_ret
 exact ⟨rfl,rfl⟩
theorem cmpStr (a b:ByteArray) (w:World):Calls Tryz.prog 168 #[.string a,.string b] w fun e w'=>e=.returned (.int .i64 (Lib.compareBytes a.data.toList b.data.toList))∧w=w':=by
 go_enter Tryz.func168,Tryz.ntmps168
 go_wp2_with (go_at_call 204;refine (cmpStr0 _ _ _).mono ?_;rintro e w' ⟨rfl,rfl⟩)
 go_ret
 exact ⟨rfl,rfl⟩
def or3 (a b c:Int):Int:=if a=0 then (if b=0 then c else b) else a
theorem cmpOr (g:Nat) (a b c:Int) (w:World) (h:w.heap[g]? = some (.cells #[.int .i64 a,.int .i64 b,.int .i64 c] 3 (0,0))) :
  Calls Tryz.prog 209 #[.slice (some ⟨g,0,none⟩) 3 3] w fun e w'=>e=.returned (.int .i64 (or3 a b c))∧w=w':=by
 have c0:w.cell? ⟨g,0,none⟩=some (.int .i64 a):=by simpa using cell_of_row w g 0 _ _ _ h
 have c1:w.cell? ⟨g,1,none⟩=some (.int .i64 b):=by simpa using cell_of_row w g 1 _ _ _ h
 have c2:w.cell? ⟨g,2,none⟩=some (.int .i64 c):=by simpa using cell_of_row w g 2 _ _ _ h
 clear h
 go_enter Tryz.func209,Tryz.ntmps209
 go_wp2
 refine wp_loop_rounds 4 ?_
 rw [rounds_succ]
 go_wp2
 iterate 3 (all_goals (try (rw [rounds_succ];go_wp2)))
 all_goals go_ret
 all_goals exact ⟨ret_int (by simp_all [or3]),rfl⟩
theorem compare (k n:Int) (s:ByteArray) (k' n':Int) (s':ByteArray) (w:World) :
  Calls Tryz.prog 179 #[.agg #[.int .i64 k,.int .i64 n,.string s],.agg #[.int .i64 k',.int .i64 n',.string s']] w fun e w'=>e=.returned (.int .i64 (or3 (ord k k') (ord n n') (Lib.compareBytes s.data.toList s'.data.toList)))∧Below w.heap.size w w':=by
 go_enter Tryz.func179,Tryz.ntmps179
 go_wp2_with fail
 obtain ⟨W,hW,hB,hs,c0,c1,c2,d0,d1,d2⟩:∃ W,W=(w.alloc (.cells #[.int .i64 k,.int .i64 n,.string s] 58)).alloc (.cells #[.int .i64 k',.int .i64 n',.string s'] 58) ∧
   Below w.heap.size w W∧w.heap.size+1<W.heap.size∧W.cell? ⟨w.heap.size,0,none⟩=some (.int .i64 k)∧W.cell? ⟨w.heap.size,1,none⟩=some (.int .i64 n)∧W.cell? ⟨w.heap.size,2,none⟩=some (.string s) ∧
   W.cell? ⟨w.heap.size+1,0,none⟩=some (.int .i64 k')∧W.cell? ⟨w.heap.size+1,1,none⟩=some (.int .i64 n')∧W.cell? ⟨w.heap.size+1,2,none⟩=some (.string s') :=
  ⟨_,rfl,((Below.refl _ _).alloc (Nat.le_refl _) _).alloc (by simp) _,by simp,by simp [go_sem],by simp [go_sem],by simp [go_sem],by simp [go_sem],by simp [go_sem],by simp [go_sem]⟩
 rw [←hW]
 clear hW
 go_region_held3 (fun w'=>w'.cell? ⟨w.heap.size,0,none⟩=some (.int .i64 k)∧w'.cell? ⟨w.heap.size,1,none⟩=some (.int .i64 n)∧w'.cell? ⟨w.heap.size,2,none⟩=some (.string s) ∧
   w'.cell? ⟨w.heap.size+1,0,none⟩=some (.int .i64 k')∧w'.cell? ⟨w.heap.size+1,1,none⟩=some (.int .i64 n')∧w'.cell? ⟨w.heap.size+1,2,none⟩=some (.string s')) (go_keep)
  ((first
   | (go_at_call 210;refine (cmpInt _ _ _).mono ?_;rintro e w' ⟨rfl,rfl⟩)
   | (go_at_call 168;refine (cmpStr _ _ _).mono ?_;rintro e w' ⟨rfl,rfl⟩)
   | (go_at_call 209;refine (cmpOr _ _ _ _ _ (by exact heap_alloc_new W _)).mono ?_;rintro e w' ⟨rfl,rfl⟩)))
 go_wp2
 go_ret
 exact ⟨rfl,(hB.alloc (by omega) _).drew⟩
end Go.Proofs.YtgbcdkmjcokclaaGreat.val
namespace Go.Proofs.YtgbcdkmjcokclaaGreat.tp
open Go.ChangeShapes Go.WideShapes Go.ChangeAt Go.RowKit Go.Proofs.YtgbcdkmjcokclaaGreat.lib Go.Proofs.YtgbcdkmjcokclaaGreat.val
def posG {α:Type} (f:α→Int) (x:List α):Nat:=(x.takeWhile fun r=>decide (f r<0)).length
def isG {α:Type} (f:α→Int) (x:List α):Bool:=match x[posG f x]? with
 | some r=>(f r == 0)
 | none=>false
def Mono {α:Type} (f:α→Int) (x:List α):Prop:=∀ (i j:Nat) r r',i≤j→x[i]? = some r→x[j]? = some r'→f r'<0→f r<0
theorem posG_le {α:Type} (f:α→Int) (x:List α):posG f x≤x.length:=(List.takeWhile_sublist _).length_le
theorem posG_unique {α:Type} {f:α→Int}:∀ {x:List α} {n:Nat},n≤x.length→(∀ i r,i<n→x[i]? = some r→f r<0)→(∀ r,x[n]? = some r→¬f r<0)→posG f x=n
 | [],n,hn,_,_=>by simp at hn;subst hn;rfl
 | y::x,0,_,_,h=>by
  have:=h y rfl
  unfold posG
  rw [List.takeWhile_cons_of_neg (by simpa using this)]
  rfl
 | y::x,n+1,hn,h1,h2=>by
  have h0:=h1 0 y (Nat.succ_pos _) rfl
  have ih:=posG_unique (f:=f) (x:=x) (n:=n) (by simpa using hn) (fun i r hi hr=>h1 (i+1) r (by omega) (by simpa using hr)) (fun r hr=>h2 r (by simpa using hr))
  unfold posG at ih ⊢
  rw [List.takeWhile_cons_of_pos (by simpa using h0),List.length_cons,ih]
def cmpT (k:ByteArray) (t:Tab):Int:=Lib.compareBytes t.1.1.data.toList k.data.toList
def cmpW (k:Int) (y:Wrk):Int:=y.1 - k
theorem tcmp_ {w:World} {F:Blocks} (k:ByteArray) (t:Tab) (cs:List Value) (h:eTab.rel w F cs t):Calls Tryz.prog 167 #[.agg cs.toArray,.string k] w fun e w'=>e=.returned (.int .i64 (cmpT k t))∧Below w.heap.size w w':=by
 obtain ⟨A,n,c,A2,n2,c2,rfl,h1,h2⟩:=eTab_inv h
 clear h h1 h2
 unfold cmpT
 go_enter Tryz.func167,Tryz.ntmps167
 go_wp2_with (go_at_call 168;refine (cmpStr _ _ _).mono ?_;rintro e w' ⟨rfl,rfl⟩)
 go_ret
 exact ⟨rfl,(Below.refl _ _).alloc (Nat.le_refl _) _⟩
theorem wcmp_ {w:World} {F:Blocks} (k:Int) (y:Wrk) (cs:List Value) (h:eWrk.rel w F cs y) (hk:-4611686018427387904≤k∧k≤4611686018427387904) (hy:-1000≤y.1∧y.1≤1000):Calls Tryz.prog 99 #[.agg cs.toArray,.int .i64 k] w fun e w'=>e=.returned (.int .i64 (cmpW k y))∧Below w.heap.size w w':=by
 obtain ⟨A,n,c,A2,n2,c2,rfl,h1,h2⟩:=eWrk_inv h
 clear h h1 h2
 obtain ⟨s,y⟩:=y
 simp only at hy ⊢
 have e1:wrap64 (s - k)=s - k:=IntWalk.wrap64_in _ ⟨by omega,by omega⟩
 have e2:IntKind.i64.wrap (s - k)=s - k:=IntWalk.i64_in _ ⟨by omega,by omega⟩
 unfold cmpW
 simp only
 go_enter Tryz.func99,Tryz.ntmps99
 go_wp2
 go_ret
 exact ⟨by simp,(Below.refl _ _).alloc (Nat.le_refl _) _⟩
theorem bsT_ {w:World} {F:Blocks} {A:Option Addr} {n c:Nat} {x:List Tab} (k:ByteArray) (h:Sl eTab w F A n c x) (hn:n≤1000) (ho:Mono (cmpT k) x) :
  Calls Tryz.prog 166 #[.slice A n c,.string k,.func (.func 167) #[] #[]] w fun e w'=>e=.returned (.tuple #[.int .i64 (posG (cmpT k) x:Nat),.bool (isG (cmpT k) x)])∧Below w.heap.size w w':=by
 have HS:=Lib.hid h
 have HN:=Lib.hid h.len
 have HO:=Lib.hid ho
 have FC:=fun (r:Tab) (w:World) (cs:List Value) (h:eTab.rel w F cs r)=>tcmp_ k r cs h
 have FC:=Lib.hid FC
 clear h ho
 go_enter Tryz.func166,Tryz.ntmps166
 go_wp2_with fail
 go_loopw [9,10] (fun i j wr=>∃ l h:Nat,i=.int .i64 l∧j=.int .i64 h∧l≤h∧h≤n∧Below w.heap.size w wr∧Hid ((∀ t r,t<l→x[t]? = some r→cmpT k r<0)∧(∀ t r,h≤t→x[t]? = some r→0≤cmpT k r))) (fun i j _=>(intOf j).toNat - (intOf i).toNat)
 case atStart=>exact ⟨0,n,rfl,rfl,Nat.zero_le _,Nat.le_refl _,Below.refl _ _,Lib.hid ⟨fun t r h=>absurd h (by omega),fun t r h hr=>by have:=(List.getElem?_eq_some_iff.1 hr).1;have:=HN.out;omega⟩⟩
 case round =>
  obtain ⟨l,h,rfl,rfl,hlh,hhn,hbw,HI⟩:=hrel
  rcases Nat.lt_or_ge l h with hlt|hge
  ·have hd:decide ((l:Int)<(h:Int))=true:=by simp;omega
   obtain ⟨m,hmi,hm1,hm2⟩:∃ m:Nat,Hid (((l:Int)+(h:Int)) / 2=(m:Int))∧l≤m∧m<h:=⟨(l+h) / 2,Lib.hid (by omega),by omega,by omega⟩
   have hmn:(m:Int)<(n:Int):=by omega
   obtain ⟨r,hx⟩:∃ r,x[m]? = some r:=⟨_,List.getElem?_eq_getElem (by rw [HN.out];omega)⟩
   obtain ⟨b,off,rfl,_,_,hb⟩:=HS.out.some_ (by omega)
   have hS:=HS.out.ext hbw
   obtain ⟨cs,hcs,hcell⟩:=hS.at_ hx
   obtain ⟨At,nt,ct,At2,nt2,ct2,rfl,_,_⟩:=eTab_inv hcs
   simp only [show eTab.k=5 from rfl] at hcell
   have q0:=hcell 0 _ rfl
   have q1:=hcell 1 _ rfl
   have q2:=hcell 2 _ rfl
   have q3:=hcell 3 _ rfl
   have q4:=hcell 4 _ rfl
   simp only [Nat.add_zero] at q0
   have HX:=Lib.hid hx
   have HF:=Lib.hid (FC.out r _ _ hcs)
   obtain ⟨p,hp⟩:∃ p,decide (cmpT k r<0)=p:=⟨_,rfl⟩
   clear hx hcs hcell hS
   go_upto_region 5 with fail
   rw [hmi.out]
   go_wp2_with fail
   refine HF.out.mono ?_
   rintro e w1 ⟨rfl,hb1⟩
   have hbw2:=Below.trans hbw (Below.mono hb1 hbw.size)
   have HP:=Lib.hid hp
   clear HF q0 q1 q2 q3 q4
   cases p with
   | true =>
    have hp1:cmpT k r<0:=by simpa using HP.out
    have HP1:=Lib.hid hp1
    go_wp2
    go_roundw
    case rel =>
     refine ⟨m+1,h,by go_num,rfl,by omega,hhn,hbw2,Lib.hid ⟨fun t r' ht hr'=>?_,HI.out.2⟩⟩
     exact HO.out t m r' r (by omega) hr' HX.out HP1.out
    case measure=>simp [intOf];omega
   | false =>
    have hp1:0≤cmpT k r:=by simpa using HP.out
    have HP1:=Lib.hid hp1
    go_wp2
    go_roundw
    case rel =>
     refine ⟨l,m,rfl,rfl,by omega,by omega,hbw2,Lib.hid ⟨HI.out.1,fun t r' ht hr'=>?_⟩⟩
     exact Int.not_lt.1 fun hc=>absurd (HO.out m t r r' ht HX.out hr' hc) (Int.not_lt.2 HP1.out)
    case measure=>simp [intOf];omega
  ·have hd:decide ((l:Int)<(h:Int))=false:=by simp;omega
   have hlh':l=h:=by omega
   subst hlh'
   have hat:posG (cmpT k) x=l:=posG_unique (by rw [HN.out];exact hhn) (fun i r hi hr=>HI.out.1 i r hi hr) (fun r hr=>Int.not_lt.2 (HI.out.2 l r (Nat.le_refl _) hr))
   have HA:=Lib.hid hat
   clear hat
   rcases Nat.lt_or_ge l n with hln|hln
   ·have hd2:decide ((l:Int)<(n:Int))=true:=by simp;omega
    have hd3:decide (l<n)=true:=by simp;omega
    have hmn:(l:Int)<(n:Int):=by omega
    obtain ⟨r,hx⟩:∃ r,x[l]? = some r:=⟨_,List.getElem?_eq_getElem (by rw [HN.out];omega)⟩
    obtain ⟨b,off,rfl,_,_,hb⟩:=HS.out.some_ (by omega)
    have hS:=HS.out.ext hbw
    obtain ⟨cs,hcs,hcell⟩:=hS.at_ hx
    obtain ⟨At,nt,ct,At2,nt2,ct2,rfl,_,_⟩:=eTab_inv hcs
    simp only [show eTab.k=5 from rfl] at hcell
    have q0:=hcell 0 _ rfl
    have q1:=hcell 1 _ rfl
    have q2:=hcell 2 _ rfl
    have q3:=hcell 3 _ rfl
    have q4:=hcell 4 _ rfl
    simp only [Nat.add_zero] at q0
    have his:isG (cmpT k) x=(cmpT k r == 0):=by
     unfold isG
     rw [HA.out,hx]
    have HIS:=Lib.hid his
    have HF:=Lib.hid (FC.out r _ _ hcs)
    obtain ⟨p,hp⟩:∃ p,(cmpT k r == 0)=p:=⟨_,rfl⟩
    clear hx his hcs hcell hS
    go_wp2_with fail
    refine HF.out.mono ?_
    rintro e w1 ⟨rfl,hb1⟩
    have HP:=Lib.hid hp
    clear HF q0 q1 q2 q3 q4
    go_wp2
    exact bodyPost_ret (v:=.tuple #[.int .i64 (l:Int),.bool p]) (by simp [results,Tryz.results166,go_sem];try rfl) rfl ⟨by rw [HA.out,HIS.out,HP.out],Below.trans hbw (Below.mono hb1 hbw.size)⟩
   ·have hd2:decide ((l:Int)<(n:Int))=false:=by simp;omega
    have hd3:decide (l<n)=false:=by simp;omega
    have his:isG (cmpT k) x=false:=by
     unfold isG
     rw [HA.out,List.getElem?_eq_none (by rw [HN.out];exact hln)]
    have HIS:=Lib.hid his
    clear his
    go_wp2
    exact bodyPost_ret (v:=.tuple #[.int .i64 (l:Int),.bool false]) (by simp [results,Tryz.results166,go_sem];try rfl) rfl ⟨by rw [HA.out,HIS.out],hbw⟩
theorem bsW_ {w:World} {F:Blocks} {A:Option Addr} {n c:Nat} {x:List Wrk} (k:Int) (h:Sl eWrk w F A n c x) (hn:n≤1000) (ho:Mono (cmpW k) x) (hk:-4611686018427387904≤k∧k≤4611686018427387904) (hs:∀ y∈x,-1000≤y.1∧y.1≤1000) :
  Calls Tryz.prog 98 #[.slice A n c,.int .i64 k,.func (.func 99) #[] #[]] w fun e w'=>e=.returned (.tuple #[.int .i64 (posG (cmpW k) x:Nat),.bool (isG (cmpW k) x)])∧Below w.heap.size w w':=by
 have HS:=Lib.hid h
 have HN:=Lib.hid h.len
 have HO:=Lib.hid ho
 have FC:=fun (r:Wrk) (w:World) (cs:List Value) (h:eWrk.rel w F cs r) (hr:r∈x)=>wcmp_ k r cs h hk (hs r hr)
 have FC:=Lib.hid FC
 clear h ho hk hs
 go_enter Tryz.func98,Tryz.ntmps98
 go_wp2_with fail
 go_loopw [9,10] (fun i j wr=>∃ l h:Nat,i=.int .i64 l∧j=.int .i64 h∧l≤h∧h≤n∧Below w.heap.size w wr∧Hid ((∀ t r,t<l→x[t]? = some r→cmpW k r<0)∧(∀ t r,h≤t→x[t]? = some r→0≤cmpW k r))) (fun i j _=>(intOf j).toNat - (intOf i).toNat)
 case atStart=>exact ⟨0,n,rfl,rfl,Nat.zero_le _,Nat.le_refl _,Below.refl _ _,Lib.hid ⟨fun t r h=>absurd h (by omega),fun t r h hr=>by have:=(List.getElem?_eq_some_iff.1 hr).1;have:=HN.out;omega⟩⟩
 case round =>
  obtain ⟨l,h,rfl,rfl,hlh,hhn,hbw,HI⟩:=hrel
  rcases Nat.lt_or_ge l h with hlt|hge
  ·have hd:decide ((l:Int)<(h:Int))=true:=by simp;omega
   obtain ⟨m,hmi,hm1,hm2⟩:∃ m:Nat,Hid (((l:Int)+(h:Int)) / 2=(m:Int))∧l≤m∧m<h:=⟨(l+h) / 2,Lib.hid (by omega),by omega,by omega⟩
   have hmn:(m:Int)<(n:Int):=by omega
   obtain ⟨r,hx⟩:∃ r,x[m]? = some r:=⟨_,List.getElem?_eq_getElem (by rw [HN.out];omega)⟩
   obtain ⟨b,off,rfl,_,_,hb⟩:=HS.out.some_ (by omega)
   have hS:=HS.out.ext hbw
   obtain ⟨cs,hcs,hcell⟩:=hS.at_ hx
   obtain ⟨At,nt,ct,At2,nt2,ct2,rfl,_,_⟩:=eWrk_inv hcs
   simp only [show eWrk.k=3 from rfl] at hcell
   have q0:=hcell 0 _ rfl
   have q1:=hcell 1 _ rfl
   have q2:=hcell 2 _ rfl
   simp only [Nat.add_zero] at q0
   have HX:=Lib.hid hx
   have HF:=Lib.hid (FC.out r _ _ hcs (List.mem_of_getElem? HX.out))
   obtain ⟨p,hp⟩:∃ p,decide (cmpW k r<0)=p:=⟨_,rfl⟩
   clear hx hcs hcell hS
   go_upto_region 5 with fail
   rw [hmi.out]
   go_wp2_with fail
   refine HF.out.mono ?_
   rintro e w1 ⟨rfl,hb1⟩
   have hbw2:=Below.trans hbw (Below.mono hb1 hbw.size)
   have HP:=Lib.hid hp
   clear HF q0 q1 q2
   cases p with
   | true =>
    have hp1:cmpW k r<0:=by simpa using HP.out
    have HP1:=Lib.hid hp1
    go_wp2
    go_roundw
    case rel =>
     refine ⟨m+1,h,by go_num,rfl,by omega,hhn,hbw2,Lib.hid ⟨fun t r' ht hr'=>?_,HI.out.2⟩⟩
     exact HO.out t m r' r (by omega) hr' HX.out HP1.out
    case measure=>simp [intOf];omega
   | false =>
    have hp1:0≤cmpW k r:=by simpa using HP.out
    have HP1:=Lib.hid hp1
    go_wp2
    go_roundw
    case rel =>
     refine ⟨l,m,rfl,rfl,by omega,by omega,hbw2,Lib.hid ⟨HI.out.1,fun t r' ht hr'=>?_⟩⟩
     exact Int.not_lt.1 fun hc=>absurd (HO.out m t r r' ht HX.out hr' hc) (Int.not_lt.2 HP1.out)
    case measure=>simp [intOf];omega
  ·have hd:decide ((l:Int)<(h:Int))=false:=by simp;omega
   have hlh':l=h:=by omega
   subst hlh'
   have hat:posG (cmpW k) x=l:=posG_unique (by rw [HN.out];exact hhn) (fun i r hi hr=>HI.out.1 i r hi hr) (fun r hr=>Int.not_lt.2 (HI.out.2 l r (Nat.le_refl _) hr))
   have HA:=Lib.hid hat
   clear hat
   rcases Nat.lt_or_ge l n with hln|hln
   ·have hd2:decide ((l:Int)<(n:Int))=true:=by simp;omega
    have hd3:decide (l<n)=true:=by simp;omega
    have hmn:(l:Int)<(n:Int):=by omega
    obtain ⟨r,hx⟩:∃ r,x[l]? = some r:=⟨_,List.getElem?_eq_getElem (by rw [HN.out];omega)⟩
    obtain ⟨b,off,rfl,_,_,hb⟩:=HS.out.some_ (by omega)
    have hS:=HS.out.ext hbw
    obtain ⟨cs,hcs,hcell⟩:=hS.at_ hx
    obtain ⟨At,nt,ct,At2,nt2,ct2,rfl,_,_⟩:=eWrk_inv hcs
    simp only [show eWrk.k=3 from rfl] at hcell
    have q0:=hcell 0 _ rfl
    have q1:=hcell 1 _ rfl
    have q2:=hcell 2 _ rfl
    simp only [Nat.add_zero] at q0
    have his:isG (cmpW k) x=(cmpW k r == 0):=by
     unfold isG
     rw [HA.out,hx]
    have HIS:=Lib.hid his
    have HF:=Lib.hid (FC.out r _ _ hcs (List.mem_of_getElem? hx))
    obtain ⟨p,hp⟩:∃ p,(cmpW k r == 0)=p:=⟨_,rfl⟩
    clear hx his hcs hcell hS
    go_wp2_with fail
    refine HF.out.mono ?_
    rintro e w1 ⟨rfl,hb1⟩
    have HP:=Lib.hid hp
    clear HF q0 q1 q2
    go_wp2
    exact bodyPost_ret (v:=.tuple #[.int .i64 (l:Int),.bool p]) (by simp [results,Tryz.results98,go_sem];try rfl) rfl ⟨by rw [HA.out,HIS.out,HP.out],Below.trans hbw (Below.mono hb1 hbw.size)⟩
   ·have hd2:decide ((l:Int)<(n:Int))=false:=by simp;omega
    have hd3:decide (l<n)=false:=by simp;omega
    have his:isG (cmpW k) x=false:=by
     unfold isG
     rw [HA.out,List.getElem?_eq_none (by rw [HN.out];exact hln)]
    have HIS:=Lib.hid his
    clear his
    go_wp2
    exact bodyPost_ret (v:=.tuple #[.int .i64 (l:Int),.bool false]) (by simp [results,Tryz.results98,go_sem];try rfl) rfl ⟨by rw [HA.out,HIS.out],hbw⟩
end Go.Proofs.YtgbcdkmjcokclaaGreat.tp
namespace Go.Proofs.YtgbcdkmjcokclaaGreat.tp
open Go.ChangeShapes Go.WideShapes Go.ChangeAt Go.RowKit Go.Proofs.YtgbcdkmjcokclaaGreat.lib
abbrev Cl (k:Nat):={ cs:List Value // cs.length=k∧∀ u∈cs,u.oneCell'=true }
def encZ {k:Nat} (x:Cl k):List Value:=x.1
theorem kZ {k:Nat} (x:Cl k):(encZ x).length=k:=x.2.1
theorem oneZ {k:Nat} (x:Cl k):∀ u∈encZ x,u.oneCell'=true:=x.2.2
theorem oneZs {k:Nat} (l:List (Cl k)):∀ u∈flatK encZ l,u.oneCell'=true:=flatK_all encZ (p:=fun u=>u.oneCell'=true) oneZ l
theorem lenZ {k:Nat} (l:List (Cl k)):(flatK encZ l).length=l.length * k:=flatK_len encZ k kZ l
theorem own_some1 {w:World} {base n c k:Nat} {e:TypeId} {A:Option Addr} {xs:List Value} (h:w.ownsRow base e k (.slice A n c) n xs) (hn:0<n):∃ g,A=some ⟨g,0,none⟩∧base≤g∧g<w.heap.size:=by
 have h0:=h
 rcases h.2 with ⟨h',_⟩|⟨g,cap,cur,h',hb,_⟩
 ·simp at h';omega
 ·simp only [Value.slice.injEq] at h'
  obtain ⟨rfl,_,_⟩:=h'
  exact ⟨g,rfl,h0.lt g rfl⟩
theorem as_cl {k:Nat}:∀ (css:List (List Value)),(∀ z∈css,z.length=k)→(∀ u∈css.flatten,u.oneCell'=true)→∃ ws:List (Cl k),ws.map encZ=css
 | [],_,_=>⟨[],rfl⟩
 | z::css,h1,h2=>by
  obtain ⟨ws,hw⟩:=as_cl css (fun y hy=>h1 y (List.mem_cons_of_mem _ hy)) (fun u hu=>h2 u (by rw [List.flatten_cons];exact List.mem_append_right _ hu))
  exact ⟨⟨z,h1 z (List.mem_cons_self ..),fun u hu=>h2 u (by rw [List.flatten_cons];exact List.mem_append_left _ hu)⟩::ws,by rw [List.map_cons,hw];rfl⟩
theorem flat_cl {k:Nat} (ws:List (Cl k)):flatK encZ ws=(ws.map encZ).flatten:=List.flatMap_def ..
theorem insert_endT (ws:List (Cl 5)) (t:Cl 5) (B:Nat) (A:Option Addr) (n c gv:Nat) (w:World) (hO:w.ownsRow B 153 5 (.slice A n c) n (flatK encZ ws)) (hw:ws.length=n) (hv:Blk w gv 153 (encZ t).toArray) (hB:B≤w.heap.size) (hn:n≤10000) :
  Calls Tryz.prog 94 #[.slice A n c,.int .i64 n,.slice (some ⟨gv,0,none⟩) 1 1] w fun e w'=>∃ A' c',e=.returned (.slice A' (n+1) c')∧w'.ownsRow B 153 5 (.slice A' (n+1) c') (n+1) (flatK encZ (ws++[t]))∧w.grownBy w' (Value.slice A n c).ownBlock:=by
 obtain ⟨i0,hi0,hy0,hy1,hy2⟩:=info_parts (P:=Tryz.prog) (e:=153) (z:=.agg #[.string ⟨#[]⟩,.slice none 0 0,.int .i64 0,.bool false,.slice none 0 0]) (size:=5) (bytes:=80) (by kernel_rfl)
 have HO:=Lib.hid hO
 have hnc:=(Row.of_own hO).le_
 have hsrc:∀ j u,(encZ t)[j]? = some u→w.cell? ((⟨gv,0,none⟩:Addr).add j)=some u:=(Row.of_blk hv (Nat.zero_le _) 1 1 (Nat.le_refl _)).src
 have hA:A=none∨∃ g,A=some ⟨g,0,none⟩:=by
  rcases hO.2 with ⟨h,_⟩|⟨g,cap,cur,h,_⟩
  ·injection h with h;exact .inl h
  ·injection h with h;exact .inr ⟨g,h⟩
 clear hO hw
 rcases hA with rfl|⟨g,rfl⟩
 ·have hn0:n=0∧c=0:=by
   rcases Row.of_own HO.out with h|⟨_,h,_⟩|⟨_,_,h,_⟩
   ·exact ⟨h.2.1,h.2.2.1⟩
   ·cases h
   ·cases h
  obtain ⟨rfl,rfl⟩:=hn0
  go_enter Tryz.func94,Tryz.ntmps94
  have hd0:(((0:Nat):Int) == ((0:Nat):Int))=true:=by simp
  have hle:=HO.out.1
  go_wp2_with (at_builtin;(refine wpList_append_own _ rfl (.tmp 23) (.tmp 24) 37 rfl B 153 i0 _ 5 80 Tryz.underlying37 hi0 hy0 hy1 hy2 rfl (by decide) _ 0 _ rfl HO.out ⟨gv,0,none⟩ 1 1 (encZ t) rfl ?a1 ?a2 ?a3 ?a4 ?a5 ?a6 ?_))
  all_goals try (case a1=>exact (kZ t).trans (by simp))
  all_goals try (case a2=>exact hsrc)
  all_goals try (case a3=>exact oneZ t)
  all_goals try (case a4=>unfold maxLen;omega)
  all_goals try (case a5=>omega)
  all_goals try (case a6=>exact hB)
  intro v' wa hown hgrow _
  obtain ⟨A',c',rfl⟩:=own_slice hown
  have HA:=Lib.hid hown
  have HG:=Lib.hid hgrow
  clear hown hgrow
  go_wp2
  go_ret
  exact ⟨A',c',rfl,by rw [flatK_append,flatK_one];simpa using HA.out,HG.out⟩
 ·by_cases hcn:c=n
  ·subst hcn
   go_enter Tryz.func94,Tryz.ntmps94
   have hd0:((c:Int) == (c:Int))=true:=by simp
   have hle:=HO.out.1
   go_wp2_with (at_builtin;(refine wpList_append_own _ rfl (.tmp 23) (.tmp 24) 37 rfl B 153 i0 _ 5 80 Tryz.underlying37 hi0 hy0 hy1 hy2 rfl (by decide) _ c _ rfl HO.out ⟨gv,0,none⟩ 1 1 (encZ t) rfl ?a1 ?a2 ?a3 ?a4 ?a5 ?a6 ?_))
   all_goals try (case a1=>exact (kZ t).trans (by simp))
   all_goals try (case a2=>exact hsrc)
   all_goals try (case a3=>exact oneZ t)
   all_goals try (case a4=>unfold maxLen;omega)
   all_goals try (case a5=>omega)
   all_goals try (case a6=>exact hB)
   intro v' wa hown hgrow _
   obtain ⟨A',c',rfl⟩:=own_slice hown
   have HA:=Lib.hid hown
   have HG:=Lib.hid hgrow
   clear hown hgrow
   go_wp2
   go_ret
   exact ⟨A',c',rfl,by rw [flatK_append,flatK_one];simpa using HA.out,HG.out⟩
  ·go_enter Tryz.func94,Tryz.ntmps94
   have hd0:((n:Int) == (n:Int))=true:=by simp
   have hle:=HO.out.1
   go_wp2_with (at_builtin;(refine wpList_append_own _ rfl (.tmp 23) (.tmp 24) 37 rfl B 153 i0 _ 5 80 Tryz.underlying37 hi0 hy0 hy1 hy2 rfl (by decide) _ n _ rfl HO.out ⟨gv,0,none⟩ 1 1 (encZ t) rfl ?a1 ?a2 ?a3 ?a4 ?a5 ?a6 ?_))
   all_goals try (case a1=>exact (kZ t).trans (by simp))
   all_goals try (case a2=>exact hsrc)
   all_goals try (case a3=>exact oneZ t)
   all_goals try (case a4=>unfold maxLen;omega)
   all_goals try (case a5=>omega)
   all_goals try (case a6=>exact hB)
   intro v' wa hown hgrow _
   obtain ⟨A',c',rfl⟩:=own_slice hown
   have HA:=Lib.hid hown
   have HG:=Lib.hid hgrow
   clear hown hgrow
   go_wp2
   go_ret
   exact ⟨A',c',rfl,by rw [flatK_append,flatK_one];simpa using HA.out,HG.out⟩
theorem insert_roomT (ws:List (Cl 5)) (t:Cl 5) (B:Nat) (g n c i gv:Nat) (w:World) (hO:w.ownsRow B 153 5 (.slice (some ⟨g,0,none⟩) n c) n (flatK encZ ws)) (hw:ws.length=n) (hv:Blk w gv 153 (encZ t).toArray) (hne:gv≠g) (hi:i<n) (hc:n+1≤c) (hn:n≤10000) :
  Calls Tryz.prog 94 #[.slice (some ⟨g,0,none⟩) n c,.int .i64 i,.slice (some ⟨gv,0,none⟩) 1 1] w fun e w'=>∃ A' c',e=.returned (.slice A' (n+1) c')∧w'.ownsRow B 153 5 (.slice A' (n+1) c') (n+1) (flatK encZ (ws.take i++t::ws.drop i))∧w.grownBy w' (some g):=by
 obtain ⟨i0,hi0,hy0,hy1,hy2⟩:=info_parts (P:=Tryz.prog) (e:=153) (z:=.agg #[.string ⟨#[]⟩,.slice none 0 0,.int .i64 0,.bool false,.slice none 0 0]) (size:=5) (bytes:=80) (by kernel_rfl)
 obtain ⟨cur,hcur,hcs,hnc,hcm,hBg,hcells⟩:=own_cells hO
 unfold maxLen at hcm
 have hov:∀ lb cb',(callFunc 169 #[.slice (some ⟨gv,0,none⟩) 1 1,.slice (some ⟨g,(i+1) * 5,none⟩) lb cb']).run Tryz.prog w=.ok (.value (.bool false)) w:=fun lb cb'=>by
  rw [run_callFunc_extern Tryz.func169 (by kernel_rfl) (by kernel_rfl) (by kernel_rfl) (e:=Extern.SlicesOverlaps.overlaps #[37,37] #[4]) (by kernel_rfl),
   Lib.run_overlaps_apart w 37 4 153 Tryz.underlying37 5 (fun w=>by simp [sizeOf,typeInfo,hi0,hy1]) ⟨gv,0,none⟩ ⟨g,(i+1) * 5,none⟩ 1 1 lb cb' hne 153 153 5 (c * 5) (by unfold World.shape?;rw [show w.heap[gv]? = some (.cells (encZ t).toArray 153 (0,0)) from hv];simp only [List.size_toArray,kZ]) (by unfold World.shape?;rw [show w.heap[g]? = some (.cells cur 153 (0,0)) from hcur];simp only [hcs]) (by omega) (hv.frozen 0) (hv.frozen 5)]
  rfl
 have hd1:((i:Int) == (n:Int))=false:=by rw [beq_eq_false_iff_ne];omega
 have hd1n:(i == n)=false:=by rw [beq_eq_false_iff_ne];omega
 have hd1e:((i:Int)=(n:Int))=False:=by rw [eq_iff_iff,iff_false];omega
 have hw1:IntKind.i64.wrap ((i:Int)+1)=(i:Int)+1:=IntWalk.i64_in _ ⟨by omega,by omega⟩
 have hb1:(0:Int)≤(i:Int)+1:=by omega
 have htn:((i:Int)+1).toNat=i+1:=by omega
 have hb2:¬(c=i+1):=by omega
 have hb3:(i:Int)≤(n:Int)+1:=by omega
 have hb5:(i:Int)+1≤(n:Int)+1:=by omega
 have hb6:i+1≤n+1:=by omega
 have hb4:¬(c=i):=by omega
 go_enter Tryz.func94,Tryz.ntmps94
 go_upto_region 15 with fail
 refine wp_region_oneS (S:=fun _=>True) [(0,true),(1,true),(2,true),(3,true),(4,true),(5,true),(6,true),(7,true),(8,false)] (by kernel_rfl) (by kernel_rfl) (by kernel_rfl) (by decide) trivial ?_
 repeat ((with_reducible refine pG ?_);(first|refine pT ?_|refine pF ?_);try go_frame)
 refine wpPerm_do rfl (wanted_free rfl) (fun K hK=>?_)
 obtain ⟨X,hXd⟩:∃ X,flatK encZ ws=X:=⟨_,rfl⟩
 rw [hXd] at hcells
 have hXl:X.length=n * 5:=by rw [←hXd,lenZ,hw]
 have hdl:(X.drop (i * 5)).length=(n - i) * 5:=by rw [List.length_drop,hXl,Nat.sub_mul]
 have hsome:∀ j,j<c * 5→(w.cell? ⟨g,j,none⟩).isSome=true:=fun j hj=>by rw [hcur.cell j,Array.getElem?_eq_getElem (by rw [hcs];exact hj)];rfl
 have hfz:∀ j,w.frozen? ⟨g,j,none⟩=false:=fun j=>hcur.frozen j
 have hmin:Nat.min (n+1 - i) (n - i)=n - i:=by simp only [Nat.min_def];split <;> omega
 have hcw:∀ a,w.drew.cell? a=w.cell? a:=fun _=>rfl
 have hfw:∀ a,w.drew.frozen? a=w.frozen? a:=fun _=>rfl
 refine wp_copy_to (.tmp 73) (.tmp 76) 37 rfl 153 i0 5 Tryz.underlying37 hi0 hy1 g _ _ _ ⟨g,i * 5,none⟩ _ _ rfl rfl (X.drop (i * 5)) ?_ ?_ ?_ ?_ ?_ ?_
 ·rw [hmin];exact hdl
 ·intro j v hj
  rw [List.getElem?_drop] at hj
  rw [Addr.add_lit,hcw]
  exact hcells _ _ hj
 ·intro j hj
  rw [hcw]
  exact hsome _ (by omega)
 ·intro j hj
  exact hfz _
 ·intro v hv
  exact oneZs ws v (by rw [hXd];exact List.mem_of_mem_drop hv)
 obtain ⟨cur1,hcur1,hcs1,hgr1⟩:=Blk.setCells (X.drop (i * 5)) ((i+1) * 5) (show Blk w.drew g 153 cur from hcur)
 obtain ⟨W1,hW1⟩:∃ W1,w.drew.setCells g ((i+1) * 5) (X.drop (i * 5))=W1:=⟨_,rfl⟩
 rw [hW1] at hcur1 hgr1 ⊢
 have hgr1:w.grownBy W1 (some g):=⟨hgr1.os,hgr1.tape,hgr1.output,hgr1.size,hgr1.block⟩
 have hv1:Blk W1 gv 153 (encZ t).toArray:=hv.grown (show w.grownBy W1 (some g) from hgr1) (by simpa using hne)
 have HW1:=Lib.hid hW1
 clear hW1
 refine hK.out _ _ trivial ?_
 clear hK K
 refine wpPerm_done ?_
 go_wp2_with (with_reducible show wpList _ _ _ (Oper.mk (some 82) _ _ _ _ _::_) _ _;(refine wpList_copy_to rfl (.tmp 80) (.tmp 81) 37 rfl 153 i0 5 Tryz.underlying37 hi0 hy1 g _ _ _ ⟨gv,0,none⟩ _ _ rfl rfl (encZ t) ?b1 ?b2 ?b3 ?b4 ?b5 ?_))
 case b1=>rw [show Nat.min 1 (n+1 - i)=1 by simp only [Nat.min_def];split <;> omega];exact (kZ t).trans (by simp)
 case b2=>exact (Row.of_blk hv1 (Nat.zero_le _) 1 1 (Nat.le_refl _)).src
 case b3 =>
  intro j hj
  have hj7:j<5:=by have:=kZ t;omega
  rw [hcur1.cell (i * 5+j),Array.getElem?_eq_getElem (by rw [hcs1,hcs];omega)]
  rfl
 case b4=>exact fun j hj=>hcur1.frozen _
 case b5=>exact oneZ t
 obtain ⟨cur2,hcur2,hcs2,hgr2⟩:=Blk.setCells (encZ t) (i * 5) hcur1
 have hins:=ins_cells (w:=w.drew) (g:=g) X (encZ t) (i * 5) (by omega) (fun j u hj=>hcells j u hj) (fun j hj=>by
  have h7:(encZ t).length=5:=kZ t
  rw [hcw]
  exact hsome _ (by omega))
 rw [show i * 5+(encZ t).length=(i+1) * 5 by rw [show (encZ t).length=5 from kZ t];omega,HW1.out] at hins
 have hxs:flatK encZ (ws.take i++t::ws.drop i)=X.take (i * 5)++(encZ t++X.drop (i * 5)):=by
  rw [←hXd,flatK_append,flatK_take encZ 5 kZ,flatK_drop encZ 5 kZ]
  rfl
 have hOwn:=own_of_cells (size:=5) (n:=n+1) (c:=c) (B:=B) hBg hcur2 (by rw [hcs2,hcs1,hcs]) hc (by unfold maxLen;omega) (xs:=flatK encZ (ws.take i++t::ws.drop i)) (by rw [lenZ];simp;omega) (by rw [hxs];exact hins)
 have HOwn:=Lib.hid hOwn
 have hgr:=grown_trans hgr1 hgr2
 clear hOwn hins hxs
 go_ret
 exact ⟨_,c,rfl,HOwn.out,hgr⟩
theorem insert_growT (ws:List (Cl 5)) (t:Cl 5) (B:Nat) (g n c i gv:Nat) (w:World) (hO:w.ownsRow B 153 5 (.slice (some ⟨g,0,none⟩) n c) n (flatK encZ ws)) (hw:ws.length=n) (hv:Blk w gv 153 (encZ t).toArray) (hi:i<n) (hc:c<n+1) (hn:n≤10000) (hB:B≤w.heap.size) :
  Calls Tryz.prog 94 #[.slice (some ⟨g,0,none⟩) n c,.int .i64 i,.slice (some ⟨gv,0,none⟩) 1 1] w fun e w'=>∃ A' c',e=.returned (.slice A' (n+1) c')∧w'.ownsRow B 153 5 (.slice A' (n+1) c') (n+1) (flatK encZ (ws.take i++t::ws.drop i))∧w.grownBy w' (some g):=by
 obtain ⟨i0,hi0,hy0,hy1,hy2⟩:=info_parts (P:=Tryz.prog) (e:=153) (z:=.agg #[.string ⟨#[]⟩,.slice none 0 0,.int .i64 0,.bool false,.slice none 0 0]) (size:=5) (bytes:=80) (by kernel_rfl)
 obtain ⟨cur,hcur,hcs,hnc,hcm,hBg,hcells⟩:=own_cells hO
 obtain rfl:n=c:=by omega
 obtain ⟨X,hXd⟩:∃ X,flatK encZ ws=X:=⟨_,rfl⟩
 rw [hXd] at hcells
 have hXl:X.length=n * 5:=by rw [←hXd,lenZ,hw]
 have htl:(X.take (i * 5)).length=i * 5:=by rw [List.length_take,hXl];omega
 have hdl:(X.drop (i * 5)).length=(n - i) * 5:=by rw [List.length_drop,hXl,Nat.sub_mul]
 have hsub:(n:Int)+1 - (i:Int)=((n+1 - i:Nat):Int):=by omega
 obtain ⟨gc,hgc⟩:∃ gc,grownCap w (n+1) n 153=gc:=⟨_,rfl⟩
 have hgc1:n+1≤gc:=by rw [←hgc];exact grownCap_ge w (n+1) n 153
 have hgc2:gc≤maxLen:=by rw [←hgc];exact grownCap_le_maxLen w (n+1) n 153 (by unfold maxLen;omega)
 obtain ⟨Z,hZ,hZs⟩:∃ Z:Value,i0.zero=some Z∧Z.cells.size=5:=⟨_,hy0,rfl⟩
 obtain ⟨CS,hCS⟩:∃ CS,((X.take (i * 5)).toArray++Builtin.zeroCells Z.cells (n+1 - i)++Builtin.zeroCells Z.cells (gc - (n+1)))=CS:=⟨_,rfl⟩
 have hCSl:CS.size=gc * 5:=by
  rw [←hCS,Array.size_append,Array.size_append,size_zeroCells,size_zeroCells,List.size_toArray,htl,hZs]
  omega
 have hCSx:∀ (j:Nat) u,(X.take (i * 5))[j]? = some u→CS[j]? = some u:=fun j u hu=>by
  have hj:=(List.getElem?_eq_some_iff.1 hu).1
  rw [←hCS,Array.getElem?_append,if_pos (by simp;omega),Array.getElem?_append,if_pos (by simpa using hj)]
  simpa using hu
 have hrun:∀ ty,(Builtin.append_ #[37,3] ty #[.slice (some ⟨g,0,none⟩) i n,.int .i64 ((n+1 - i:Nat):Int)]).run Tryz.prog w=.ok (.slice (some ⟨w.heap.size,0,none⟩) (n+1) gc) (w.drew.alloc (.cells CS 153)):=fun ty=>by
  have h:=run_append_zeros (P:=Tryz.prog) w 37 3 ty 153 i0 _ .i64 .i64 Tryz.underlying37 Tryz.underlying3 hi0 hZ ⟨g,0,none⟩ i n (X.take (i * 5)) (by rw [htl,hy1]) (fun j v hj=>by
   rw [Addr.add_lit,Nat.zero_add]
   have hj2:=(List.getElem?_eq_some_iff.1 hj).1
   rw [List.getElem?_take,if_pos (by omega)] at hj
   exact hcells j v hj) (n+1 - i) (by omega) (by omega) (by omega) (by omega) (by rw [hy2];omega) (by rw [hy2];exact growslice_fits (by omega) (by omega))
  rw [show i+(n+1 - i)=n+1 by omega,hgc,hCS] at h
  exact h
 have hd1:((i:Int) == (n:Int))=false:=by rw [beq_eq_false_iff_ne];omega
 have hd1n:(i == n)=false:=by rw [beq_eq_false_iff_ne];omega
 have hd1e:((i:Int)=(n:Int))=False:=by rw [eq_iff_iff,iff_false];omega
 have hw0:IntKind.i64.wrap ((n:Int)+1)=(n:Int)+1:=IntWalk.i64_in _ ⟨by omega,by omega⟩
 have hw2:IntKind.i64.wrap ((n:Int)+1 - (i:Int))=(n:Int)+1 - (i:Int):=IntWalk.i64_in _ ⟨by omega,by omega⟩
 have hw1:IntKind.i64.wrap ((i:Int)+1)=(i:Int)+1:=IntWalk.i64_in _ ⟨by omega,by omega⟩
 have hb0:(i:Int)≤(n:Int):=by omega
 have hb1:(0:Int)≤(i:Int)+1:=by omega
 have htn:((i:Int)+1).toNat=i+1:=by omega
 have hb2:¬(gc=i+1):=by omega
 have hb3:(i:Int)≤(n:Int)+1:=by omega
 have hb5:(i:Int)+1≤(n:Int)+1:=by omega
 have hb6:i+1≤n+1:=by omega
 have hb4:¬(gc=i):=by omega
 have hb7:¬(n=i):=by omega
 go_enter Tryz.func94,Tryz.ntmps94
 go_upto_region 10 with (at_builtin;(refine Lib.wpList_append_run _ rfl _ _ _ _ rfl _ _ rfl rfl _ _ (hrun _) ?_))
 obtain ⟨W1,hW1⟩:∃ W1,(w.alloc (.cells CS 153)).drew=W1:=⟨_,rfl⟩
 obtain ⟨gn,hgn⟩:∃ gn,w.heap.size=gn:=⟨_,rfl⟩
 have hbW1:Below w.heap.size w W1:=by rw [←hW1];exact ((Below.refl _ _).alloc (Nat.le_refl _) _).drew
 have B1:Blk W1 gn 153 CS:=by rw [←hW1,←hgn];exact Blk.new _ _ _
 have hv1:=hv.ext hbW1
 have hbW1:Below gn w W1:=hgn ▸ hbW1
 have hgw:g<gn:=by rw [←hgn];exact (Array.getElem?_eq_some_iff.1 hcur).1
 have hgvw:gv<gn:=by rw [←hgn];exact (Array.getElem?_eq_some_iff.1 hv).1
 have hcells1:∀ (j:Nat) u,X[j]? = some u→W1.cell? ⟨g,j,none⟩=some u:=fun j u hu=>(World.cell?_of_block (hbW1.block g hgw)).trans (hcells j u hu)
 rw [hW1,hgn]
 clear hW1
 go_wp2_with (with_reducible show wpList _ _ _ (Oper.mk (some 45) _ _ _ _ _::_) _ _;(refine wpList_copy_to rfl (.tmp 43) (.tmp 44) 37 rfl 153 i0 5 Tryz.underlying37 hi0 hy1 gn _ _ _ ⟨gv,0,none⟩ _ _ rfl rfl (encZ t) ?b1 ?b2 ?b3 ?b4 ?b5 ?_))
 case b1=>rw [show Nat.min 1 (n+1 - i)=1 by simp only [Nat.min_def];split <;> omega];exact (kZ t).trans (by simp)
 case b2=>exact (Row.of_blk hv1 (Nat.zero_le _) 1 1 (Nat.le_refl _)).src
 case b3 =>
  intro j hj
  have hj7:j<5:=by have:=kZ t;omega
  rw [B1.cell (i * 5+j),Array.getElem?_eq_getElem (by rw [hCSl];omega)]
  rfl
 case b4=>exact fun j hj=>B1.frozen _
 case b5=>exact oneZ t
 obtain ⟨cur2,hcur2,hcs2,hgr2⟩:=Blk.setCells (encZ t) (i * 5) B1
 obtain ⟨W2,hW2⟩:∃ W2,W1.setCells gn (i * 5) (encZ t)=W2:=⟨_,rfl⟩
 rw [hW2] at hcur2 hgr2 ⊢
 have HW2:=Lib.hid hW2
 have hcells2:∀ (j:Nat) u,X[j]? = some u→W2.cell? ⟨g,j,none⟩=some u:=fun j u hu=>by
  rw [←hW2,World.cell?_setCells_out _ _ _ _ _ (fun h _=>absurd h (by show g≠gn;omega))]
  exact hcells1 j u hu
 clear hW2
 simp only [Act.put,List.setIfInBounds_toArray,List.set_cons_zero,List.set_cons_succ]
 refine wp_region_oneS (S:=fun _=>True) [(0,true),(1,true),(2,true),(3,true),(4,true),(5,true),(6,true),(7,true),(8,false)] (by kernel_rfl) (by kernel_rfl) (by kernel_rfl) (by decide) trivial ?_
 repeat ((with_reducible refine pG ?_);(first|refine pT ?_|refine pF ?_);try go_frame)
 refine wpPerm_do rfl (wanted_free rfl) (fun K hK=>?_)
 refine wp_copy_to (.tmp 50) (.tmp 53) 37 rfl 153 i0 5 Tryz.underlying37 hi0 hy1 gn _ _ _ ⟨g,i * 5,none⟩ _ _ rfl rfl (X.drop (i * 5)) ?_ ?_ ?_ ?_ ?_ ?_
 ·rw [show Nat.min (n - i) (n - i)=n - i by simp];exact hdl
 ·intro j v hj
  rw [List.getElem?_drop] at hj
  rw [Addr.add_lit]
  exact hcells2 _ _ hj
 ·intro j hj
  show (W2.cell? _).isSome=true
  rw [hcur2.cell _,Array.getElem?_eq_getElem (by rw [hcs2,hCSl];omega)]
  rfl
 ·intro j hj
  exact hcur2.frozen _
 ·intro v hv
  exact oneZs ws v (by rw [hXd];exact List.mem_of_mem_drop hv)
 obtain ⟨cur3,hcur3,hcs3,hgr3⟩:=Blk.setCells (X.drop (i * 5)) ((i+1) * 5) (show Blk W2.drew gn 153 cur2 from hcur2)
 have hins:=ins_cells2 (w:=W1) (v:=W2.drew) (g:=gn) X (encZ t) (i * 5) (by omega) (fun j u hu=>by rw [B1.cell j];exact hCSx j u hu) (fun j hj=>by
  have h7:(encZ t).length=5:=kZ t
  rw [B1.cell j,Array.getElem?_eq_getElem (by rw [hCSl];omega)]
  rfl) (fun a=>by rw [HW2.out];rfl)
 rw [show i * 5+(encZ t).length=(i+1) * 5 by rw [show (encZ t).length=5 from kZ t];omega] at hins
 have hxs:flatK encZ (ws.take i++t::ws.drop i)=X.take (i * 5)++(encZ t++X.drop (i * 5)):=by
  rw [←hXd,flatK_append,flatK_take encZ 5 kZ,flatK_drop encZ 5 kZ]
  rfl
 have hOwn:=own_of_cells (size:=5) (n:=n+1) (c:=gc) (B:=B) (by rw [←hgn];exact hB) hcur3 (by rw [hcs3,hcs2,hCSl]) hgc1 hgc2 (xs:=flatK encZ (ws.take i++t::ws.drop i)) (by rw [lenZ];simp;omega) (by rw [hxs];exact hins)
 have HOwn:=Lib.hid hOwn
 have hgr3:W2.grownBy (W2.drew.setCells gn ((i+1) * 5) (X.drop (i * 5))) (some gn):=⟨hgr3.os,hgr3.tape,hgr3.output,hgr3.size,hgr3.block⟩
 have hs1:gn≤W1.heap.size:=by rw [←hgn];exact hbW1.size
 have hfin:=(hbW1.grown hgr2 hs1 (fun b hb=>by injection hb with hb;omega)).grown hgr3 (Nat.le_trans hs1 hgr2.size) (fun b hb=>by injection hb with hb;omega)
 have hG:w.grownBy (W2.drew.setCells gn ((i+1) * 5) (X.drop (i * 5))) (some g):=grown_of_below (by rw [hgn];exact hfin) _
 clear hOwn hins hxs
 refine hK.out _ _ trivial ?_
 clear hK K
 refine wpPerm_done ?_
 go_wp2
 go_ret
 exact ⟨_,gc,rfl,HOwn.out,hG⟩
theorem insert_T (ws:List (Cl 5)) (t:Cl 5) (B:Nat) (A:Option Addr) (n c i gv:Nat) (w:World) (hO:w.ownsRow B 153 5 (.slice A n c) n (flatK encZ ws)) (hw:ws.length=n) (hv:Blk w gv 153 (encZ t).toArray) (hne:∀ g,A=some ⟨g,0,none⟩→gv≠g) (hi:i≤n) (hn:n≤10000) (hB:B≤w.heap.size) :
  Calls Tryz.prog 94 #[.slice A n c,.int .i64 i,.slice (some ⟨gv,0,none⟩) 1 1] w fun e w'=>∃ A' c',e=.returned (.slice A' (n+1) c')∧w'.ownsRow B 153 5 (.slice A' (n+1) c') (n+1) (flatK encZ (ws.take i++t::ws.drop i))∧w.grownBy w' (Value.slice A n c).ownBlock:=by
 by_cases h:i=n
 ·subst h
  rw [List.take_of_length_le (Nat.le_of_eq hw),List.drop_of_length_le (Nat.le_of_eq hw)]
  exact insert_endT ws t B A i c gv w hO hw hv hB hn
 ·obtain ⟨g,rfl,_,_⟩:=own_some1 hO (by omega)
  by_cases hc:n+1≤c
  ·exact insert_roomT ws t B g n c i gv w hO hw hv (hne g rfl) (by omega) hc hn
  ·exact insert_growT ws t B g n c i gv w hO hw hv (by omega) (by omega) hn hB
theorem insT {w:World} {F:Blocks} {B:Nat} {A:Option Addr} {n c i gv:Nat} {x:List Tab} {cs:List Value} {t:Tab} (hO:OwnE eTab 153 w B F A n c x) (ht:eTab.rel w F cs t) (hv:Blk w gv 153 cs.toArray) (hF:∀ g,A=some ⟨g,0,none⟩→gv≠g∧¬F g) (hi:i≤n) (hn:n≤1000) (hB:B≤w.heap.size) :
  Calls Tryz.prog 94 #[.slice A n c,.int .i64 i,.slice (some ⟨gv,0,none⟩) 1 1] w fun e w'=>∃ A' c',e=.returned (.slice A' (n+1) c')∧OwnE eTab 153 w' B F A' (n+1) c' (x.take i++t::x.drop i)∧w.grownBy w' (Value.slice A n c).ownBlock:=by
 obtain ⟨css,h1,h2,h3⟩:=hO
 obtain ⟨ws,hws⟩:=as_cl (k:=5) css (fun z hz=>h2.klen z hz) h2.ones
 have hfl:flatK encZ ws=css.flatten:=by rw [flat_cl,hws]
 have hwl:ws.length=n:=by rw [←h3,←h2.1,←hws,List.length_map]
 refine (insert_T ws ⟨cs,eTab.len ht,eTab.one ht⟩ B A n c i gv w (by rw [hfl];exact h1) hwl hv (fun g hg=>(hF g hg).1) hi (by omega) hB).mono ?_
 rintro e w' ⟨A',c',rfl,ho,hg⟩
 have hk:Keep F w w':=Keep.grown hg (fun g hg=>by
  cases A with
  | none=>cases hg
  | some a =>
   obtain ⟨g',hg',_⟩:∃ g',(some a:Option Addr)=some ⟨g',0,none⟩∧True:=by
    rcases h1.2 with ⟨h',_⟩|⟨g',cap,cur,h',hb,_⟩
    ·cases h'
    ·injection h' with h';exact ⟨g',h',trivial⟩
   have:=(hF g' hg').2
   injection hg' with hg'
   subst hg'
   injection hg with hg
   subst hg
   exact this)
 refine ⟨A',c',rfl,⟨css.take i++cs::css.drop i,?_,?_,?_⟩,hg⟩
 ·have e1:flatK encZ (ws.take i++(⟨cs,eTab.len ht,eTab.one ht⟩:Cl 5)::ws.drop i)=(css.take i++cs::css.drop i).flatten:=by
   rw [flat_cl,List.map_append,List.map_cons,List.map_take,List.map_drop,hws]
   rfl
  rw [e1] at ho
  exact ho
 ·exact Els.append ((h2.keep hk).take i) (Els.append (Els.one_ (eTab.keep ht hk)) ((h2.keep hk).drop i))
 ·simp [h3];omega
theorem insert_endW (ws:List (Cl 3)) (t:Cl 3) (B:Nat) (A:Option Addr) (n c gv:Nat) (w:World) (hO:w.ownsRow B 148 3 (.slice A n c) n (flatK encZ ws)) (hw:ws.length=n) (hv:Blk w gv 148 (encZ t).toArray) (hB:B≤w.heap.size) (hn:n≤10000) :
  Calls Tryz.prog 42 #[.slice A n c,.int .i64 n,.slice (some ⟨gv,0,none⟩) 1 1] w fun e w'=>∃ A' c',e=.returned (.slice A' (n+1) c')∧w'.ownsRow B 148 3 (.slice A' (n+1) c') (n+1) (flatK encZ (ws++[t]))∧w.grownBy w' (Value.slice A n c).ownBlock:=by
 obtain ⟨i0,hi0,hy0,hy1,hy2⟩:=info_parts (P:=Tryz.prog) (e:=148) (z:=.agg #[.int .i64 0,.slice none 0 0,.slice none 0 0]) (size:=3) (bytes:=56) (by kernel_rfl)
 have HO:=Lib.hid hO
 have hnc:=(Row.of_own hO).le_
 have hsrc:∀ j u,(encZ t)[j]? = some u→w.cell? ((⟨gv,0,none⟩:Addr).add j)=some u:=(Row.of_blk hv (Nat.zero_le _) 1 1 (Nat.le_refl _)).src
 have hA:A=none∨∃ g,A=some ⟨g,0,none⟩:=by
  rcases hO.2 with ⟨h,_⟩|⟨g,cap,cur,h,_⟩
  ·injection h with h;exact .inl h
  ·injection h with h;exact .inr ⟨g,h⟩
 clear hO hw
 rcases hA with rfl|⟨g,rfl⟩
 ·have hn0:n=0∧c=0:=by
   rcases Row.of_own HO.out with h|⟨_,h,_⟩|⟨_,_,h,_⟩
   ·exact ⟨h.2.1,h.2.2.1⟩
   ·cases h
   ·cases h
  obtain ⟨rfl,rfl⟩:=hn0
  go_enter Tryz.func42,Tryz.ntmps42
  have hd0:(((0:Nat):Int) == ((0:Nat):Int))=true:=by simp
  have hle:=HO.out.1
  go_wp2_with (at_builtin;(refine wpList_append_own _ rfl (.tmp 23) (.tmp 24) 38 rfl B 148 i0 _ 3 56 Tryz.underlying38 hi0 hy0 hy1 hy2 rfl (by decide) _ 0 _ rfl HO.out ⟨gv,0,none⟩ 1 1 (encZ t) rfl ?a1 ?a2 ?a3 ?a4 ?a5 ?a6 ?_))
  all_goals try (case a1=>exact (kZ t).trans (by simp))
  all_goals try (case a2=>exact hsrc)
  all_goals try (case a3=>exact oneZ t)
  all_goals try (case a4=>unfold maxLen;omega)
  all_goals try (case a5=>omega)
  all_goals try (case a6=>exact hB)
  intro v' wa hown hgrow _
  obtain ⟨A',c',rfl⟩:=own_slice hown
  have HA:=Lib.hid hown
  have HG:=Lib.hid hgrow
  clear hown hgrow
  go_wp2
  go_ret
  exact ⟨A',c',rfl,by rw [flatK_append,flatK_one];simpa using HA.out,HG.out⟩
 ·by_cases hcn:c=n
  ·subst hcn
   go_enter Tryz.func42,Tryz.ntmps42
   have hd0:((c:Int) == (c:Int))=true:=by simp
   have hle:=HO.out.1
   go_wp2_with (at_builtin;(refine wpList_append_own _ rfl (.tmp 23) (.tmp 24) 38 rfl B 148 i0 _ 3 56 Tryz.underlying38 hi0 hy0 hy1 hy2 rfl (by decide) _ c _ rfl HO.out ⟨gv,0,none⟩ 1 1 (encZ t) rfl ?a1 ?a2 ?a3 ?a4 ?a5 ?a6 ?_))
   all_goals try (case a1=>exact (kZ t).trans (by simp))
   all_goals try (case a2=>exact hsrc)
   all_goals try (case a3=>exact oneZ t)
   all_goals try (case a4=>unfold maxLen;omega)
   all_goals try (case a5=>omega)
   all_goals try (case a6=>exact hB)
   intro v' wa hown hgrow _
   obtain ⟨A',c',rfl⟩:=own_slice hown
   have HA:=Lib.hid hown
   have HG:=Lib.hid hgrow
   clear hown hgrow
   go_wp2
   go_ret
   exact ⟨A',c',rfl,by rw [flatK_append,flatK_one];simpa using HA.out,HG.out⟩
  ·go_enter Tryz.func42,Tryz.ntmps42
   have hd0:((n:Int) == (n:Int))=true:=by simp
   have hle:=HO.out.1
   go_wp2_with (at_builtin;(refine wpList_append_own _ rfl (.tmp 23) (.tmp 24) 38 rfl B 148 i0 _ 3 56 Tryz.underlying38 hi0 hy0 hy1 hy2 rfl (by decide) _ n _ rfl HO.out ⟨gv,0,none⟩ 1 1 (encZ t) rfl ?a1 ?a2 ?a3 ?a4 ?a5 ?a6 ?_))
   all_goals try (case a1=>exact (kZ t).trans (by simp))
   all_goals try (case a2=>exact hsrc)
   all_goals try (case a3=>exact oneZ t)
   all_goals try (case a4=>unfold maxLen;omega)
   all_goals try (case a5=>omega)
   all_goals try (case a6=>exact hB)
   intro v' wa hown hgrow _
   obtain ⟨A',c',rfl⟩:=own_slice hown
   have HA:=Lib.hid hown
   have HG:=Lib.hid hgrow
   clear hown hgrow
   go_wp2
   go_ret
   exact ⟨A',c',rfl,by rw [flatK_append,flatK_one];simpa using HA.out,HG.out⟩
theorem insert_roomW (ws:List (Cl 3)) (t:Cl 3) (B:Nat) (g n c i gv:Nat) (w:World) (hO:w.ownsRow B 148 3 (.slice (some ⟨g,0,none⟩) n c) n (flatK encZ ws)) (hw:ws.length=n) (hv:Blk w gv 148 (encZ t).toArray) (hne:gv≠g) (hi:i<n) (hc:n+1≤c) (hn:n≤10000) :
  Calls Tryz.prog 42 #[.slice (some ⟨g,0,none⟩) n c,.int .i64 i,.slice (some ⟨gv,0,none⟩) 1 1] w fun e w'=>∃ A' c',e=.returned (.slice A' (n+1) c')∧w'.ownsRow B 148 3 (.slice A' (n+1) c') (n+1) (flatK encZ (ws.take i++t::ws.drop i))∧w.grownBy w' (some g):=by
 obtain ⟨i0,hi0,hy0,hy1,hy2⟩:=info_parts (P:=Tryz.prog) (e:=148) (z:=.agg #[.int .i64 0,.slice none 0 0,.slice none 0 0]) (size:=3) (bytes:=56) (by kernel_rfl)
 obtain ⟨cur,hcur,hcs,hnc,hcm,hBg,hcells⟩:=own_cells hO
 unfold maxLen at hcm
 have hov:∀ lb cb',(callFunc 103 #[.slice (some ⟨gv,0,none⟩) 1 1,.slice (some ⟨g,(i+1) * 3,none⟩) lb cb']).run Tryz.prog w=.ok (.value (.bool false)) w:=fun lb cb'=>by
  rw [run_callFunc_extern Tryz.func103 (by kernel_rfl) (by kernel_rfl) (by kernel_rfl) (e:=Extern.SlicesOverlaps.overlaps #[38,38] #[4]) (by kernel_rfl),
   Lib.run_overlaps_apart w 38 4 148 Tryz.underlying38 3 (fun w=>by simp [sizeOf,typeInfo,hi0,hy1]) ⟨gv,0,none⟩ ⟨g,(i+1) * 3,none⟩ 1 1 lb cb' hne 148 148 3 (c * 3) (by unfold World.shape?;rw [show w.heap[gv]? = some (.cells (encZ t).toArray 148 (0,0)) from hv];simp only [List.size_toArray,kZ]) (by unfold World.shape?;rw [show w.heap[g]? = some (.cells cur 148 (0,0)) from hcur];simp only [hcs]) (by omega) (hv.frozen 0) (hv.frozen 3)]
  rfl
 have hd1:((i:Int) == (n:Int))=false:=by rw [beq_eq_false_iff_ne];omega
 have hd1n:(i == n)=false:=by rw [beq_eq_false_iff_ne];omega
 have hd1e:((i:Int)=(n:Int))=False:=by rw [eq_iff_iff,iff_false];omega
 have hw1:IntKind.i64.wrap ((i:Int)+1)=(i:Int)+1:=IntWalk.i64_in _ ⟨by omega,by omega⟩
 have hb1:(0:Int)≤(i:Int)+1:=by omega
 have htn:((i:Int)+1).toNat=i+1:=by omega
 have hb2:¬(c=i+1):=by omega
 have hb3:(i:Int)≤(n:Int)+1:=by omega
 have hb5:(i:Int)+1≤(n:Int)+1:=by omega
 have hb6:i+1≤n+1:=by omega
 have hb4:¬(c=i):=by omega
 go_enter Tryz.func42,Tryz.ntmps42
 go_upto_region 15 with fail
 refine wp_region_oneS (S:=fun _=>True) [(0,true),(1,true),(2,true),(3,true),(4,true),(5,true),(6,true),(7,true),(8,false)] (by kernel_rfl) (by kernel_rfl) (by kernel_rfl) (by decide) trivial ?_
 repeat ((with_reducible refine pG ?_);(first|refine pT ?_|refine pF ?_);try go_frame)
 refine wpPerm_do rfl (wanted_free rfl) (fun K hK=>?_)
 obtain ⟨X,hXd⟩:∃ X,flatK encZ ws=X:=⟨_,rfl⟩
 rw [hXd] at hcells
 have hXl:X.length=n * 3:=by rw [←hXd,lenZ,hw]
 have hdl:(X.drop (i * 3)).length=(n - i) * 3:=by rw [List.length_drop,hXl,Nat.sub_mul]
 have hsome:∀ j,j<c * 3→(w.cell? ⟨g,j,none⟩).isSome=true:=fun j hj=>by rw [hcur.cell j,Array.getElem?_eq_getElem (by rw [hcs];exact hj)];rfl
 have hfz:∀ j,w.frozen? ⟨g,j,none⟩=false:=fun j=>hcur.frozen j
 have hmin:Nat.min (n+1 - i) (n - i)=n - i:=by simp only [Nat.min_def];split <;> omega
 have hcw:∀ a,w.drew.cell? a=w.cell? a:=fun _=>rfl
 have hfw:∀ a,w.drew.frozen? a=w.frozen? a:=fun _=>rfl
 refine wp_copy_to (.tmp 73) (.tmp 76) 38 rfl 148 i0 3 Tryz.underlying38 hi0 hy1 g _ _ _ ⟨g,i * 3,none⟩ _ _ rfl rfl (X.drop (i * 3)) ?_ ?_ ?_ ?_ ?_ ?_
 ·rw [hmin];exact hdl
 ·intro j v hj
  rw [List.getElem?_drop] at hj
  rw [Addr.add_lit,hcw]
  exact hcells _ _ hj
 ·intro j hj
  rw [hcw]
  exact hsome _ (by omega)
 ·intro j hj
  exact hfz _
 ·intro v hv
  exact oneZs ws v (by rw [hXd];exact List.mem_of_mem_drop hv)
 obtain ⟨cur1,hcur1,hcs1,hgr1⟩:=Blk.setCells (X.drop (i * 3)) ((i+1) * 3) (show Blk w.drew g 148 cur from hcur)
 obtain ⟨W1,hW1⟩:∃ W1,w.drew.setCells g ((i+1) * 3) (X.drop (i * 3))=W1:=⟨_,rfl⟩
 rw [hW1] at hcur1 hgr1 ⊢
 have hgr1:w.grownBy W1 (some g):=⟨hgr1.os,hgr1.tape,hgr1.output,hgr1.size,hgr1.block⟩
 have hv1:Blk W1 gv 148 (encZ t).toArray:=hv.grown (show w.grownBy W1 (some g) from hgr1) (by simpa using hne)
 have HW1:=Lib.hid hW1
 clear hW1
 refine hK.out _ _ trivial ?_
 clear hK K
 refine wpPerm_done ?_
 go_wp2_with (with_reducible show wpList _ _ _ (Oper.mk (some 82) _ _ _ _ _::_) _ _;(refine wpList_copy_to rfl (.tmp 80) (.tmp 81) 38 rfl 148 i0 3 Tryz.underlying38 hi0 hy1 g _ _ _ ⟨gv,0,none⟩ _ _ rfl rfl (encZ t) ?b1 ?b2 ?b3 ?b4 ?b5 ?_))
 case b1=>rw [show Nat.min 1 (n+1 - i)=1 by simp only [Nat.min_def];split <;> omega];exact (kZ t).trans (by simp)
 case b2=>exact (Row.of_blk hv1 (Nat.zero_le _) 1 1 (Nat.le_refl _)).src
 case b3 =>
  intro j hj
  have hj7:j<3:=by have:=kZ t;omega
  rw [hcur1.cell (i * 3+j),Array.getElem?_eq_getElem (by rw [hcs1,hcs];omega)]
  rfl
 case b4=>exact fun j hj=>hcur1.frozen _
 case b5=>exact oneZ t
 obtain ⟨cur2,hcur2,hcs2,hgr2⟩:=Blk.setCells (encZ t) (i * 3) hcur1
 have hins:=ins_cells (w:=w.drew) (g:=g) X (encZ t) (i * 3) (by omega) (fun j u hj=>hcells j u hj) (fun j hj=>by
  have h7:(encZ t).length=3:=kZ t
  rw [hcw]
  exact hsome _ (by omega))
 rw [show i * 3+(encZ t).length=(i+1) * 3 by rw [show (encZ t).length=3 from kZ t];omega,HW1.out] at hins
 have hxs:flatK encZ (ws.take i++t::ws.drop i)=X.take (i * 3)++(encZ t++X.drop (i * 3)):=by
  rw [←hXd,flatK_append,flatK_take encZ 3 kZ,flatK_drop encZ 3 kZ]
  rfl
 have hOwn:=own_of_cells (size:=3) (n:=n+1) (c:=c) (B:=B) hBg hcur2 (by rw [hcs2,hcs1,hcs]) hc (by unfold maxLen;omega) (xs:=flatK encZ (ws.take i++t::ws.drop i)) (by rw [lenZ];simp;omega) (by rw [hxs];exact hins)
 have HOwn:=Lib.hid hOwn
 have hgr:=grown_trans hgr1 hgr2
 clear hOwn hins hxs
 go_ret
 exact ⟨_,c,rfl,HOwn.out,hgr⟩
theorem insert_growW (ws:List (Cl 3)) (t:Cl 3) (B:Nat) (g n c i gv:Nat) (w:World) (hO:w.ownsRow B 148 3 (.slice (some ⟨g,0,none⟩) n c) n (flatK encZ ws)) (hw:ws.length=n) (hv:Blk w gv 148 (encZ t).toArray) (hi:i<n) (hc:c<n+1) (hn:n≤10000) (hB:B≤w.heap.size) :
  Calls Tryz.prog 42 #[.slice (some ⟨g,0,none⟩) n c,.int .i64 i,.slice (some ⟨gv,0,none⟩) 1 1] w fun e w'=>∃ A' c',e=.returned (.slice A' (n+1) c')∧w'.ownsRow B 148 3 (.slice A' (n+1) c') (n+1) (flatK encZ (ws.take i++t::ws.drop i))∧w.grownBy w' (some g):=by
 obtain ⟨i0,hi0,hy0,hy1,hy2⟩:=info_parts (P:=Tryz.prog) (e:=148) (z:=.agg #[.int .i64 0,.slice none 0 0,.slice none 0 0]) (size:=3) (bytes:=56) (by kernel_rfl)
 obtain ⟨cur,hcur,hcs,hnc,hcm,hBg,hcells⟩:=own_cells hO
 obtain rfl:n=c:=by omega
 obtain ⟨X,hXd⟩:∃ X,flatK encZ ws=X:=⟨_,rfl⟩
 rw [hXd] at hcells
 have hXl:X.length=n * 3:=by rw [←hXd,lenZ,hw]
 have htl:(X.take (i * 3)).length=i * 3:=by rw [List.length_take,hXl];omega
 have hdl:(X.drop (i * 3)).length=(n - i) * 3:=by rw [List.length_drop,hXl,Nat.sub_mul]
 have hsub:(n:Int)+1 - (i:Int)=((n+1 - i:Nat):Int):=by omega
 obtain ⟨gc,hgc⟩:∃ gc,grownCap w (n+1) n 148=gc:=⟨_,rfl⟩
 have hgc1:n+1≤gc:=by rw [←hgc];exact grownCap_ge w (n+1) n 148
 have hgc2:gc≤maxLen:=by rw [←hgc];exact grownCap_le_maxLen w (n+1) n 148 (by unfold maxLen;omega)
 obtain ⟨Z,hZ,hZs⟩:∃ Z:Value,i0.zero=some Z∧Z.cells.size=3:=⟨_,hy0,rfl⟩
 obtain ⟨CS,hCS⟩:∃ CS,((X.take (i * 3)).toArray++Builtin.zeroCells Z.cells (n+1 - i)++Builtin.zeroCells Z.cells (gc - (n+1)))=CS:=⟨_,rfl⟩
 have hCSl:CS.size=gc * 3:=by
  rw [←hCS,Array.size_append,Array.size_append,size_zeroCells,size_zeroCells,List.size_toArray,htl,hZs]
  omega
 have hCSx:∀ (j:Nat) u,(X.take (i * 3))[j]? = some u→CS[j]? = some u:=fun j u hu=>by
  have hj:=(List.getElem?_eq_some_iff.1 hu).1
  rw [←hCS,Array.getElem?_append,if_pos (by simp;omega),Array.getElem?_append,if_pos (by simpa using hj)]
  simpa using hu
 have hrun:∀ ty,(Builtin.append_ #[38,3] ty #[.slice (some ⟨g,0,none⟩) i n,.int .i64 ((n+1 - i:Nat):Int)]).run Tryz.prog w=.ok (.slice (some ⟨w.heap.size,0,none⟩) (n+1) gc) (w.drew.alloc (.cells CS 148)):=fun ty=>by
  have h:=run_append_zeros (P:=Tryz.prog) w 38 3 ty 148 i0 _ .i64 .i64 Tryz.underlying38 Tryz.underlying3 hi0 hZ ⟨g,0,none⟩ i n (X.take (i * 3)) (by rw [htl,hy1]) (fun j v hj=>by
   rw [Addr.add_lit,Nat.zero_add]
   have hj2:=(List.getElem?_eq_some_iff.1 hj).1
   rw [List.getElem?_take,if_pos (by omega)] at hj
   exact hcells j v hj) (n+1 - i) (by omega) (by omega) (by omega) (by omega) (by rw [hy2];omega) (by rw [hy2];exact growslice_fits (by omega) (by omega))
  rw [show i+(n+1 - i)=n+1 by omega,hgc,hCS] at h
  exact h
 have hd1:((i:Int) == (n:Int))=false:=by rw [beq_eq_false_iff_ne];omega
 have hd1n:(i == n)=false:=by rw [beq_eq_false_iff_ne];omega
 have hd1e:((i:Int)=(n:Int))=False:=by rw [eq_iff_iff,iff_false];omega
 have hw0:IntKind.i64.wrap ((n:Int)+1)=(n:Int)+1:=IntWalk.i64_in _ ⟨by omega,by omega⟩
 have hw2:IntKind.i64.wrap ((n:Int)+1 - (i:Int))=(n:Int)+1 - (i:Int):=IntWalk.i64_in _ ⟨by omega,by omega⟩
 have hw1:IntKind.i64.wrap ((i:Int)+1)=(i:Int)+1:=IntWalk.i64_in _ ⟨by omega,by omega⟩
 have hb0:(i:Int)≤(n:Int):=by omega
 have hb1:(0:Int)≤(i:Int)+1:=by omega
 have htn:((i:Int)+1).toNat=i+1:=by omega
 have hb2:¬(gc=i+1):=by omega
 have hb3:(i:Int)≤(n:Int)+1:=by omega
 have hb5:(i:Int)+1≤(n:Int)+1:=by omega
 have hb6:i+1≤n+1:=by omega
 have hb4:¬(gc=i):=by omega
 have hb7:¬(n=i):=by omega
 go_enter Tryz.func42,Tryz.ntmps42
 go_upto_region 10 with (at_builtin;(refine Lib.wpList_append_run _ rfl _ _ _ _ rfl _ _ rfl rfl _ _ (hrun _) ?_))
 obtain ⟨W1,hW1⟩:∃ W1,(w.alloc (.cells CS 148)).drew=W1:=⟨_,rfl⟩
 obtain ⟨gn,hgn⟩:∃ gn,w.heap.size=gn:=⟨_,rfl⟩
 have hbW1:Below w.heap.size w W1:=by rw [←hW1];exact ((Below.refl _ _).alloc (Nat.le_refl _) _).drew
 have B1:Blk W1 gn 148 CS:=by rw [←hW1,←hgn];exact Blk.new _ _ _
 have hv1:=hv.ext hbW1
 have hbW1:Below gn w W1:=hgn ▸ hbW1
 have hgw:g<gn:=by rw [←hgn];exact (Array.getElem?_eq_some_iff.1 hcur).1
 have hgvw:gv<gn:=by rw [←hgn];exact (Array.getElem?_eq_some_iff.1 hv).1
 have hcells1:∀ (j:Nat) u,X[j]? = some u→W1.cell? ⟨g,j,none⟩=some u:=fun j u hu=>(World.cell?_of_block (hbW1.block g hgw)).trans (hcells j u hu)
 rw [hW1,hgn]
 clear hW1
 go_wp2_with (with_reducible show wpList _ _ _ (Oper.mk (some 45) _ _ _ _ _::_) _ _;(refine wpList_copy_to rfl (.tmp 43) (.tmp 44) 38 rfl 148 i0 3 Tryz.underlying38 hi0 hy1 gn _ _ _ ⟨gv,0,none⟩ _ _ rfl rfl (encZ t) ?b1 ?b2 ?b3 ?b4 ?b5 ?_))
 case b1=>rw [show Nat.min 1 (n+1 - i)=1 by simp only [Nat.min_def];split <;> omega];exact (kZ t).trans (by simp)
 case b2=>exact (Row.of_blk hv1 (Nat.zero_le _) 1 1 (Nat.le_refl _)).src
 case b3 =>
  intro j hj
  have hj7:j<3:=by have:=kZ t;omega
  rw [B1.cell (i * 3+j),Array.getElem?_eq_getElem (by rw [hCSl];omega)]
  rfl
 case b4=>exact fun j hj=>B1.frozen _
 case b5=>exact oneZ t
 obtain ⟨cur2,hcur2,hcs2,hgr2⟩:=Blk.setCells (encZ t) (i * 3) B1
 obtain ⟨W2,hW2⟩:∃ W2,W1.setCells gn (i * 3) (encZ t)=W2:=⟨_,rfl⟩
 rw [hW2] at hcur2 hgr2 ⊢
 have HW2:=Lib.hid hW2
 have hcells2:∀ (j:Nat) u,X[j]? = some u→W2.cell? ⟨g,j,none⟩=some u:=fun j u hu=>by
  rw [←hW2,World.cell?_setCells_out _ _ _ _ _ (fun h _=>absurd h (by show g≠gn;omega))]
  exact hcells1 j u hu
 clear hW2
 simp only [Act.put,List.setIfInBounds_toArray,List.set_cons_zero,List.set_cons_succ]
 refine wp_region_oneS (S:=fun _=>True) [(0,true),(1,true),(2,true),(3,true),(4,true),(5,true),(6,true),(7,true),(8,false)] (by kernel_rfl) (by kernel_rfl) (by kernel_rfl) (by decide) trivial ?_
 repeat ((with_reducible refine pG ?_);(first|refine pT ?_|refine pF ?_);try go_frame)
 refine wpPerm_do rfl (wanted_free rfl) (fun K hK=>?_)
 refine wp_copy_to (.tmp 50) (.tmp 53) 38 rfl 148 i0 3 Tryz.underlying38 hi0 hy1 gn _ _ _ ⟨g,i * 3,none⟩ _ _ rfl rfl (X.drop (i * 3)) ?_ ?_ ?_ ?_ ?_ ?_
 ·rw [show Nat.min (n - i) (n - i)=n - i by simp];exact hdl
 ·intro j v hj
  rw [List.getElem?_drop] at hj
  rw [Addr.add_lit]
  exact hcells2 _ _ hj
 ·intro j hj
  show (W2.cell? _).isSome=true
  rw [hcur2.cell _,Array.getElem?_eq_getElem (by rw [hcs2,hCSl];omega)]
  rfl
 ·intro j hj
  exact hcur2.frozen _
 ·intro v hv
  exact oneZs ws v (by rw [hXd];exact List.mem_of_mem_drop hv)
 obtain ⟨cur3,hcur3,hcs3,hgr3⟩:=Blk.setCells (X.drop (i * 3)) ((i+1) * 3) (show Blk W2.drew gn 148 cur2 from hcur2)
 have hins:=ins_cells2 (w:=W1) (v:=W2.drew) (g:=gn) X (encZ t) (i * 3) (by omega) (fun j u hu=>by rw [B1.cell j];exact hCSx j u hu) (fun j hj=>by
  have h7:(encZ t).length=3:=kZ t
  rw [B1.cell j,Array.getElem?_eq_getElem (by rw [hCSl];omega)]
  rfl) (fun a=>by rw [HW2.out];rfl)
 rw [show i * 3+(encZ t).length=(i+1) * 3 by rw [show (encZ t).length=3 from kZ t];omega] at hins
 have hxs:flatK encZ (ws.take i++t::ws.drop i)=X.take (i * 3)++(encZ t++X.drop (i * 3)):=by
  rw [←hXd,flatK_append,flatK_take encZ 3 kZ,flatK_drop encZ 3 kZ]
  rfl
 have hOwn:=own_of_cells (size:=3) (n:=n+1) (c:=gc) (B:=B) (by rw [←hgn];exact hB) hcur3 (by rw [hcs3,hcs2,hCSl]) hgc1 hgc2 (xs:=flatK encZ (ws.take i++t::ws.drop i)) (by rw [lenZ];simp;omega) (by rw [hxs];exact hins)
 have HOwn:=Lib.hid hOwn
 have hgr3:W2.grownBy (W2.drew.setCells gn ((i+1) * 3) (X.drop (i * 3))) (some gn):=⟨hgr3.os,hgr3.tape,hgr3.output,hgr3.size,hgr3.block⟩
 have hs1:gn≤W1.heap.size:=by rw [←hgn];exact hbW1.size
 have hfin:=(hbW1.grown hgr2 hs1 (fun b hb=>by injection hb with hb;omega)).grown hgr3 (Nat.le_trans hs1 hgr2.size) (fun b hb=>by injection hb with hb;omega)
 have hG:w.grownBy (W2.drew.setCells gn ((i+1) * 3) (X.drop (i * 3))) (some g):=grown_of_below (by rw [hgn];exact hfin) _
 clear hOwn hins hxs
 refine hK.out _ _ trivial ?_
 clear hK K
 refine wpPerm_done ?_
 go_wp2
 go_ret
 exact ⟨_,gc,rfl,HOwn.out,hG⟩
theorem insert_W (ws:List (Cl 3)) (t:Cl 3) (B:Nat) (A:Option Addr) (n c i gv:Nat) (w:World) (hO:w.ownsRow B 148 3 (.slice A n c) n (flatK encZ ws)) (hw:ws.length=n) (hv:Blk w gv 148 (encZ t).toArray) (hne:∀ g,A=some ⟨g,0,none⟩→gv≠g) (hi:i≤n) (hn:n≤10000) (hB:B≤w.heap.size) :
  Calls Tryz.prog 42 #[.slice A n c,.int .i64 i,.slice (some ⟨gv,0,none⟩) 1 1] w fun e w'=>∃ A' c',e=.returned (.slice A' (n+1) c')∧w'.ownsRow B 148 3 (.slice A' (n+1) c') (n+1) (flatK encZ (ws.take i++t::ws.drop i))∧w.grownBy w' (Value.slice A n c).ownBlock:=by
 by_cases h:i=n
 ·subst h
  rw [List.take_of_length_le (Nat.le_of_eq hw),List.drop_of_length_le (Nat.le_of_eq hw)]
  exact insert_endW ws t B A i c gv w hO hw hv hB hn
 ·obtain ⟨g,rfl,_,_⟩:=own_some1 hO (by omega)
  by_cases hc:n+1≤c
  ·exact insert_roomW ws t B g n c i gv w hO hw hv (hne g rfl) (by omega) hc hn
  ·exact insert_growW ws t B g n c i gv w hO hw hv (by omega) (by omega) hn hB
theorem delete_W (ws:List (Cl 3)) (B g n c i:Nat) (w:World) (hO:w.ownsRow B 148 3 (.slice (some ⟨g,0,none⟩) (n+1) c) (n+1) (flatK encZ ws)) (hw:ws.length=n+1) (hi:i≤n) (hn:n≤10000) :
  Calls Tryz.prog 183 #[.slice (some ⟨g,0,none⟩) (n+1) c,.int .i64 i,.int .i64 ((i:Int)+1)] w fun e w'=>e=.returned (.slice (some ⟨g,0,none⟩) n c)∧w'.ownsRow B 148 3 (.slice (some ⟨g,0,none⟩) n c) n (flatK encZ (ws.take i++ws.drop (i+1)))∧w.grownBy w' (some g):=by
 obtain ⟨i0,hi0,hy0,hy1,hy2⟩:=info_parts (P:=Tryz.prog) (e:=148) (z:=.agg #[.int .i64 0,.slice none 0 0,.slice none 0 0]) (size:=3) (bytes:=56) (by kernel_rfl)
 obtain ⟨cur,hcur,hcs,hnc,hcm,hBg,hcells⟩:=own_cells hO
 unfold maxLen at hcm
 obtain ⟨X,hXd⟩:∃ X,flatK encZ ws=X:=⟨_,rfl⟩
 rw [hXd] at hcells
 have hXl:X.length=(n+1) * 3:=by rw [←hXd,lenZ,hw]
 have hdl:(X.drop ((i+1) * 3)).length=(n - i) * 3:=by rw [List.length_drop,hXl];omega
 have hd1:((i:Int) == (i:Int)+1)=false:=by rw [beq_eq_false_iff_ne];omega
 have hd1e:((i:Int)=(i:Int)+1)=False:=by rw [eq_iff_iff,iff_false];omega
 have hb1:(0:Int)≤(i:Int)+1:=by omega
 have htn:((i:Int)+1).toNat=i+1:=by omega
 have hb0:(i:Int)≤(n:Int):=by omega
 have hb2:(i:Int)≤(n:Int)+1:=by omega
 have hb3:(i:Int)+1≤(n:Int)+1:=by omega
 have hb4:(n:Int)+1≤(c:Int):=by omega
 have hb5:i+1≤n+1:=by omega
 have hb6:n+1≤c:=by omega
 have hb7:i≤c:=by omega
 have hb8:(i:Int)≤(c:Int):=by omega
 have hcz:c=i+1∨¬c=i+1:=Classical.em _
 obtain ⟨ad,had,hsrc⟩:∃ ad:Addr,(c=i+1∧ad=⟨g,0,none⟩∨¬c=i+1∧ad=⟨g,(i+1) * 3,none⟩)∧Hid (∀ j v,(X.drop ((i+1) * 3))[j]? = some v→w.cell? (ad.add j)=some v):=by
  rcases hcz with h|h
  ·refine ⟨_,.inl ⟨h,rfl⟩,Lib.hid fun j v hj=>?_⟩
   have h1:=(List.getElem?_eq_some_iff.1 hj).1
   omega
  ·refine ⟨_,.inr ⟨h,rfl⟩,Lib.hid fun j v hj=>?_⟩
   rw [List.getElem?_drop] at hj
   rw [Addr.add_lit]
   exact hcells _ _ hj
 clear hcz
 have hadd:(if c=i+1 then some (⟨g,0,none⟩:Addr) else some ⟨g,(i+1) * 3,none⟩)=some ad:=by
  rcases had with ⟨h,rfl⟩|⟨h,rfl⟩
  ·rw [if_pos h]
  ·rw [if_neg h]
 clear had
 have hrun:∀ ty,(Builtin.append_ #[38,38] ty #[.slice (some ⟨g,0,none⟩) i c,.slice (some ad) (n - i) (c - (i+1))]).run Tryz.prog w.drew=.ok (.slice (some ⟨g,0,none⟩) n c) (w.drew.setCells g (i * 3) (X.drop ((i+1) * 3))):=fun ty=>by
  have h:=run_append_room_cells (P:=Tryz.prog) w.drew 38 ty 148 i0 Tryz.underlying38 hi0 g 0 i c ad (n - i) (c - (i+1)) (X.drop ((i+1) * 3)) (by rw [hy1];exact hdl) (fun j u hu=>hsrc.out j u hu) (fun v hv=>oneZs ws v (by rw [hXd];exact List.mem_of_mem_drop hv)) (by omega)
   (fun j hj=>by
    show (w.cell? _).isSome=true
    rw [hy1,hcur.cell _,Array.getElem?_eq_getElem (by rw [hcs];omega)]
    rfl) (fun j hj=>hcur.frozen _)
  rw [hy1,Nat.zero_add,show i+(n - i)=n by omega] at h
  exact h
 go_enter Tryz.func183,Tryz.ntmps183
 go_upto_region 5 with fail
 refine wp_region_oneS (S:=fun _=>True) [(0,true),(1,true),(2,true),(3,true),(4,true),(5,true),(6,false),(7,true)] (by kernel_rfl) (by kernel_rfl) (by kernel_rfl) (by decide) trivial ?_
 repeat ((with_reducible refine pG ?_);(first|refine pT ?_|refine pF ?_);try go_frame)
 refine wpPerm_do rfl (wanted_free rfl) (fun K hK=>?_)
 refine Lib.wp_append_run w.drew (.tmp 22) (.tmp 25) 38 38 rfl _ _ rfl rfl _ _ (hrun _) ?_
 obtain ⟨cur1,hcur1,hcs1,hgr1⟩:=Blk.setCells (X.drop ((i+1) * 3)) (i * 3) (show Blk w.drew g 148 cur from hcur)
 obtain ⟨W1,hW1⟩:∃ W1,w.drew.setCells g (i * 3) (X.drop ((i+1) * 3))=W1:=⟨_,rfl⟩
 rw [hW1] at hcur1 hgr1 ⊢
 have hgr1:w.grownBy W1 (some g):=⟨hgr1.os,hgr1.tape,hgr1.output,hgr1.size,hgr1.block⟩
 have hdel:=del_cells (w:=w.drew) (g:=g) X (i * 3) ((i+1) * 3) (by omega) (by omega) (fun j u hj=>hcells j u hj)
 rw [hW1] at hdel
 have HDEL:=Lib.hid hdel
 clear hdel hW1
 refine hK.out _ _ trivial ?_
 clear hK K
 repeat ((with_reducible refine pG ?_);(first|refine pT ?_|refine pF ?_);try go_frame)
 refine wpPerm_done ?_
 obtain ⟨Z,ZL,hZ,hzl,hZs,hZ1⟩:∃ (Z:Value) (ZL:List Value),i0.zero=some Z∧(Builtin.zeroCells Z.cells 1).toList=ZL∧ZL.length=3∧∀ v∈ZL,v.oneCell'=true:=⟨_,_,hy0,by rw [zero_one],rfl,by
  intro v hv
  simp [Value.cells] at hv
  rcases hv with rfl|rfl|rfl|rfl|rfl <;> rfl⟩
 have hst:=run_storeCells_cells (P:=Tryz.prog) g (n * 3) ZL 0 W1 (fun j hj=>by
  rw [hcur1.cell _,Array.getElem?_eq_getElem (by rw [hcs1,hcs];omega)]
  rfl) (fun j hj=>hcur1.frozen _) hZ1
 simp only [Nat.add_zero] at hst
 have hcl:∀ ty,(Builtin.clear_ #[38] ty #[.slice (some ⟨g,n * 3,none⟩) 1 (c - n)]).run Tryz.prog W1=.ok (.tuple #[]) (W1.setCells g (n * 3) ZL):=fun ty=>by
  simp [Builtin.clear_,run_underlying Tryz.underlying38,zeroValue,typeInfo,hi0,hZ,hzl,hst]
 obtain ⟨cur2,hcur2,hcs2,hgr2⟩:=Blk.setCells ZL (n * 3) hcur1
 have hxs:flatK encZ (ws.take i++ws.drop (i+1))=X.take (i * 3)++X.drop ((i+1) * 3):=by
  rw [←hXd,flatK_append,flatK_take encZ 3 kZ,flatK_drop encZ 3 kZ]
 have hOwn:=own_of_cells (size:=3) (n:=n) (c:=c) (B:=B) hBg hcur2 (by rw [hcs2,hcs1,hcs]) (by omega) (by unfold maxLen;omega) (xs:=flatK encZ (ws.take i++ws.drop (i+1))) (by rw [lenZ];simp;omega) (fun j u hu=>by
  have hj:=(List.getElem?_eq_some_iff.1 hu).1
  rw [lenZ] at hj
  simp only [List.length_append,List.length_take,List.length_drop] at hj
  rw [World.cell?_setCells_out _ _ _ _ _ (fun _ _=>.inl (by show j<n * 3;omega))]
  rw [hxs] at hu
  exact HDEL.out j u hu)
 have HOwn:=Lib.hid hOwn
 have HG:=Lib.hid (grown_trans hgr1 hgr2)
 clear hOwn hxs hgr1 hgr2 hst hadd
 have hn1:(n:Int)≤(n:Int)+1:=by omega
 have hn2:¬(c=n):=by omega
 go_wp2
 go_ret
 exact ⟨rfl,HOwn.out,HG.out⟩
theorem insW {w:World} {F:Blocks} {B:Nat} {A:Option Addr} {n c i gv:Nat} {x:List Wrk} {cs:List Value} {t:Wrk} (hO:OwnE eWrkT 148 w B F A n c x) (ht:eWrkT.rel w F cs t) (hv:Blk w gv 148 cs.toArray) (hF:∀ g,A=some ⟨g,0,none⟩→gv≠g∧¬F g) (hi:i≤n) (hn:n≤1000) (hB:B≤w.heap.size) :
  Calls Tryz.prog 42 #[.slice A n c,.int .i64 i,.slice (some ⟨gv,0,none⟩) 1 1] w fun e w'=>∃ A' c',e=.returned (.slice A' (n+1) c')∧OwnE eWrkT 148 w' B F A' (n+1) c' (x.take i++t::x.drop i)∧w.grownBy w' (Value.slice A n c).ownBlock:=by
 obtain ⟨css,h1,h2,h3⟩:=hO
 obtain ⟨ws,hws⟩:=as_cl (k:=3) css (fun z hz=>h2.klen z hz) h2.ones
 have hfl:flatK encZ ws=css.flatten:=by rw [flat_cl,hws]
 have hwl:ws.length=n:=by rw [←h3,←h2.1,←hws,List.length_map]
 refine (insert_W ws ⟨cs,eWrkT.len ht,eWrkT.one ht⟩ B A n c i gv w (by rw [hfl];exact h1) hwl hv (fun g hg=>(hF g hg).1) hi (by omega) hB).mono ?_
 rintro e w' ⟨A',c',rfl,ho,hg⟩
 have hk:Keep F w w':=Keep.grown hg (fun g hg=>by
  cases A with
  | none=>cases hg
  | some a =>
   obtain ⟨g',hg',_⟩:∃ g',(some a:Option Addr)=some ⟨g',0,none⟩∧True:=by
    rcases h1.2 with ⟨h',_⟩|⟨g',cap,cur,h',hb,_⟩
    ·cases h'
    ·injection h' with h';exact ⟨g',h',trivial⟩
   have:=(hF g' hg').2
   injection hg' with hg'
   subst hg'
   injection hg with hg
   subst hg
   exact this)
 refine ⟨A',c',rfl,⟨css.take i++cs::css.drop i,?_,?_,?_⟩,hg⟩
 ·have e1:flatK encZ (ws.take i++(⟨cs,eWrkT.len ht,eWrkT.one ht⟩:Cl 3)::ws.drop i)=(css.take i++cs::css.drop i).flatten:=by
   rw [flat_cl,List.map_append,List.map_cons,List.map_take,List.map_drop,hws]
   rfl
  rw [e1] at ho
  exact ho
 ·exact Els.append ((h2.keep hk).take i) (Els.append (Els.one_ (eWrkT.keep ht hk)) ((h2.keep hk).drop i))
 ·simp [h3];omega
theorem delW {w:World} {F:Blocks} {B g n c i:Nat} {x:List Wrk} (hO:OwnE eWrkT 148 w B F (some ⟨g,0,none⟩) (n+1) c x) (hF:¬F g) (hi:i≤n) (hn:n≤1000) :
  Calls Tryz.prog 183 #[.slice (some ⟨g,0,none⟩) (n+1) c,.int .i64 i,.int .i64 ((i:Int)+1)] w fun e w'=>e=.returned (.slice (some ⟨g,0,none⟩) n c)∧OwnE eWrkT 148 w' B F (some ⟨g,0,none⟩) n c (x.take i++x.drop (i+1))∧w.grownBy w' (some g):=by
 obtain ⟨css,h1,h2,h3⟩:=hO
 obtain ⟨ws,hws⟩:=as_cl (k:=3) css (fun z hz=>h2.klen z hz) h2.ones
 have hfl:flatK encZ ws=css.flatten:=by rw [flat_cl,hws]
 have hwl:ws.length=n+1:=by rw [←h3,←h2.1,←hws,List.length_map]
 refine (delete_W ws B g n c i w (by rw [hfl];exact h1) hwl hi (by omega)).mono ?_
 rintro e w' ⟨rfl,ho,hg⟩
 have hk:Keep F w w':=Keep.grown hg (fun g' hg'=>by injection hg' with hg';subst hg';exact hF)
 refine ⟨rfl,⟨css.take i++css.drop (i+1),?_,?_,?_⟩,hg⟩
 ·have e1:flatK encZ (ws.take i++ws.drop (i+1))=(css.take i++css.drop (i+1)).flatten:=by
   rw [flat_cl,List.map_append,List.map_take,List.map_drop,hws]
  rw [e1] at ho
  exact ho
 ·exact Els.append ((h2.keep hk).take i) ((h2.keep hk).drop (i+1))
 ·simp [h3];omega
def NC (B g:Nat) (A A2:Option Addr):Blocks:=fun b=>B≤b∧b≠g∧A≠some ⟨b,0,none⟩∧A2≠some ⟨b,0,none⟩
structure CallW (w:World) (g B:Nat) (o e:Int) (x:DBd) (A:Option Addr) (c:Nat) (A2:Option Addr) (c2:Nat) (A3:Option Addr) (c3:Nat) (A4:Option Addr) (c4:Nat):Prop where
 blk:Blk w g 150 #[.slice A x.1.length c,.slice A2 x.2.1.length c2,.slice A3 x.2.2.1.length c3,.slice A4 x.2.2.2.length c4,.int .u32 o,.int .i32 0,.int .u32 0,.int .i64 e]
 tab:OwnE eTab 153 w B (NC B g A A2) A x.1.length c x.1
 wrk:OwnE eWrkT 148 w B (NC B g A A2) A2 x.2.1.length c2 x.2.1
 hld:Hh w B (NC B g A A2) A3 x.2.2.1.length c3 x.2.2.1
 wai:Hh w B (NC B g A A2) A4 x.2.2.2.length c4 x.2.2.2
 ne:∀ b,A=some ⟨b,0,none⟩→A2≠some ⟨b,0,none⟩∧b≠g
 ne2:∀ b,A2=some ⟨b,0,none⟩→b≠g
 lo:B≤g
def CallX (w:World) (g B:Nat) (o e:Int) (x:DBd):Prop:=∃ A c A2 c2 A3 c3 A4 c4,CallW w g B o e x A c A2 c2 A3 c3 A4 c4
section
variable {w w':World} {g B:Nat} {o e:Int} {x:DBd} {A:Option Addr} {c:Nat} {A2:Option Addr} {c2:Nat} {A3:Option Addr} {c3:Nat} {A4:Option Addr} {c4:Nat}
theorem CallW.ext (h:CallW w g B o e x A c A2 c2 A3 c3 A4 c4) (hb:Below w.heap.size w w'):CallW w' g B o e x A c A2 c2 A3 c3 A4 c4 :=
 ⟨h.blk.ext hb,h.tab.ext hb,h.wrk.ext hb,h.hld.ext hb,h.wai.ext hb,h.ne,h.ne2,h.lo⟩
theorem CallX.ext (h:CallX w g B o e x) (hb:Below w.heap.size w w'):CallX w' g B o e x:=by
 obtain ⟨A,c,A2,c2,A3,c3,A4,c4,h⟩:=h
 exact ⟨A,c,A2,c2,A3,c3,A4,c4,h.ext hb⟩
theorem CallW.db (h:CallW w g B o e x A c A2 c2 A3 c3 A4 c4):eDB.rel w (fun b=>B≤b∧b≠g) [.slice A x.1.length c,.slice A2 x.2.1.length c2,.slice A3 x.2.2.1.length c3,.slice A4 x.2.2.2.length c4] x:=by
 obtain ⟨css,h1,h2,h3⟩:=h.tab
 obtain ⟨dss,k1,k2,k3⟩:=h.wrk.loose
 refine eDB_mk ⟨css,?_,h2.mono (fun b h=>⟨h.1,h.2.1⟩),h3⟩ ⟨dss,?_,k2.mono (fun b h=>⟨h.1,h.2.1⟩),k3⟩ (h.hld.sl.mono (fun b h=>⟨h.1,h.2.1⟩)) (h.wai.sl.mono (fun b h=>⟨h.1,h.2.1⟩))
 ·rcases RowF.of_row (F:=fun b=>B≤b∧b<w.heap.size) (Row.of_own h1) (fun b h1 h2=>⟨h1,h2⟩) with q|q|⟨b,off,q1,q2,q3,q4,q5⟩
  ·exact .inl q
  ·exact .inr (.inl q)
  ·refine .inr (.inr ⟨b,off,q1,q2,⟨q3.1,?_⟩,q4,q5⟩)
   rcases h1.2 with ⟨z,_⟩|⟨g',cap,cur,z,_⟩
   ·injection z with z;rw [z] at q1;cases q1
   ·injection z with z;rw [z] at q1;injection q1 with q1;injection q1 with q1;subst q1;exact (h.ne _ z).2
 ·rcases RowF.of_row (F:=fun b=>B≤b∧b<w.heap.size) (Row.of_own k1) (fun b h1 h2=>⟨h1,h2⟩) with q|q|⟨b,off,q1,q2,q3,q4,q5⟩
  ·exact .inl q
  ·exact .inr (.inl q)
  ·refine .inr (.inr ⟨b,off,q1,q2,⟨q3.1,?_⟩,q4,q5⟩)
   rcases k1.2 with ⟨z,_⟩|⟨g',cap,cur,z,_⟩
   ·injection z with z;rw [z] at q1;cases q1
   ·injection z with z;rw [z] at q1;injection q1 with q1;injection q1 with q1;subst q1;exact h.ne2 _ z
theorem CallW.put (h:CallW w g B o e x A c A2 c2 A3 c3 A4 c4) {o' e':Int} (hg:w.grownBy w' (some g)) (hb:Blk w' g 150 #[.slice A x.1.length c,.slice A2 x.2.1.length c2,.slice A3 x.2.2.1.length c3,.slice A4 x.2.2.2.length c4,.int .u32 o',.int .i32 0,.int .u32 0,.int .i64 e']) :
  CallW w' g B o' e' x A c A2 c2 A3 c3 A4 c4:=by
 have hk:=Keep.grown (F:=fun b=>b≠g) hg (fun g' h1 h2=>by injection h1 with h1;exact h2 h1.symm)
 exact ⟨hb,h.tab.keep hk (fun b q=>(h.ne b q).2) (fun b q=>q.2.1),h.wrk.keep hk h.ne2 (fun b q=>q.2.1),h.hld.keep (hk.mono (fun b q=>q.2.1)),h.wai.keep (hk.mono (fun b q=>q.2.1)),h.ne,h.ne2,h.lo⟩
end
theorem built_call (a b c d:Value):Tryz.prog.built 150 [(0,.agg #[a,b,c,d])]=some #[a,b,c,d,.int .u32 0,.int .i32 0,.int .u32 0,.int .i64 0]:=by kernel_rfl
theorem tbegun_ {w:World} {F:Blocks} {cs:List Value} {x:DBd} (h:eDB.rel w F cs x) (hok:okDB x):Calls Tryz.prog 39 #[.agg cs.toArray] w fun e w'=>∃ g,e=.returned (.pointer (some ⟨g,0,none⟩))∧CallX w' g w.heap.size 0 0 x∧Below w.heap.size w w':=by
 have HS:=Lib.hid h
 obtain ⟨A,n,c,A2,n2,c2,A3,n3,c3,A4,n4,c4,rfl,h1,h2,h3,h4⟩:=eDB_inv h
 clear h h1 h2 h3 h4
 go_enter Tryz.func39,Tryz.ntmps39
 go_upto_region 1 with fail
 obtain ⟨W,hW_,hb1,B1⟩:=al1 w 43 #[.slice A n c,.slice A2 n2 c2,.slice A3 n3 c3,.slice A4 n4 c4]
 rw [←hW_]
 clear hW_
 have HF:=Lib.hid (town_ (eDB.ext HS.out hb1) hok)
 have q0:=B1.cell 0
 have q1:=B1.cell 1
 have q2:=B1.cell 2
 have q3:=B1.cell 3
 go_wp2_with fail
 refine HF.out.mono ?_
 rintro e w2 ⟨A5,c5,A6,c6,A7,c7,A8,c8,rfl,⟨t1,t2,t3,t4,t5⟩,hb2⟩
 clear q0 q1 q2 q3 HF
 have hbw2:=hb1.trans (Below.mono hb2 hb1.size)
 have hs:=hb1.size
 have hne:∀ b,A5=some ⟨b,0,none⟩→b<w2.heap.size:=fun b h=>(t1.lt h).2
 have hne2:∀ b,A6=some ⟨b,0,none⟩→b<w2.heap.size:=fun b h=>(t2.lt h).2
 have T1:=Lib.hid ((t1.bound bnd_tab).base hs)
 have T2:=Lib.hid ((t2.bound bnd_wrkT).base hs)
 have T3:=Lib.hid (show Hh w2 w.heap.size (fun b=>NB W.heap.size A5 A6 b∧b<w2.heap.size) A7 _ c7 _ from ⟨((t3.1.bound flat_hld.bnd).base hs),fun b e=>⟨t3.2 b e,(t3.1.lt e).2⟩⟩)
 have T4:=Lib.hid (show Hh w2 w.heap.size (fun b=>NB W.heap.size A5 A6 b∧b<w2.heap.size) A8 _ c8 _ from ⟨((t4.1.bound flat_hld.bnd).base hs),fun b e=>⟨t4.2 b e,(t4.1.lt e).2⟩⟩)
 have T5:=Lib.hid t5
 clear t1 t2 t3 t4 t5
 go_wp2_with (with_reducible show wpList _ _ _ (Oper.mk (some 5) _ _ _ _ _::_) _ _;refine wpList_buildP rfl 150 _ rfl (built_call _ _ _ _) rfl ?_)
 go_ret
 have hnb:∀ b,(NB W.heap.size A5 A6 b∧b<w2.heap.size)→NC w.heap.size w2.heap.size A5 A6 b:=fun b h=>⟨Nat.le_trans hs h.1.1,Nat.ne_of_lt h.2,h.1.2.1,h.1.2.2⟩
 have hba:∀ o,Below w2.heap.size w2 (w2.alloc o):=fun o=>(Below.refl _ _).alloc (Nat.le_refl _) _
 exact ⟨w2.heap.size,rfl,⟨A5,c5,A6,c6,A7,c7,A8,c8,Blk.new _ _ _,(T1.out.ext (hba _)).mono hnb,(T2.out.ext (hba _)).mono hnb,(T3.out.ext (hba _)).mono hnb,(T4.out.ext (hba _)).mono hnb,fun b h=>⟨T5.out b h,Nat.ne_of_lt (hne b h)⟩,fun b h=>Nat.ne_of_lt (hne2 b h),hbw2.size⟩,hbw2.alloc hbw2.size _⟩
theorem grown_drew (w:World) (r:Option Nat):w.grownBy w.drew r:=⟨rfl,rfl,rfl,Nat.le_refl _,fun _ _ _=>rfl⟩
theorem fail_ok {w:World} {g:Nat}:Calls Tryz.prog 91 #[.pointer (some ⟨g,0,none⟩),.int .i64 0] w fun e' w'=>e'=.returned (.tuple #[])∧Below w.heap.size w w':=by
 go_enter Tryz.func91,Tryz.ntmps91
 go_wp2
 go_end0
 exact ⟨rfl,((Below.refl _ _).alloc (Nat.le_refl _) _).alloc (by simp) _⟩
theorem table_ {w:World} {g B:Nat} {o e:Int} {x:DBd} {A:Option Addr} {c:Nat} {A2:Option Addr} {c2:Nat} {A3:Option Addr} {c3:Nat} {A4:Option Addr} {c4:Nat} (h:CallW w g B o e x A c A2 c2 A3 c3 A4 c4) (k:ByteArray) (hn:x.1.length≤1000) (ho:Mono (cmpT k) x.1) :
  Calls Tryz.prog 93 #[.pointer (some ⟨g,0,none⟩),.string k] w fun e' w'=>e'=.returned (.tuple #[.int .i64 (posG (cmpT k) x.1:Nat),.bool (isG (cmpT k) x.1)])∧Below w.heap.size w w':=by
 have HF:=Lib.hid (bsT_ k (h.tab.sl (G:=fun _=>True) (fun _ _ _=>trivial) (fun _ _=>trivial)) hn ho)
 have q:=h.blk.cell 0
 clear h
 go_enter Tryz.func93,Tryz.ntmps93
 go_wp2_with fail
 refine HF.out.mono ?_
 rintro e' w' ⟨rfl,hb⟩
 clear q HF
 go_wp2
 go_ret2
 exact ⟨rfl,hb⟩
theorem work_ {w:World} {g B:Nat} {o e:Int} {x:DBd} {A:Option Addr} {c:Nat} {A2:Option Addr} {c2:Nat} {A3:Option Addr} {c3:Nat} {A4:Option Addr} {c4:Nat} (h:CallW w g B o e x A c A2 c2 A3 c3 A4 c4) (k:Int) (hn:x.2.1.length≤1000) (ho:Mono (cmpW k) x.2.1) (hk:-4611686018427387904≤k∧k≤4611686018427387904) (hs:∀ y∈x.2.1,-1000≤y.1∧y.1≤1000) :
  Calls Tryz.prog 40 #[.pointer (some ⟨g,0,none⟩),.int .i64 k] w fun e' w'=>e'=.returned (.tuple #[.int .i64 (posG (cmpW k) x.2.1:Nat),.bool (isG (cmpW k) x.2.1)])∧Below w.heap.size w w':=by
 have HF:=Lib.hid (bsW_ k (h.wrk.loose.sl (G:=fun _=>True) (fun _ _ _=>trivial) (fun _ _=>trivial)) hn ho hk hs)
 have q:=h.blk.cell 1
 clear h hk hs
 go_enter Tryz.func40,Tryz.ntmps40
 go_wp2_with fail
 refine HF.out.mono ?_
 rintro e' w' ⟨rfl,hb⟩
 clear q HF
 go_wp2
 go_ret2
 exact ⟨rfl,hb⟩
end Go.Proofs.YtgbcdkmjcokclaaGreat.tp
namespace Go.Proofs.YtgbcdkmjcokclaaGreat.lx
structure Wd where
 k:Int
 n:Int
 s:List UInt8
def letB (c:UInt8):Bool:=decide (97≤c.toNat) && decide (c.toNat≤122)
def digB (c:UInt8):Bool:=decide (48≤c.toNat) && decide (c.toNat≤57)
def nameB (c:UInt8):Bool:=letB c || digB c || c == 95
inductive St
 | skip (r:List UInt8)
 | put (w:Wd) (r:List UInt8)
 | err (e:Int)
def endW:Wd:=⟨0,0,[]⟩
def St.lt (n:Nat):St→Prop
 | .skip r=>r.length<n
 | .put _ r=>r.length<n
 | .err _=>True
end Go.Proofs.YtgbcdkmjcokclaaGreat.lx
