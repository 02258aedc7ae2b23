/- Laws of its own that the claim's proof needs; no condition beyond those that each states. -/
import Derived.Test.YtdjbpcnhnkemiaaGreatZ9
import Derived.Shelf.Abstract
import Derived.Test.YtdjbpcnhnkemiaaGreatZ5
import Derived.WalkMore
set_option linter.unusedVariables false
set_option maxRecDepth 1000000
set_option maxHeartbeats 16000000
namespace Go.Proofs.YtdjbpcnhnkemiaaGreat.tp
open Go.ChangeShapes Go.WideShapes Go.ChangeAt Go.RowKit Go.Proofs.YtdjbpcnhnkemiaaGreat.lib
variable {w w':World}
variable {n c g B b off i j k m n2 n3 c2 c3 c4 c5 c6 gs gn np lo gr gd id b2 off2:Nat}
variable {A A2 A3 A4 A5 A6:Option Addr}
variable {cs:List Value}
variable {l r:List UInt8}
variable {rs:List (List UInt8)}
variable {s o e:Int}
variable {nm:ByteArray}
variable {F G:qab}
variable {x:DBd}
def trC (id:Int) (a b:Value) (R:List UInt8) (cl:Bool) (K:List UInt8):List Value:=.int .i64 id::a::b::(qaa R++(.bool cl::qaa K))
theorem qem (id:Int) (a b:Value) (R:List UInt8) (cl:Bool) (K:List UInt8) (h:R.length=32) (k:K.length=32):(trC id a b R cl K).length=68:=by
 simp [trC,lenB,h,k]
theorem qjx (id:Int) (a b:Value) (R:List UInt8) (cl:Bool) (K:List UInt8) (ha:a.oneCell'=true) (hb:b.oneCell'=true):∀ u∈trC id a b R cl K,u.oneCell'=true:=by
 intro u hu
 simp only [trC,List.mem_cons,List.mem_append] at hu
 rcases hu with rfl|rfl|rfl|hu|rfl|hu
 ·rfl
 ·exact ha
 ·exact hb
 ·exact oneB _ u hu
 ·rfl
 ·exact oneB _ u hu
theorem trC_set0 (id j:Int) (a b:Value) (R:List UInt8) (cl:Bool) (K:List UInt8):(trC id a b R cl K).toArray.setIfInBounds 0 (.int .i64 j)=(trC j a b R cl K).toArray:=by simp [trC]
theorem trC_set1 (id:Int) (a b c:Value) (R:List UInt8) (cl:Bool) (K:List UInt8):(trC id a b R cl K).toArray.setIfInBounds 1 c=(trC id c b R cl K).toArray:=by simp [trC]
theorem trC_set2 (id:Int) (a b c:Value) (R:List UInt8) (cl:Bool) (K:List UInt8):(trC id a b R cl K).toArray.setIfInBounds 2 c=(trC id a c R cl K).toArray:=by simp [trC]
theorem trC_set35 (id:Int) (a b:Value) (R:List UInt8) (cl dl:Bool) (K:List UInt8) (h:R.length=32):(trC id a b R cl K).toArray.setIfInBounds 35 (.bool dl)=(trC id a b R dl K).toArray:=by
 have e:(35:Nat)=(qaa R).length+3:=by rw [lenB,h]
 simp only [trC,List.setIfInBounds_toArray,e,List.set_cons_succ]
 rw [List.set_append,if_neg (by omega),Nat.sub_self,List.set_cons_zero]
theorem qpf (id:Int) (a b:Value) (R:List UInt8) (cl:Bool) (K:List UInt8) (h:R.length=32):(trC id a b R cl K).toArray[35]? = some (.bool cl):=by
 have e:(35:Nat)=(qaa R).length+3:=by rw [lenB,h]
 simp only [trC,List.getElem?_toArray,e,List.getElem?_cons_succ]
 rw [List.getElem?_append_right (zl _),Nat.sub_self]
 rfl
theorem trC_laid (id:Int) (a b:Value) (R S:List UInt8) (cl:Bool) (K:List UInt8) (h:R.length=32) (k:S.length=32):laid (trC id a b R cl K) 3 (qaa S)=trC id a b S cl K:=by
 have:=qcm [.int .i64 id,a,b] (qaa R) (.bool cl::qaa K) (qaa S) (by rw [lenB,lenB,h,k])
 simpa [trC] using this
theorem qmk (id:Int) (a b:Value) (R:List UInt8) (cl:Bool) (K:List UInt8) (h:R.length=32) (k:K.length=32):(Tryz.prog.info? 187).map (·.size)=some (trC id a b R cl K).length:=by
 rw [qem _ _ _ _ _ _ h k];kernel_rfl
theorem zero_tr (w:World):(zeroValue 187).run Tryz.prog w=.ok (.agg (trC 0 (.slice none 0 0) (.slice none 0 0) h0 false h0).toArray) w:=by kernel_rfl
def tB (id:Nat) (nm:List UInt8) (N:Nat) (H R rest:List UInt8):List UInt8:=le 8 id++(b8 1::cB nm N (H++(R++(b8 0::rest))))
theorem qos (w:World) (F:qab) (H:List UInt8) (h:H.length=32):eHash.rel w F (qaa H) H:=⟨rfl,h⟩
theorem vtrans_ {r N:Nat} {nm H R rest:List UInt8} (h:Rd F w r (tB id nm N H R rest)) (hid:id<9223372036854775808) (hN:N<9223372036854775808) (hnm:nm.length<=100) (hH:H.length=32) (hR:R.length=32) (hl:rest.length<=1000):
  Calls Tryz.prog 125 #[.agg #[.pointer (some ⟨r,0,none⟩)]] w fun e w'=>∃ A c B d,e=.returned (.agg (trC id (.slice A 1 c) (.slice B 1 d) R false h0).toArray)/\Sl eChg w' (fun b=>w.heap.size<=b) A 1 c [(⟨nm.toArray⟩,1,[numV N])]/\Sl eHash w' (fun b=>w.heap.size<=b) B 1 d [H]/\Rd F w' r rest/\w.grownBy w' (some r):=by
 have hrl:=h.lt
 have HR:=zh h.bound
 have HHL:=zh hH
 have HRL:=zh hR
 have hrb:(rowB [numV N]).length=10:=by rw [qip];simp [le]
 have hcl:(cB nm N (H++(R++(b8 0::rest)))).length<=5000:=by
  simp only [cB,List.length_cons,List.length_append,qax,hrb,hH,hR]
  omega
 have HCL:=zh hcl
 have hz:=zero_tr
 clear h hH hR hrb hcl
 go_enter Tryz.func125,Tryz.ntmps125
 go_upto_region 1 with fail
 obtain ⟨W,hW_,hb1,B1,BR⟩:=al2 w 271 187 #[.pointer (some ⟨r,0,none⟩)] ((trC 0 (.slice none 0 0) (.slice none 0 0) h0 false h0).toArray)
 rw [<-hW_]
 clear hW_
 obtain ⟨g1,hg1⟩:∃ g,w.heap.size=g:=⟨_,rfl⟩
 obtain ⟨gr,hgr⟩:∃ g,w.heap.size+1=g:=⟨_,rfl⟩
 have hg1w:w.heap.size<=g1:=by omega
 have hgrw:w.heap.size<=gr:=by omega
 have hne:g1≠gr:=by omega
 rw [hgr] at BR ⊢
 rw [hg1] at B1 ⊢
 clear hgr hg1
 have hG1:=Below.grown_by (g:=some r) hb1
 have HF:=zh (qim id (HR.out.ext hb1) hid (by simp only [List.length_cons];have:=HCL.out;omega))
 have q:=B1.cell 0
 clear HR hb1 hz
 go_wp2_with fail
 refine HF.out.mono ?_
 rintro e w2 ⟨rfl,hR2,hg2⟩
 have B12:=B1.grown hg2 (by intro e;injection e with e;omega)
 have BR2:=BR.grown hg2 (by intro e;injection e with e;omega)
 have hG2:=qah hG1 hg2
 have HR2:=zh hR2
 have hq0:=BR2.cell 0
 have hf0:=BR2.frozen 0
 clear HF q hR2 hg2 hG1 B1 BR
 go_upto_region 2 with fail
 have BR3:=BR2.set_ 0 (.int .i64 (id:Int))
 rw [trC_set0] at BR3
 have B13:=B12.grown (qac w2 gr 0 (.int .i64 (id:Int))) (by intro e;injection e with e;exact hne e)
 have hG3:=qbd hG2 (qac w2 gr 0 (.int .i64 (id:Int))) hgrw
 have HR3:=zh (HR2.out.keep (Keep.set w2 ⟨gr,0,none⟩ (.int .i64 (id:Int)) (fun h=>by have h:=h.2;simp only at h;omega)))
 clear hq0 hf0 hG2 HR2 B12 BR2
 generalize w2.setCell ⟨gr,0,none⟩ (.int .i64 (id:Int))=w3 at *
 have HF:=zh (qcy (b8 1) HR3.out (by have:=HCL.out;omega))
 have q:=B13.cell 0
 go_wp2_with fail
 refine HF.out.mono ?_
 rintro e w4 ⟨rfl,hR4,hg4⟩
 rw [show ((b8 1).toNat:Int)=1 from rfl]
 have B14:=B13.grown hg4 (by intro e;injection e with e;omega)
 have BR4:=BR3.grown hg4 (by intro e;injection e with e;omega)
 have hG4:=qah hG3 hg4
 have HR4:=zh hR4
 clear HF q hR4 hg4 hG3 B13 BR3 HR3
 go_wp2_with fail
 refine wp_loop_rounds 2 ?_
 rw [rounds_succ]
 go_upto_region 4 with fail
 have D:=fun w' (hS:Blk w' gr 187 (trC (id:Int) (.slice none 0 0) (.slice none 0 0) h0 false h0).toArray/\Blk w' g1 271 #[.pointer (some ⟨r,0,none⟩)])=>show w'.cell? ⟨gr,1,none⟩=some (.slice none 0 0)/\w'.cell? ⟨g1,0,none⟩=some (.pointer (some ⟨r,0,none⟩)) from ⟨hS.1.cell 1,hS.2.cell 0⟩
 refine r3 (S:=fun w'=>Blk w' gr 187 (trC (id:Int) (.slice none 0 0) (.slice none 0 0) h0 false h0).toArray/\Blk w' g1 271 #[.pointer (some ⟨r,0,none⟩)]) [(0,true),(1,true),(2,true),(3,true),(4,false),(5,false),(6,false),(7,true),(8,true)] [(9,false)] ⟨Blk.drew BR4,Blk.drew B14⟩ ?_
 repeat ((first|refine pT ?_|refine pF ?_);try go_frame)
 have hd0:=(zb w4.heap.size w4).drew
 have HF:=zh (vchange_ (HR4.out.ext hd0) hN hnm (by simp only [List.length_append,List.length_cons,HHL.out,HRL.out];omega))
 refine pD fun K hK=>?_;go_simp
 refine HF.out.mono ?_
 rintro e w5 ⟨A5,c5,rfl,hs5,hR5,hg5⟩
 have B15:=(Blk.drew B14).grown hg5 (by intro e;injection e with e;omega)
 have BR5:=(Blk.drew BR4).grown hg5 (by intro e;injection e with e;omega)
 have hG5:=qah (qbr hG4 hd0) hg5
 have HR5:=zh hR5
 have hz4:=hG4.size
 have hgrl4:=BR4.lt
 have HS5:=zh (hs5.mono (G:=fun b=>w.heap.size<=b/\b≠gr) (fun b h=>by have h3:w4.heap.size<=b:=h;exact ⟨by omega,by omega⟩))
 refine hK.out _ _ ⟨BR5,B15⟩ ?_
 clear hK K HF hs5 hR5 hg5 hd0 B14 BR4 HR4 hG4
 refine pD fun K hK=>?_;go_simp
 obtain ⟨Wa,hWa⟩:∃ W,W=w5.alloc (.cells #[.string ⟨nm.toArray⟩,.int .i64 1,.slice A5 1 c5] 126):=⟨_,rfl⟩
 have hba:Below w5.heap.size w5 Wa:=by rw [hWa];exact (zb _ _).alloc (zl _) _
 have BC:Blk Wa w5.heap.size 126 #[.string ⟨nm.toArray⟩,.int .i64 1,.slice A5 1 c5]:=by rw [hWa];exact Blk.new _ _ _
 obtain ⟨gc,hgc⟩:∃ g,w5.heap.size=g:=⟨_,rfl⟩
 rw [<-hWa]
 rw [hgc] at BC ⊢
 have BRa:=BR5.ext hba
 have B1a:=B15.ext hba
 refine hK.out _ _ ⟨BRa,B1a⟩ ?_
 clear hK K hWa hgc
 obtain ⟨iC,hci,hc0,hc1,hc2⟩:=ip Tryz.prog 126 (.agg #[.string ⟨#[]⟩,.int .i64 0,.slice none 0 0]) 3 48
 refine qaj rfl (qae rfl) (fun K hK=>?_)
 refine qbm 19 (.tmp 15) (.tmp 18) 51 rfl rfl 126 iC _ 3 48 Tryz.underlying51 hci hc0 hc1 hc2 rfl (by decide) none 0 0 [] rfl (fun _=>⟨rfl,rfl⟩) rfl (fun b hb j u hu=>by simp at hu) ⟨gc,0,none⟩ 1 1 [.string ⟨nm.toArray⟩,.int .i64 1,.slice A5 1 c5] rfl rfl (fun j u hu=>by rw [Addr.add_mid];exact Blk.whole (cs:=[_,_,_]) BC j u hu) (fun u hu=>by simp at hu;rcases hu with rfl|rfl|rfl <;> rfl) (by omega) (by unfold maxLen;omega) (by omega) ?_
 intro A8 c8 w8 hown hgr8
 have hbc:Below Wa.heap.size Wa w8:=(zb _ _).grown hgr8 (zl _) (fun k hk=>by cases hk)
 have BR8:=BRa.ext hbc
 have B18:=B1a.ext hbc
 refine hK.out _ _ ⟨BR8,B18⟩ ?_
 clear hK K D
 have hbac:=(hba.tr hbc)
 have HR8:=zh (HR5.out.ext hbac)
 have hG8:=qbr hG5 hbac
 have h5a:=hba.size
 have h05:=hG5.size
 have hsl:Sl eChg w8 (fun b=>w.heap.size<=b/\b≠gr) A8 1 c8 [(⟨nm.toArray⟩,1,[numV N])]:=by
  have hE:OwnE eChg 126 w8 Wa.heap.size (fun b=>w.heap.size<=b/\b≠gr) A8 1 c8 [(⟨nm.toArray⟩,1,[numV N])]:=⟨[[.string ⟨nm.toArray⟩,.int .i64 1,.slice A5 1 c5]],by rw [show [[Value.string ⟨nm.toArray⟩,.int .i64 1,.slice A5 1 c5]].flatten=[]++[Value.string ⟨nm.toArray⟩,.int .i64 1,.slice A5 1 c5] by simp];exact hown,Els.one_ (qfi (x:=(⟨nm.toArray⟩,1,[numV N])) (HS5.out.ext hbac)),rfl⟩
  exact hE.slB (fun b e=>⟨by have:=(hE.lt e).1;omega,qfy hown BR8 (by decide) b e⟩) (fun b h=>h)
 have HS8:=zh hsl
 clear hown hgr8 hbc hbac hba BC BRa B1a BR5 B15 HR5 hG5 HS5 hsl hci hc0 hc1 hc2 iC
 repeat ((first|refine pT ?_|refine pF ?_);try go_frame)
 refine qak ?_
 have q1:=BR8.cell 1
 have f1:=BR8.frozen 1
 refine pD fun K hK=>?_;go_simp
 refine hK.out _ _ trivial (qad ?_)
 clear hK K q1 f1
 have BR9:=BR8.set_ 1 (.slice A8 1 c8)
 rw [trC_set1] at BR9
 have hk9:Keep (fun b=>b≠gr) w8 (w8.setCell ⟨gr,1,none⟩ (.slice A8 1 c8)):=Keep.set w8 _ _ (fun h=>h rfl)
 have B19:=Blk.keep B18 hk9 hne
 have hG9:=qbd hG8 (qac w8 gr 1 (.slice A8 1 c8)) hgrw
 have HR9:=zh (HR8.out.keep (hk9.mono (fun b h=>by have:=h.2;omega)))
 have HS9:=zh (HS8.out.keep (hk9.mono (fun b h=>h.2)))
 clear hk9 BR8 B18 hG8 HR8 HS8
 generalize w8.setCell ⟨gr,1,none⟩ (.slice A8 1 c8)=w9 at *
 go_upto_region 5 with fail
 have D:=fun w' (hS:Blk w' gr 187 (trC (id:Int) (.slice A8 1 c8) (.slice none 0 0) h0 false h0).toArray/\Blk w' g1 271 #[.pointer (some ⟨r,0,none⟩)])=>show w'.cell? ⟨gr,2,none⟩=some (.slice none 0 0)/\w'.cell? ⟨g1,0,none⟩=some (.pointer (some ⟨r,0,none⟩)) from ⟨hS.1.cell 2,hS.2.cell 0⟩
 refine r3 (S:=fun w'=>Blk w' gr 187 (trC (id:Int) (.slice A8 1 c8) (.slice none 0 0) h0 false h0).toArray/\Blk w' g1 271 #[.pointer (some ⟨r,0,none⟩)]) [(0,true),(1,true),(2,true),(3,false),(4,false),(5,false),(6,true)] [(7,false)] ⟨Blk.drew BR9,Blk.drew B19⟩ ?_
 repeat ((first|refine pT ?_|refine pF ?_);try go_frame)
 have hd0:=(zb w9.heap.size w9).drew
 have HF:=zh (vhash_ (HR9.out.ext hd0) HHL.out (by simp only [List.length_append,List.length_cons,HRL.out];omega))
 refine pD fun K hK=>?_;go_simp
 refine HF.out.mono ?_
 rintro e w10 ⟨rfl,hR10,hg10⟩
 have B110:=(Blk.drew B19).grown hg10 (by intro e;injection e with e;omega)
 have BR10:=(Blk.drew BR9).grown hg10 (by intro e;injection e with e;omega)
 have hG10:=qah (qbr hG9 hd0) hg10
 have HR10:=zh hR10
 have HS10:=zh ((HS9.out.ext hd0).keep (Keep.grown hg10 (fun k hk h=>by injection hk with hk;have:=h.1;omega)))
 refine hK.out _ _ ⟨BR10,B110⟩ ?_
 clear hK K HF hR10 hg10 hd0 B19 BR9 HR9 hG9 HS9
 obtain ⟨i0,hi0,hy0,hy1,hy2⟩:=ip Tryz.prog 76 (.agg (qaa h0).toArray) 32 32
 have hzs:(Value.agg (qaa h0).toArray).cells.size=32:=by kernel_rfl
 refine qaj rfl (qae rfl) (fun K hK=>?_)
 refine qbs 26 178 76 (.tmp 25) rfl rfl (qaa H) rfl i0 _ Tryz.underlying178 hi0 hy0 (by rw [hy1,lenB,HHL.out]) (by rw [lenB,HHL.out];omega) (by rw [lenB,HHL.out];omega) ?_
 obtain ⟨Wb,hWb⟩:∃ W,W=w10.alloc (.cells (qaa H).toArray 76):=⟨_,rfl⟩
 have hbb:Below w10.heap.size w10 Wb:=by rw [hWb];exact (zb _ _).alloc (zl _) _
 have BH:Blk Wb w10.heap.size 76 (qaa H).toArray:=by rw [hWb];exact Blk.new _ _ _
 obtain ⟨gh,hgh⟩:∃ g,w10.heap.size=g:=⟨_,rfl⟩
 rw [<-hWb]
 rw [hgh] at BH ⊢
 have BRb:=BR10.ext hbb
 have B1b:=B110.ext hbb
 refine hK.out _ _ ⟨BRb,B1b⟩ ?_
 clear hK K hWb hgh
 refine qaj rfl (qae rfl) (fun K hK=>?_)
 refine qbm 27 (.tmp 23) (.tmp 26) 178 rfl rfl 76 i0 _ 32 32 Tryz.underlying178 hi0 hy0 hy1 hy2 hzs (by decide) none 0 0 [] rfl (fun _=>⟨rfl,rfl⟩) rfl (fun b hb j u hu=>by simp at hu) ⟨gh,0,none⟩ 1 1 (qaa H) rfl (by rw [lenB,HHL.out]) (fun j u hu=>by rw [Addr.add_mid];exact Blk.whole BH j u hu) (oneB _) (by omega) (by unfold maxLen;omega) (by omega) ?_
 intro A11 c11 w11 hown hgr11
 have hbc:Below Wb.heap.size Wb w11:=(zb _ _).grown hgr11 (zl _) (fun k hk=>by cases hk)
 have BR11:=BRb.ext hbc
 have B111:=B1b.ext hbc
 refine hK.out _ _ ⟨BR11,B111⟩ ?_
 clear hK K D
 have hbbc:=(hbb.tr hbc)
 have HR11:=zh (HR10.out.ext hbbc)
 have hG11:=qbr hG10 hbbc
 have h10b:=hbb.size
 have h010:=hG10.size
 have hsl:Sl eHash w11 (fun b=>w.heap.size<=b/\b≠gr) A11 1 c11 [H]:=by
  have hE:OwnE eHash 76 w11 Wb.heap.size (fun b=>w.heap.size<=b/\b≠gr) A11 1 c11 [H]:=⟨[qaa H],by rw [show [qaa H].flatten=[]++qaa H by simp];exact hown,Els.one_ (qos _ _ H HHL.out),rfl⟩
  exact hE.slB (fun b e=>⟨by have:=(hE.lt e).1;omega,qfy hown BR11 (by decide) b e⟩) (fun b h=>h)
 have HH11:=zh hsl
 have HS11:=zh (HS10.out.ext hbbc)
 clear hown hgr11 hbc hbbc hbb BH BRb B1b BR10 B110 HR10 hG10 HS10 hsl hi0 hy0 hy1 hy2 hzs i0
 repeat ((first|refine pT ?_|refine pF ?_);try go_frame)
 refine qak ?_
 have q1:=BR11.cell 2
 have f1:=BR11.frozen 2
 refine pD fun K hK=>?_;go_simp
 refine hK.out _ _ trivial (qad ?_)
 clear hK K q1 f1
 have BR12:=BR11.set_ 2 (.slice A11 1 c11)
 rw [trC_set2] at BR12
 have hk12:Keep (fun b=>b≠gr) w11 (w11.setCell ⟨gr,2,none⟩ (.slice A11 1 c11)):=Keep.set w11 _ _ (fun h=>h rfl)
 have B112:=Blk.keep B111 hk12 hne
 have hG12:=qbd hG11 (qac w11 gr 2 (.slice A11 1 c11)) hgrw
 have HR12:=zh (HR11.out.keep (hk12.mono (fun b h=>by have:=h.2;omega)))
 have HS12:=zh (HS11.out.keep (hk12.mono (fun b h=>h.2)))
 have HH12:=zh (HH11.out.keep (hk12.mono (fun b h=>h.2)))
 clear hk12 BR11 B111 hG11 HR11 HS11 HH11
 generalize w11.setCell ⟨gr,2,none⟩ (.slice A11 1 c11)=w12 at *
 go_wp2_with fail
 rw [rounds_succ]
 have q:=B112.cell 0
 have HF:=zh (vhash_ HR12.out HRL.out (by simp only [List.length_cons];omega))
 go_wp2_with fail
 refine HF.out.mono ?_
 rintro e w13 ⟨rfl,hR13,hg13⟩
 have B113:=B112.grown hg13 (by intro e;injection e with e;omega)
 have BR13:=BR12.grown hg13 (by intro e;injection e with e;omega)
 have hG13:=qah hG12 hg13
 have hk13:Keep (fun b=>w.heap.size<=b/\b≠gr) w12 w13:=Keep.grown hg13 (fun k hk h=>by injection hk with hk;have:=h.1;omega)
 have HS13:=zh (HS12.out.keep hk13)
 have HH13:=zh (HH12.out.keep hk13)
 have HR13:=zh hR13
 clear q HF hR13 hg13 hk13 B112 BR12 hG12 HS12 HH12 HR12
 have hszR:=qbq R HRL.out
 have hth:=Blk.there (o:=3) (n:=32) BR13 (by rw [qem _ _ _ _ _ _ qaf qaf];omega)
 obtain ⟨BR14,hg14⟩:=Blk.lay (qaa R) 3 BR13 (by rw [qem _ _ _ _ _ _ qaf qaf,lenB,HRL.out];omega)
 rw [trC_laid _ _ _ _ _ _ _ qaf HRL.out] at BR14
 have hk14:Keep (fun b=>b≠gr) w13 (w13.setCells gr 3 (qaa R)):=Keep.grown hg14 (fun k hk h=>by injection hk with hk;exact h hk.symm)
 have B114:=Blk.keep B113 hk14 hne
 have hG14:=qbd hG13 hg14 hgrw
 have HR14:=zh (HR13.out.keep (hk14.mono (fun b h=>by have:=h.2;omega)))
 have HS14:=zh (HS13.out.keep (hk14.mono (fun b h=>h.2)))
 have HH14:=zh (HH13.out.keep (hk14.mono (fun b h=>h.2)))
 clear hk14 hg14 BR13 B113 hG13 HR13 HS13 HH13
 go_upto_region 8 with ((with_reducible refine sS 32 ?_);(refine wpList_store_mid rfl 76 _ _ rfl gr 3 (qaa R).toArray rfl rfl ?h1 ?h2 (all_oneCell_toArray (oneB _)) ?_))
 case h1=>exact (show (qaa R).toArray.size=32 by simp [lenB,HRL.out]) ▸ hth
 case h2=>exact (show (qaa R).toArray.size=(qaa R).length by simp) ▸ hszR
 clear hth hszR
 generalize w13.setCells gr 3 (qaa R)=w14 at *
 have q:=B114.cell 0
 have HF:=zh (vtruth0_ HR14.out (by omega))
 go_wp2_with fail
 refine HF.out.mono ?_
 rintro e w15 ⟨rfl,hR15,hg15⟩
 have BR15:=BR14.grown hg15 (by intro e;injection e with e;omega)
 have hG15:=qah hG14 hg15
 have hk15:Keep (fun b=>w.heap.size<=b/\b≠gr) w14 w15:=Keep.grown hg15 (fun k hk h=>by injection hk with hk;have:=h.1;omega)
 have HS15:=zh (HS14.out.keep hk15)
 have HH15:=zh (HH14.out.keep hk15)
 have HR15:=zh hR15
 clear q HF hR15 hg15 hk15 B114 BR14 hG14 HS14 HH14 HR14
 have q:=(BR15.cell 35).trans (qpf _ _ _ _ _ _ HRL.out)
 have f:=BR15.frozen 35
 have BR16:=BR15.set_ 35 (.bool false)
 rw [trC_set35 _ _ _ _ _ _ _ HRL.out] at BR16
 have hk16:Keep (fun b=>b≠gr) w15 (w15.setCell ⟨gr,35,none⟩ (.bool false)):=Keep.set w15 _ _ (fun h=>h rfl)
 have hG16:=qbd hG15 (qac w15 gr 35 (.bool false)) hgrw
 have HR16:=zh (HR15.out.keep (hk16.mono (fun b h=>by have:=h.2;omega)))
 have HS16:=zh (HS15.out.keep (hk16.mono (fun b h=>h.2)))
 have HH16:=zh (HH15.out.keep (hk16.mono (fun b h=>h.2)))
 clear hk16 BR15 hG15 HR15 HS15 HH15
 go_upto_region 11 with fail
 clear q f
 generalize w15.setCell ⟨gr,35,none⟩ (.bool false)=w16 at *
 have htl:=qem (id:Int) (.slice A8 1 c8) (.slice A11 1 c11) R false h0 HRL.out qaf
 have hone:=qjx (id:Int) (.slice A8 1 c8) (.slice A11 1 c11) R false h0 rfl rfl
 have hsz:=qmk (id:Int) (.slice A8 1 c8) (.slice A11 1 c11) R false h0 HRL.out qaf
 obtain ⟨tc,htc⟩:∃ t,t=trC (id:Int) (.slice A8 1 c8) (.slice A11 1 c11) R false h0:=⟨_,rfl⟩
 have HTC:=zh htc
 rw [<-htc] at htl hone hsz BR16
 clear htc
 have hth:=Blk.there (o:=0) (n:=68) BR16 (by omega)
 obtain ⟨B9,hg9⟩:=Blk.lay tc 0 BR16 (by omega)
 rw [qai _ _ rfl] at B9
 have hk17:Keep (fun b=>b≠gr) w16 (w16.setCells gr 0 tc):=Keep.grown hg9 (fun k hk h=>by injection hk with hk;exact h hk.symm)
 have HE:=zh (za ((HS16.out.keep (hk17.mono (fun b h=>h.2))).mono (G:=fun b=>w.heap.size<=b) (fun b h=>h.1)) (za ((HH16.out.keep (hk17.mono (fun b h=>h.2))).mono (G:=fun b=>w.heap.size<=b) (fun b h=>h.1)) (za ((HR16.out.keep (hk17.mono (fun b h=>by have:=h.2;omega))).mono (G:=F) (fun b h=>h.1)) (qbd hG16 hg9 hgrw))))
 clear hk17 hg9 HR16 hG16 HS16 HH16
 go_wp2_with (first|((with_reducible refine sT 41 ?_);(refine wpList_load_mid rfl 187 _ rfl gr 0 rfl tc _ (Blk.whole BR16) Tryz.underlying187 rfl hsz ?_))|((with_reducible refine sS 2 ?_);(refine wpList_store_mid rfl 187 _ _ rfl gr 0 tc.toArray rfl rfl ?h3 ?h4 (all_oneCell_toArray hone) ?_)))
 case h3=>exact (show tc.toArray.size=68 by simp [htl]) ▸ hth
 case h4=>exact (show tc.toArray.size=tc.length by simp) ▸ hsz
 clear hth
 generalize w16.setCells gr 0 tc=w17 at *
 go_wp2
 exact bodyPost_ret (v:=.agg tc.toArray) (results_cell_row rfl _ _ gr _ _ (0,0) _ rfl B9 Tryz.underlying187 rfl (by rw [List.size_toArray];exact hsz)) rfl ⟨A8,c8,A11,c11,by rw [HTC.out],HE.out⟩
def recC (bad:Bool) (k:Int) (S:List Value) (nm:ByteArray) (T:List Value) (n:Int) (H:List UInt8):List Value:=.bool bad::.int .i64 k::(S++(.string nm::(T++(.int .i64 n::qaa H))))
def sch0:List Value:=[.string ⟨#[]⟩,.slice none 0 0,.int .i64 0,.bool false]
def tr0:List Value:=trC 0 (.slice none 0 0) (.slice none 0 0) h0 false h0
theorem qap:tr0.length=68:=qem _ _ _ _ _ _ qaf qaf
theorem qaq (bad:Bool) (k:Int) (S:List Value) (nm:ByteArray) (T:List Value) (n:Int) (H:List UInt8) (hS:S.length=4) (hT:T.length=68) (hH:H.length=32):(recC bad k S nm T n H).length=108:=by
 simp [recC,lenB,hS,hT,hH]
theorem qde (bad:Bool) (k:Int) (S:List Value) (nm:ByteArray) (T:List Value) (n:Int) (H:List UInt8) (hS:∀ u∈S,u.oneCell'=true) (hT:∀ u∈T,u.oneCell'=true):∀ u∈recC bad k S nm T n H,u.oneCell'=true:=by
 intro u hu
 simp only [recC,List.mem_cons,List.mem_append] at hu
 rcases hu with rfl|rfl|hu|rfl|hu|rfl|hu
 ·rfl
 ·rfl
 ·exact hS u hu
 ·rfl
 ·exact hT u hu
 ·rfl
 ·exact oneB _ u hu
theorem qcr (bad:Bool) (k:Int) (S:List Value) (nm:ByteArray) (T:List Value) (n:Int) (H:List UInt8) (hS:S.length=4) (hT:T.length=68) (hH:H.length=32):(Tryz.prog.info? 189).map (·.size)=some (recC bad k S nm T n H).length:=by
 rw [qaq _ _ _ _ _ _ _ hS hT hH];kernel_rfl
theorem qkr (bad b:Bool) (k:Int) (S:List Value) (nm:ByteArray) (T:List Value) (n:Int) (H:List UInt8):(recC bad k S nm T n H).toArray.setIfInBounds 0 (.bool b)=(recC b k S nm T n H).toArray:=by simp [recC]
theorem recC_S (bad:Bool) (k:Int) (S S':List Value) (nm:ByteArray) (T:List Value) (n:Int) (H:List UInt8) (h:S'.length=S.length):laid (recC bad k S nm T n H) 2 S'=recC bad k S' nm T n H:=by
 have:=qcm [.bool bad,.int .i64 k] S (.string nm::(T++(.int .i64 n::qaa H))) S' h
 simpa [recC] using this
theorem recC_T (bad:Bool) (k:Int) (S:List Value) (nm:ByteArray) (T T':List Value) (n:Int) (H:List UInt8) (hS:S.length=4) (h:T'.length=T.length):laid (recC bad k S nm T n H) 7 T'=recC bad k S nm T' n H:=by
 have:=qcm (.bool bad::.int .i64 k::(S++[.string nm])) T (.int .i64 n::qaa H) T' h
 simpa [recC,hS] using this
theorem recC_H (bad:Bool) (k:Int) (S:List Value) (nm:ByteArray) (T:List Value) (n:Int) (H K:List UInt8) (hS:S.length=4) (hT:T.length=68) (h:K.length=H.length):laid (recC bad k S nm T n H) 76 (qaa K)=recC bad k S nm T n K:=by
 have:=qcm (.bool bad::.int .i64 k::(S++(.string nm::(T++[.int .i64 n])))) (qaa H) [] (qaa K) (by rw [lenB,lenB,h])
 simpa [recC,hS,hT] using this
theorem set_mid (pre post:List Value) (x y:Value) (m:Nat) (h:pre.length=m):(pre++x::post).toArray.setIfInBounds m y=(pre++y::post).toArray:=by
 subst h
 simp
theorem recC_n (bad:Bool) (k:Int) (S:List Value) (nm:ByteArray) (T:List Value) (n m:Int) (H:List UInt8) (hS:S.length=4) (hT:T.length=68):(recC bad k S nm T n H).toArray.setIfInBounds 75 (.int .i64 m)=(recC bad k S nm T m H).toArray:=by
 have:=set_mid (.bool bad::.int .i64 k::(S++(.string nm::T))) (qaa H) (.int .i64 n) (.int .i64 m) 75 (by simp [hS,hT])
 simpa [recC] using this
theorem qov (bad:Bool) (k:Int) (S:List Value) (nm:ByteArray) (T:List Value) (n:Int) (H:List UInt8) (hS:S.length=4) (hT:T.length=68):(recC bad k S nm T n H).toArray[75]? = some (.int .i64 n):=by
 have e:recC bad k S nm T n H=(.bool bad::.int .i64 k::(S++(.string nm::T)))++(.int .i64 n::qaa H):=by simp [recC]
 rw [e,List.getElem?_toArray,List.getElem?_append_right (by simp [hS,hT])]
 simp [hS,hT]
theorem qfh (w:World):(zeroValue 189).run Tryz.prog w=.ok (.agg (recC false 0 sch0 ⟨#[]⟩ tr0 0 h0).toArray) w:=by kernel_rfl
theorem qjq (k:Int):Tryz.prog.built 189 [(1,.int .i64 k)]=some (recC false k sch0 ⟨#[]⟩ tr0 0 h0).toArray:=by kernel_rfl
theorem qej:∀ u∈sch0,u.oneCell'=true:=qig _ _ _ _ rfl rfl rfl rfl
theorem qfk:∀ u∈tr0,u.oneCell'=true:=qjx _ _ _ _ _ _ rfl rfl
theorem vread1_ (h:By w A n c (tabB schX)):
  Calls Tryz.prog 53 #[.slice A n c] w fun e w'=>∃ A' c',e=.returned (.agg (recC false 1 [.string ⟨#[120]⟩,.slice A' 1 c',.int .i64 0,.bool false] ⟨#[]⟩ tr0 0 h0).toArray)/\Sl eCol w' (fun b=>w.heap.size<=b) A' 1 c' [(⟨#[97]⟩,2,false)]/\Below w.heap.size w w':=by
 have hsl:(schB schX).length=18:=rfl
 rw [show tabB schX=b8 1::(le 2 (schB schX).length++(schB schX++[])) by simp [tabB,txtB]] at h
 have hn:n=21:=by rw [<-h.2];simp [le,hsl]
 subst hn
 have HB:=zh h
 have HBN:=zh (show 21<=500000 by omega)
 have HSL:=zh hsl
 have hz:=qfh
 clear h hsl
 go_enter Tryz.func53,Tryz.ntmps53
 go_upto_region 1 with fail
 obtain ⟨W,hW_,hb0,BR⟩:=al1 w 189 ((recC false 0 sch0 ⟨#[]⟩ tr0 0 h0).toArray)
 rw [<-hW_]
 clear hW_
 obtain ⟨gr,hgr⟩:∃ g,w.heap.size=g:=⟨_,rfl⟩
 have hgrw:w.heap.size<=gr:=by omega
 rw [hgr] at BR ⊢
 clear hgr
 have hgrW:gr<W.heap.size:=BR.lt
 have hwW:w.heap.size<=W.heap.size:=hb0.size
 have HN:=zh (qil _ _ _ _ _ (HB.out.ext hb0) HBN.out)
 go_wp2_with fail
 refine HN.out.mono ?_
 rintro e w1 ⟨r,rfl,hR,hrw,hb1⟩
 have HR:=zh hR
 have BR1:=BR.ext hb1
 have hbw1:=hb0.trans (zm hb1 hwW)
 have hrl:r<w1.heap.size:=hR.lt
 have hW1:W.heap.size<=w1.heap.size:=hb1.size
 clear hR hb1 hb0 BR HN HB
 go_upto_region 2 with fail
 obtain ⟨W2,hW_,hb2,BY⟩:=al1 w1 271 #[.pointer (some ⟨r,0,none⟩)]
 rw [<-hW_]
 clear hW_
 obtain ⟨gy,hgy⟩:∃ g,w1.heap.size=g:=⟨_,rfl⟩
 have hgyw:w1.heap.size<=gy:=by omega
 rw [hgy] at BY ⊢
 clear hgy
 have HF:=zh (qcy (b8 1) (HR.out.ext hb2) (by simp only [List.length_append,qax,HSL.out,List.length_nil];omega))
 have BR2:=BR1.ext hb2
 have hbw2:=(hbw1.tr hb2)
 have q:=BY.cell 0
 clear hb2 BR1 hbw1 HR
 go_wp2_with fail
 refine HF.out.mono ?_
 rintro e w3 ⟨rfl,hR3,hg3⟩
 rw [show ((b8 1).toNat:Int)=1 from rfl]
 have BY3:=BY.grown hg3 (by intro e;injection e with e;omega)
 have BR3:=BR2.grown hg3 (by intro e;injection e with e;omega)
 have hbw3:=(hbw2.gw hg3)
 have HR3:=zh hR3
 have hy3:gy<w3.heap.size:=BY3.lt
 clear q HF hR3 hg3 BY BR2 hbw2
 have hrl0:=qaq false 1 sch0 ⟨#[]⟩ tr0 0 h0 rfl qap qaf
 have hro0:=qde false 1 sch0 ⟨#[]⟩ tr0 0 h0 qej qfk
 have hrs0:=qcr false 1 sch0 ⟨#[]⟩ tr0 0 h0 rfl qap qaf
 obtain ⟨Wq,hWq⟩:∃ W',W'=w3.alloc (.cells (recC false 0 sch0 ⟨#[]⟩ tr0 0 h0).toArray 189):=⟨_,rfl⟩
 have hbq:Below w3.heap.size w3 Wq:=by rw [hWq];exact (zb _ _).alloc (zl _) _
 have BQ0:Blk Wq w3.heap.size 189 (recC false 0 sch0 ⟨#[]⟩ tr0 0 h0).toArray:=by rw [hWq];exact Blk.new _ _ _
 have hthq:=Blk.there (o:=0) (n:=108) BQ0 (by rw [qaq _ _ _ _ _ _ _ rfl qap qaf];omega)
 obtain ⟨BQ,hgq⟩:=Blk.lay (recC false 1 sch0 ⟨#[]⟩ tr0 0 h0) 0 BQ0 (by rw [hrl0,qaq _ _ _ _ _ _ _ rfl qap qaf];omega)
 rw [qai _ _ (by rw [hrl0,qaq _ _ _ _ _ _ _ rfl qap qaf])] at BQ
 have hbq5:=(hbq.gw hgq)
 have HWq:=zh hWq
 clear hWq
 go_upto_region 3 with (first|((with_reducible refine sT 13 ?_);(refine qbt rfl 189 _ rfl (qjq 1) rfl ?_))|((with_reducible refine sS 4 ?_);(rw [<-HWq.out]);(refine wpList_store_mid rfl 189 _ _ rfl w3.heap.size 0 (recC false 1 sch0 ⟨#[]⟩ tr0 0 h0).toArray rfl rfl ?h1 ?h2 (all_oneCell_toArray hro0) ?_)))
 case h1=>exact (show (recC false 1 sch0 ⟨#[]⟩ tr0 0 h0).toArray.size=108 by simp [hrl0]) ▸ hthq
 case h2=>exact (show (recC false 1 sch0 ⟨#[]⟩ tr0 0 h0).toArray.size=(recC false 1 sch0 ⟨#[]⟩ tr0 0 h0).length by simp) ▸ hrs0
 obtain ⟨g4,hg4⟩:∃ g,w3.heap.size=g:=⟨_,rfl⟩
 have hg4w:w1.heap.size<=g4:=by have:=hbw3.size;omega
 have hy4:gy<g4:=by omega
 have BY4:=BY3.ext hbq5
 have BR4:=BR3.ext hbq5
 have HR4:=zh (HR3.out.ext hbq5)
 have hbw4:=(hbw3.tr hbq5)
 rw [hg4] at BQ BY4 BR4 HR4 hbw4 ⊢
 clear hthq hgq hbq BQ0 hrs0 hbq5 hg4 hro0 hrl0 hbw3 BY3 BR3 HR3 hy3 hz
 generalize Wq.setCells g4 0 (recC false 1 sch0 ⟨#[]⟩ tr0 0 h0)=w4 at *
 clear HWq
 have q1:w4.cell? ⟨g4,1,none⟩=some (.int .i64 1):=BQ.cell 1
 have HF:=zh (qge HR4.out (by rw [HSL.out];omega) (by simp))
 have q:=BY4.cell 0
 go_wp2_with fail
 refine HF.out.mono ?_
 rintro e w5 ⟨rfl,hR5,hg5⟩
 have BQ5:=BQ.grown hg5 (by intro e;injection e with e;omega)
 have BY5:=BY4.grown hg5 (by intro e;injection e with e;omega)
 have BR5:=BR4.grown hg5 (by intro e;injection e with e;omega)
 have hbw5:=(hbw4.gw hg5)
 have HR5:=zh hR5
 clear q1 q HF hR5 hg5 BQ BY4 BR4 hbw4 HR4
 obtain ⟨cb,w6,hcv,hby,hb6,_⟩:=qih ⟨(schB schX).toArray⟩ w5
 have hsz:(⟨(schB schX).toArray⟩:ByteArray).size=18:=by show (schB schX).toArray.size=18;rw [List.size_toArray,HSL.out]
 rw [hsz] at hcv hby
 have BQ6:=BQ5.ext hb6
 have BY6:=BY5.ext hb6
 have BR6:=BR5.ext hb6
 have HR6:=zh (HR5.out.ext hb6)
 have hbw6:=(hbw5.tr hb6)
 have HF:=zh (sparse_ (w:=w6) (A:=some ⟨w5.heap.size,0,none⟩) (n:=18) (c:=cb) (by have:=hby;simpa using this))
 clear hby BQ5 BY5 BR5 HR5 hbw5 hb6 hsz
 go_wp2_with fail
 refine HF.out.mono ?_
 rintro e w7 ⟨A7,c7,rfl,hs7,hb7⟩
 have BQ7:=BQ6.ext hb7
 have BY7:=BY6.ext hb7
 have BR7:=BR6.ext hb7
 have HR7:=zh (HR6.out.ext hb7)
 have hbw7:=(hbw6.tr hb7)
 have HS7:=zh (hs7.mono (G:=fun b=>w.heap.size<=b/\b≠g4/\b≠gr) (fun b h=>by have h1:=BQ6.lt;have h2:=hbw6.size;have h3:w6.heap.size<=b:=h;have h4:=BR6.lt;exact ⟨by omega,by omega,by omega⟩))
 clear hcv hs7 hb7 HF BQ6 BY6 BR6 HR6 hbw6
 go_upto_region 7 with fail
 obtain ⟨W8,hW_,hb8,BX⟩:=al1 w7 66 #[.string ⟨#[120]⟩,.slice A7 1 c7,.int .i64 0,.bool false]
 rw [<-hW_]
 clear hW_
 obtain ⟨gx,hgx⟩:∃ g,w7.heap.size=g:=⟨_,rfl⟩
 rw [hgx] at BX ⊢
 clear hgx
 have BQ8:=BQ7.ext hb8
 have BY8:=BY7.ext hb8
 have BR8:=BR7.ext hb8
 have HR8:=zh (HR7.out.ext hb8)
 have hbw8:=(hbw7.tr hb8)
 have HS8:=zh (HS7.out.ext hb8)
 have HF:=zh (fail0_ (w:=W8) r)
 have q:=BY8.cell 0
 clear hb8 BQ7 BY7 BR7 HR7 hbw7 HS7
 go_wp2_with fail
 refine HF.out.mono ?_
 rintro e w9 ⟨rfl,hb9⟩
 have BQ9:=BQ8.ext hb9
 have BY9:=BY8.ext hb9
 have BR9:=BR8.ext hb9
 have BX9:=BX.ext hb9
 have HR9:=zh (HR8.out.ext hb9)
 have hbw9:=(hbw8.tr hb9)
 have HS9:=zh (HS8.out.ext hb9)
 clear q HF hb9 BQ8 BY8 BR8 HR8 hbw8 HS8 BX
 have x:=four BX9 (zb _ _)
 obtain ⟨S7,hS7⟩:∃ S:List Value,S=[.string ⟨#[120]⟩,.slice A7 1 c7,.int .i64 0,.bool false]:=⟨_,rfl⟩
 have hS4:S7.length=4:=by rw [hS7];rfl
 have hSo:∀ u∈S7,u.oneCell'=true:=by rw [hS7];exact qig _ _ _ _ rfl rfl rfl rfl
 have hSs:(Tryz.prog.info? 66).map (·.size)=some S7.length:=by rw [hS4];kernel_rfl
 have hth:=Blk.there (o:=2) (n:=4) BQ9 (by rw [qaq _ _ _ _ _ _ _ rfl qap qaf];omega)
 obtain ⟨BQ7,hg7⟩:=Blk.lay S7 2 BQ9 (by rw [hS4,qaq _ _ _ _ _ _ _ rfl qap qaf];omega)
 rw [recC_S _ _ _ _ _ _ _ _ (by rw [hS4];rfl)] at BQ7
 have hk7:Keep (fun b=>b≠g4) w9 (w9.setCells g4 2 S7):=Keep.grown hg7 (fun k hk h=>by injection hk with hk;exact h hk.symm)
 have BY7:=Blk.keep BY9 hk7 (Nat.ne_of_lt hy4)
 have BR7:=Blk.keep BR9 hk7 (show gr≠g4 by omega)
 have HR7:=zh (HR9.out.keep (hk7.mono (fun b h=>by have:=h.2;omega)))
 have hbw7:=(hbw9.gw hg7)
 have HS7:=zh (HS9.out.keep (hk7.mono (fun b h=>h.2.1)))
 have HS:=zh hS7
 clear hk7 hg7 BQ9 BY9 BR9 HR9 hbw9 HS9 hS7
 go_upto_region 15 with ((with_reducible refine sS 34 ?_);(refine wpList_store_mid rfl 66 _ _ rfl g4 2 S7.toArray rfl (by rw [HS.out];rfl) ?h5 ?h6 (all_oneCell_toArray hSo) ?_))
 case h5=>exact (show S7.toArray.size=4 by simp [hS4]) ▸ hth
 case h6=>exact (show S7.toArray.size=S7.length by simp) ▸ hSs
 clear hth hSs x BX9
 generalize w9.setCells g4 2 S7=w10 at *
 have HF:=zh (rend_ HR7.out)
 have q:=BY7.cell 0
 have p0:w10.cell? ⟨g4,0,none⟩=some (.bool false):=BQ7.cell 0
 have f0:=BQ7.frozen 0
 go_wp2_with fail
 refine HF.out.mono ?_
 rintro e w' ⟨rfl,rfl⟩
 have BQ8:=BQ7.set_ 0 (.bool false)
 rw [qkr] at BQ8
 have hg8:=qac w10 g4 0 (.bool false)
 have hk8:Keep (fun b=>b≠g4) w10 (w10.setCell ⟨g4,0,none⟩ (.bool false)):=Keep.set w10 _ _ (fun h=>h rfl)
 have BR8:=Blk.keep BR7 hk8 (show gr≠g4 by omega)
 have hbw8:=(hbw7.gw hg8)
 have HS7:=zh (HS7.out.keep (hk8.mono (fun b h=>h.2.1)))
 clear HF hg8 hk8 BQ7 BR7 hbw7 BY7 HR7
 have hrl:=qaq false 1 (S7) ⟨#[]⟩ (tr0) (0) (h0) hS4 qap qaf
 have hro:=qde false 1 (S7) ⟨#[]⟩ (tr0) (0) (h0) hSo qfk
 have hrs:=qcr false 1 (S7) ⟨#[]⟩ (tr0) (0) (h0) hS4 qap qaf
 obtain ⟨rc,hrc⟩:∃ x,x=recC false 1 (S7) ⟨#[]⟩ (tr0) (0) (h0):=⟨_,rfl⟩
 have HRC:=zh hrc
 rw [<-hrc] at hrl hro hrs BQ8
 clear hrc
 go_upto_region 16 with fail
 clear q p0 f0
 generalize w10.setCell ⟨g4,0,none⟩ (.bool false)=w8 at *
 have hth:=Blk.there (o:=0) (n:=108) BR8 (by rw [qaq _ _ _ _ _ _ _ rfl qap qaf];omega)
 obtain ⟨B9,hg9⟩:=Blk.lay rc 0 BR8 (by rw [hrl,qaq _ _ _ _ _ _ _ rfl qap qaf];omega)
 rw [qai _ _ (by rw [hrl,qaq _ _ _ _ _ _ _ rfl qap qaf])] at B9
 have hk9:Keep (fun b=>b≠gr) w8 (w8.setCells gr 0 rc):=Keep.grown hg9 (fun k hk h=>by injection hk with hk;exact h hk.symm)
 have hbw9:=(hbw8.gw hg9)
 have HS7:=zh (HS7.out.keep (hk9.mono (fun b h=>h.2.2)))
 clear hk9 hg9 hbw8 BR8
 go_wp2_with (first|((with_reducible refine sT 60 ?_);(refine wpList_load_mid rfl 189 _ rfl g4 0 rfl rc _ (Blk.whole BQ8) Tryz.underlying189 rfl hrs ?_))|((with_reducible refine sS 2 ?_);(refine wpList_store_mid rfl 189 _ _ rfl gr 0 rc.toArray rfl rfl ?h3 ?h4 (all_oneCell_toArray hro) ?_)))
 case h3=>exact (show rc.toArray.size=108 by simp [hrl]) ▸ hth
 case h4=>exact (show rc.toArray.size=rc.length by simp) ▸ hrs
 clear hth
 generalize w8.setCells gr 0 rc=w9 at *
 go_wp2
 exact bodyPost_ret (v:=.agg rc.toArray) (results_cell_row rfl _ _ gr _ _ (0,0) _ rfl B9 Tryz.underlying189 rfl (by rw [List.size_toArray];exact hrs)) rfl ⟨A7,c7,by rw [HRC.out,HS.out],HS7.out.mono (fun b h=>h.1),hbw9⟩
theorem vread3_ {N:Nat} {nm:List UInt8} (h:By w A n c (txB id (⟨nm.toArray⟩,1,[numV N]))) (hid:id<9223372036854775808) (hN:N<9223372036854775808) (hnm:nm.length<=100):
  Calls Tryz.prog 53 #[.slice A n c] w fun e w'=>∃ A' c' B d,e=.returned (.agg (recC false 3 sch0 ⟨#[]⟩ (trC id (.slice A' 1 c') (.slice B 1 d) (rowH id 0 (⟨nm.toArray⟩,1,[numV N])) false h0) 0 h0).toArray)/\Sl eChg w' (fun b=>w.heap.size<=b) A' 1 c' [(⟨nm.toArray⟩,1,[numV N])]/\Sl eHash w' (fun b=>w.heap.size<=b) B 1 d [rowH id 0 (⟨nm.toArray⟩,1,[numV N])]/\Below w.heap.size w w':=by
 obtain ⟨H,hH⟩:∃ H,rowH id 0 (⟨nm.toArray⟩,1,[numV N])=H:=⟨_,rfl⟩
 have hHl:H.length=32:=by rw [<-hH];exact qbh _
 have HHL:=zh hHl
 have hrb:(rowB [numV N]).length=10:=by rw [qip];simp [le]
 have hnz:(⟨nm.toArray⟩:ByteArray).data.toList=nm:=by simp
 have hl:(tB id nm N H H []).length<=400:=by
  simp only [tB,cB,List.length_cons,List.length_append,qax,hrb,hHl,List.length_nil]
  omega
 rw [show txB id (⟨nm.toArray⟩,1,[numV N])=b8 3::tB id nm N H H [] by
  rw [txB,hH]
  simp [chgB,txtB,tB,cB]] at h
 rw [hH]
 have hn:n<=500:=by rw [<-h.2,List.length_cons];omega
 have HB:=zh h
 have HBN:=zh (show n<=500000 by omega)
 have HTL:=zh hl
 have hz:=qfh
 clear h hl hn hH hrb hnz hHl
 go_enter Tryz.func53,Tryz.ntmps53
 go_upto_region 1 with fail
 obtain ⟨W,hW_,hb0,BR⟩:=al1 w 189 ((recC false 0 sch0 ⟨#[]⟩ tr0 0 h0).toArray)
 rw [<-hW_]
 clear hW_
 obtain ⟨gr,hgr⟩:∃ g,w.heap.size=g:=⟨_,rfl⟩
 have hgrw:w.heap.size<=gr:=by omega
 rw [hgr] at BR ⊢
 clear hgr
 have hgrW:gr<W.heap.size:=BR.lt
 have hwW:w.heap.size<=W.heap.size:=hb0.size
 have HN:=zh (qil _ _ _ _ _ (HB.out.ext hb0) HBN.out)
 go_wp2_with fail
 refine HN.out.mono ?_
 rintro e w1 ⟨r,rfl,hR,hrw,hb1⟩
 have HR:=zh hR
 have BR1:=BR.ext hb1
 have hbw1:=hb0.trans (zm hb1 hwW)
 have hrl:r<w1.heap.size:=hR.lt
 have hW1:W.heap.size<=w1.heap.size:=hb1.size
 clear hR hb1 hb0 BR HN HB
 go_upto_region 2 with fail
 obtain ⟨W2,hW_,hb2,BY⟩:=al1 w1 271 #[.pointer (some ⟨r,0,none⟩)]
 rw [<-hW_]
 clear hW_
 obtain ⟨gy,hgy⟩:∃ g,w1.heap.size=g:=⟨_,rfl⟩
 have hgyw:w1.heap.size<=gy:=by omega
 rw [hgy] at BY ⊢
 clear hgy
 have HF:=zh (qcy (b8 3) (HR.out.ext hb2) (by have:=HTL.out;omega))
 have BR2:=BR1.ext hb2
 have hbw2:=(hbw1.tr hb2)
 have q:=BY.cell 0
 clear hb2 BR1 hbw1 HR
 go_wp2_with fail
 refine HF.out.mono ?_
 rintro e w3 ⟨rfl,hR3,hg3⟩
 rw [show ((b8 3).toNat:Int)=3 from rfl]
 have BY3:=BY.grown hg3 (by intro e;injection e with e;omega)
 have BR3:=BR2.grown hg3 (by intro e;injection e with e;omega)
 have hbw3:=(hbw2.gw hg3)
 have HR3:=zh hR3
 have hy3:gy<w3.heap.size:=BY3.lt
 clear q HF hR3 hg3 BY BR2 hbw2
 have hrl0:=qaq false 3 sch0 ⟨#[]⟩ tr0 0 h0 rfl qap qaf
 have hro0:=qde false 3 sch0 ⟨#[]⟩ tr0 0 h0 qej qfk
 have hrs0:=qcr false 3 sch0 ⟨#[]⟩ tr0 0 h0 rfl qap qaf
 obtain ⟨Wq,hWq⟩:∃ W',W'=w3.alloc (.cells (recC false 0 sch0 ⟨#[]⟩ tr0 0 h0).toArray 189):=⟨_,rfl⟩
 have hbq:Below w3.heap.size w3 Wq:=by rw [hWq];exact (zb _ _).alloc (zl _) _
 have BQ0:Blk Wq w3.heap.size 189 (recC false 0 sch0 ⟨#[]⟩ tr0 0 h0).toArray:=by rw [hWq];exact Blk.new _ _ _
 have hthq:=Blk.there (o:=0) (n:=108) BQ0 (by rw [qaq _ _ _ _ _ _ _ rfl qap qaf];omega)
 obtain ⟨BQ,hgq⟩:=Blk.lay (recC false 3 sch0 ⟨#[]⟩ tr0 0 h0) 0 BQ0 (by rw [hrl0,qaq _ _ _ _ _ _ _ rfl qap qaf];omega)
 rw [qai _ _ (by rw [hrl0,qaq _ _ _ _ _ _ _ rfl qap qaf])] at BQ
 have hbq5:=(hbq.gw hgq)
 have HWq:=zh hWq
 clear hWq
 go_upto_region 3 with (first|((with_reducible refine sT 13 ?_);(refine qbt rfl 189 _ rfl (qjq 3) rfl ?_))|((with_reducible refine sS 4 ?_);(rw [<-HWq.out]);(refine wpList_store_mid rfl 189 _ _ rfl w3.heap.size 0 (recC false 3 sch0 ⟨#[]⟩ tr0 0 h0).toArray rfl rfl ?h1 ?h2 (all_oneCell_toArray hro0) ?_)))
 case h1=>exact (show (recC false 3 sch0 ⟨#[]⟩ tr0 0 h0).toArray.size=108 by simp [hrl0]) ▸ hthq
 case h2=>exact (show (recC false 3 sch0 ⟨#[]⟩ tr0 0 h0).toArray.size=(recC false 3 sch0 ⟨#[]⟩ tr0 0 h0).length by simp) ▸ hrs0
 obtain ⟨g4,hg4⟩:∃ g,w3.heap.size=g:=⟨_,rfl⟩
 have hg4w:w1.heap.size<=g4:=by have:=hbw3.size;omega
 have hy4:gy<g4:=by omega
 have BY4:=BY3.ext hbq5
 have BR4:=BR3.ext hbq5
 have HR4:=zh (HR3.out.ext hbq5)
 have hbw4:=(hbw3.tr hbq5)
 rw [hg4] at BQ BY4 BR4 HR4 hbw4 ⊢
 clear hthq hgq hbq BQ0 hrs0 hbq5 hg4 hro0 hrl0 hbw3 BY3 BR3 HR3 hy3 hz
 generalize Wq.setCells g4 0 (recC false 3 sch0 ⟨#[]⟩ tr0 0 h0)=w4 at *
 clear HWq
 have q1:w4.cell? ⟨g4,1,none⟩=some (.int .i64 3):=BQ.cell 1
 have HF:=zh (vtrans_ HR4.out hid hN hnm HHL.out HHL.out (by simp))
 have q:=BY4.cell 0
 go_wp2_with fail
 refine HF.out.mono ?_
 rintro e w5 ⟨A5,c5,B5,d5,rfl,hs5,hh5,hR5,hg5⟩
 have BQ5:=BQ.grown hg5 (by intro e;injection e with e;omega)
 have BY5:=BY4.grown hg5 (by intro e;injection e with e;omega)
 have BR5:=BR4.grown hg5 (by intro e;injection e with e;omega)
 have hbw5:=(hbw4.gw hg5)
 have HR5:=zh hR5
 have hF5:∀ b,w4.heap.size<=b->w.heap.size<=b/\b≠g4/\b≠gr:=fun b hb=>by have h1:=BQ.lt;have h2:=hbw4.size;have h4:=BR4.lt;exact ⟨by omega,by omega,by omega⟩
 have HS5:=zh (hs5.mono hF5)
 have HK5:=zh (hh5.mono hF5)
 clear q1 q HF hR5 hg5 BQ BY4 BR4 hbw4 HR4 hs5 hh5 hF5
 have hT4:=qem (id:Int) (.slice A5 1 c5) (.slice B5 1 d5) H false h0 HHL.out qaf
 have hTo:=qjx (id:Int) (.slice A5 1 c5) (.slice B5 1 d5) H false h0 rfl rfl
 have hTs:=qmk (id:Int) (.slice A5 1 c5) (.slice B5 1 d5) H false h0 HHL.out qaf
 obtain ⟨T7,hT7⟩:∃ T,T=trC (id:Int) (.slice A5 1 c5) (.slice B5 1 d5) H false h0:=⟨_,rfl⟩
 have HT:=zh hT7
 rw [<-hT7] at hT4 hTo hTs ⊢
 clear hT7
 have hth:=Blk.there (o:=7) (n:=68) BQ5 (by rw [qaq _ _ _ _ _ _ _ rfl qap qaf];omega)
 obtain ⟨BQ7,hg7⟩:=Blk.lay T7 7 BQ5 (by rw [hT4,qaq _ _ _ _ _ _ _ rfl qap qaf];omega)
 rw [recC_T _ _ _ _ _ _ _ _ rfl (by rw [hT4,qap])] at BQ7
 have hk7:Keep (fun b=>b≠g4) w5 (w5.setCells g4 7 T7):=Keep.grown hg7 (fun k hk h=>by injection hk with hk;exact h hk.symm)
 have BY7:=Blk.keep BY5 hk7 (Nat.ne_of_lt hy4)
 have BR7:=Blk.keep BR5 hk7 (show gr≠g4 by omega)
 have HR7:=zh (HR5.out.keep (hk7.mono (fun b h=>by have:=h.2;omega)))
 have hbw7:=(hbw5.gw hg7)
 have HS7:=zh (HS5.out.keep (hk7.mono (fun b h=>h.2.1)))
 have HK7:=zh (HK5.out.keep (hk7.mono (fun b h=>h.2.1)))
 clear hk7 hg7 BQ5 BY5 BR5 HR5 hbw5 HS5 HK5
 go_upto_region 15 with ((with_reducible refine sS 45 ?_);(refine wpList_store_mid rfl 187 _ _ rfl g4 7 T7.toArray rfl rfl ?h5 ?h6 (all_oneCell_toArray hTo) ?_))
 case h5=>exact (show T7.toArray.size=68 by simp [hT4]) ▸ hth
 case h6=>exact (show T7.toArray.size=T7.length by simp) ▸ hTs
 clear hth hTs
 generalize w5.setCells g4 7 T7=w10 at *
 have HF:=zh (rend_ HR7.out)
 have q:=BY7.cell 0
 have p0:w10.cell? ⟨g4,0,none⟩=some (.bool false):=BQ7.cell 0
 have f0:=BQ7.frozen 0
 go_wp2_with fail
 refine HF.out.mono ?_
 rintro e w' ⟨rfl,rfl⟩
 have BQ8:=BQ7.set_ 0 (.bool false)
 rw [qkr] at BQ8
 have hg8:=qac w10 g4 0 (.bool false)
 have hk8:Keep (fun b=>b≠g4) w10 (w10.setCell ⟨g4,0,none⟩ (.bool false)):=Keep.set w10 _ _ (fun h=>h rfl)
 have BR8:=Blk.keep BR7 hk8 (show gr≠g4 by omega)
 have hbw8:=(hbw7.gw hg8)
 have HS7:=zh (HS7.out.keep (hk8.mono (fun b h=>h.2.1)))
 have HK7:=zh (HK7.out.keep (hk8.mono (fun b h=>h.2.1)))
 clear HF hg8 hk8 BQ7 BR7 hbw7 BY7 HR7
 have hrl:=qaq false 3 (sch0) ⟨#[]⟩ (T7) (0) (h0) rfl hT4 qaf
 have hro:=qde false 3 (sch0) ⟨#[]⟩ (T7) (0) (h0) qej hTo
 have hrs:=qcr false 3 (sch0) ⟨#[]⟩ (T7) (0) (h0) rfl hT4 qaf
 obtain ⟨rc,hrc⟩:∃ x,x=recC false 3 (sch0) ⟨#[]⟩ (T7) (0) (h0):=⟨_,rfl⟩
 have HRC:=zh hrc
 rw [<-hrc] at hrl hro hrs BQ8
 clear hrc
 go_upto_region 16 with fail
 clear q p0 f0
 generalize w10.setCell ⟨g4,0,none⟩ (.bool false)=w8 at *
 have hth:=Blk.there (o:=0) (n:=108) BR8 (by rw [qaq _ _ _ _ _ _ _ rfl qap qaf];omega)
 obtain ⟨B9,hg9⟩:=Blk.lay rc 0 BR8 (by rw [hrl,qaq _ _ _ _ _ _ _ rfl qap qaf];omega)
 rw [qai _ _ (by rw [hrl,qaq _ _ _ _ _ _ _ rfl qap qaf])] at B9
 have hk9:Keep (fun b=>b≠gr) w8 (w8.setCells gr 0 rc):=Keep.grown hg9 (fun k hk h=>by injection hk with hk;exact h hk.symm)
 have hbw9:=(hbw8.gw hg9)
 have HS7:=zh (HS7.out.keep (hk9.mono (fun b h=>h.2.2)))
 have HK7:=zh (HK7.out.keep (hk9.mono (fun b h=>h.2.2)))
 clear hk9 hg9 hbw8 BR8
 go_wp2_with (first|((with_reducible refine sT 60 ?_);(refine wpList_load_mid rfl 189 _ rfl g4 0 rfl rc _ (Blk.whole BQ8) Tryz.underlying189 rfl hrs ?_))|((with_reducible refine sS 2 ?_);(refine wpList_store_mid rfl 189 _ _ rfl gr 0 rc.toArray rfl rfl ?h3 ?h4 (all_oneCell_toArray hro) ?_)))
 case h3=>exact (show rc.toArray.size=108 by simp [hrl]) ▸ hth
 case h4=>exact (show rc.toArray.size=rc.length by simp) ▸ hrs
 clear hth
 generalize w8.setCells gr 0 rc=w9 at *
 go_wp2
 exact bodyPost_ret (v:=.agg rc.toArray) (results_cell_row rfl _ _ gr _ _ (0,0) _ rfl B9 Tryz.underlying189 rfl (by rw [List.size_toArray];exact hrs)) rfl ⟨A5,c5,B5,d5,by rw [HRC.out,HT.out],HS7.out.mono (fun b h=>h.1),HK7.out.mono (fun b h=>h.1),hbw9⟩
theorem vread4_ {H:List UInt8} (h:By w A n c (blkB m H)) (hm:m<9223372036854775808) (hH:H.length=32):
  Calls Tryz.prog 53 #[.slice A n c] w fun e w'=>e=.returned (.agg (recC false 4 sch0 ⟨#[]⟩ tr0 m H).toArray)/\Below w.heap.size w w':=by
 rw [show blkB m H=b8 4::(le 8 m++(H++[])) by simp [blkB]] at h
 have hn:n=41:=by rw [<-h.2];simp [le,hH]
 subst hn
 have HB:=zh h
 have HBN:=zh (show 41<=500000 by omega)
 have HHL:=zh hH
 have hz:=qfh
 clear h hH
 go_enter Tryz.func53,Tryz.ntmps53
 go_upto_region 1 with fail
 obtain ⟨W,hW_,hb0,BR⟩:=al1 w 189 ((recC false 0 sch0 ⟨#[]⟩ tr0 0 h0).toArray)
 rw [<-hW_]
 clear hW_
 obtain ⟨gr,hgr⟩:∃ g,w.heap.size=g:=⟨_,rfl⟩
 have hgrw:w.heap.size<=gr:=by omega
 rw [hgr] at BR ⊢
 clear hgr
 have hgrW:gr<W.heap.size:=BR.lt
 have hwW:w.heap.size<=W.heap.size:=hb0.size
 have HN:=zh (qil _ _ _ _ _ (HB.out.ext hb0) HBN.out)
 go_wp2_with fail
 refine HN.out.mono ?_
 rintro e w1 ⟨r,rfl,hR,hrw,hb1⟩
 have HR:=zh hR
 have BR1:=BR.ext hb1
 have hbw1:=hb0.trans (zm hb1 hwW)
 have hrl:r<w1.heap.size:=hR.lt
 have hW1:W.heap.size<=w1.heap.size:=hb1.size
 clear hR hb1 hb0 BR HN HB
 go_upto_region 2 with fail
 obtain ⟨W2,hW_,hb2,BY⟩:=al1 w1 271 #[.pointer (some ⟨r,0,none⟩)]
 rw [<-hW_]
 clear hW_
 obtain ⟨gy,hgy⟩:∃ g,w1.heap.size=g:=⟨_,rfl⟩
 have hgyw:w1.heap.size<=gy:=by omega
 rw [hgy] at BY ⊢
 clear hgy
 have HF:=zh (qcy (b8 4) (HR.out.ext hb2) (by simp only [List.length_append,qax,HHL.out,List.length_nil];omega))
 have BR2:=BR1.ext hb2
 have hbw2:=(hbw1.tr hb2)
 have q:=BY.cell 0
 clear hb2 BR1 hbw1 HR
 go_wp2_with fail
 refine HF.out.mono ?_
 rintro e w3 ⟨rfl,hR3,hg3⟩
 rw [show ((b8 4).toNat:Int)=4 from rfl]
 have BY3:=BY.grown hg3 (by intro e;injection e with e;omega)
 have BR3:=BR2.grown hg3 (by intro e;injection e with e;omega)
 have hbw3:=(hbw2.gw hg3)
 have HR3:=zh hR3
 have hy3:gy<w3.heap.size:=BY3.lt
 clear q HF hR3 hg3 BY BR2 hbw2
 have hrl0:=qaq false 4 sch0 ⟨#[]⟩ tr0 0 h0 rfl qap qaf
 have hro0:=qde false 4 sch0 ⟨#[]⟩ tr0 0 h0 qej qfk
 have hrs0:=qcr false 4 sch0 ⟨#[]⟩ tr0 0 h0 rfl qap qaf
 obtain ⟨Wq,hWq⟩:∃ W',W'=w3.alloc (.cells (recC false 0 sch0 ⟨#[]⟩ tr0 0 h0).toArray 189):=⟨_,rfl⟩
 have hbq:Below w3.heap.size w3 Wq:=by rw [hWq];exact (zb _ _).alloc (zl _) _
 have BQ0:Blk Wq w3.heap.size 189 (recC false 0 sch0 ⟨#[]⟩ tr0 0 h0).toArray:=by rw [hWq];exact Blk.new _ _ _
 have hthq:=Blk.there (o:=0) (n:=108) BQ0 (by rw [qaq _ _ _ _ _ _ _ rfl qap qaf];omega)
 obtain ⟨BQ,hgq⟩:=Blk.lay (recC false 4 sch0 ⟨#[]⟩ tr0 0 h0) 0 BQ0 (by rw [hrl0,qaq _ _ _ _ _ _ _ rfl qap qaf];omega)
 rw [qai _ _ (by rw [hrl0,qaq _ _ _ _ _ _ _ rfl qap qaf])] at BQ
 have hbq5:=(hbq.gw hgq)
 have HWq:=zh hWq
 clear hWq
 go_upto_region 3 with (first|((with_reducible refine sT 13 ?_);(refine qbt rfl 189 _ rfl (qjq 4) rfl ?_))|((with_reducible refine sS 4 ?_);(rw [<-HWq.out]);(refine wpList_store_mid rfl 189 _ _ rfl w3.heap.size 0 (recC false 4 sch0 ⟨#[]⟩ tr0 0 h0).toArray rfl rfl ?h1 ?h2 (all_oneCell_toArray hro0) ?_)))
 case h1=>exact (show (recC false 4 sch0 ⟨#[]⟩ tr0 0 h0).toArray.size=108 by simp [hrl0]) ▸ hthq
 case h2=>exact (show (recC false 4 sch0 ⟨#[]⟩ tr0 0 h0).toArray.size=(recC false 4 sch0 ⟨#[]⟩ tr0 0 h0).length by simp) ▸ hrs0
 obtain ⟨g4,hg4⟩:∃ g,w3.heap.size=g:=⟨_,rfl⟩
 have hg4w:w1.heap.size<=g4:=by have:=hbw3.size;omega
 have hy4:gy<g4:=by omega
 have BY4:=BY3.ext hbq5
 have BR4:=BR3.ext hbq5
 have HR4:=zh (HR3.out.ext hbq5)
 have hbw4:=(hbw3.tr hbq5)
 rw [hg4] at BQ BY4 BR4 HR4 hbw4 ⊢
 clear hthq hgq hbq BQ0 hrs0 hbq5 hg4 hro0 hrl0 hbw3 BY3 BR3 HR3 hy3 hz
 generalize Wq.setCells g4 0 (recC false 4 sch0 ⟨#[]⟩ tr0 0 h0)=w4 at *
 clear HWq
 have q1:w4.cell? ⟨g4,1,none⟩=some (.int .i64 4):=BQ.cell 1
 go_upto_region 14 with fail
 clear q1
 have D:=fun w' (hS:Blk w' gy 271 #[.pointer (some ⟨r,0,none⟩)])=>show w'.cell? ⟨gy,0,none⟩=some (.pointer (some ⟨r,0,none⟩)) from hS.cell 0
 refine r2 (S:=fun w'=>Blk w' gy 271 #[.pointer (some ⟨r,0,none⟩)]) [(0,true),(1,true),(3,true),(2,false),(5,true),(4,false),(6,false),(7,true),(8,false)] (Blk.drew BY4) ?_
 repeat ((first|refine pT ?_|refine pF ?_);try go_frame)
 have hd0:=(zb w4.heap.size w4).drew
 have HF:=zh (qim m (HR4.out.ext hd0) hm (by simp only [List.length_append,HHL.out,List.length_nil];omega))
 refine pD fun K hK=>?_;go_simp
 refine HF.out.mono ?_
 rintro e w5 ⟨rfl,hR5,hg5⟩
 have BQ5:=(Blk.drew BQ).grown hg5 (by intro e;injection e with e;omega)
 have BY5:=(Blk.drew BY4).grown hg5 (by intro e;injection e with e;omega)
 have BR5:=(Blk.drew BR4).grown hg5 (by intro e;injection e with e;omega)
 have hbw5:=(hbw4.drew).grown hg5 hbw4.size (fun k hk=>by injection hk with hk;omega)
 refine hK.out _ _ BY5 ?_
 clear hK K HF hg5 hd0 BQ BY4 BR4 hbw4 HR4
 repeat ((first|refine pT ?_|refine pF ?_);try go_frame)
 have HF:=zh (vhash_ hR5 HHL.out (by simp))
 refine pD fun K hK=>?_;go_simp
 refine HF.out.mono ?_
 rintro e w6 ⟨rfl,hR6,hg6⟩
 have BQ6:=BQ5.grown hg6 (by intro e;injection e with e;omega)
 have BY6:=BY5.grown hg6 (by intro e;injection e with e;omega)
 have BR6:=BR5.grown hg6 (by intro e;injection e with e;omega)
 have hbw6:=(hbw5.gw hg6)
 have HR6:=zh hR6
 refine hK.out _ _ BY6 ?_
 clear hK K HF hg6 hR5 hR6 BQ5 BY5 BR5 hbw5 D
 have p:w6.cell? ⟨g4,75,none⟩=some (.int .i64 0):=(BQ6.cell 75).trans (qov _ _ _ _ _ _ _ rfl qap)
 have f:=BQ6.frozen 75
 have BQ8:=BQ6.set_ 75 (.int .i64 (m:Int))
 rw [recC_n _ _ _ _ _ _ _ _ rfl qap] at BQ8
 have hg8:=qac w6 g4 75 (.int .i64 (m:Int))
 have hk8:Keep (fun b=>b≠g4) w6 (w6.setCell ⟨g4,75,none⟩ (.int .i64 (m:Int))):=Keep.set w6 _ _ (fun h=>h rfl)
 have BY8:=Blk.keep BY6 hk8 (Nat.ne_of_lt hy4)
 have BR8:=Blk.keep BR6 hk8 (show gr≠g4 by omega)
 have HR8:=zh (HR6.out.keep (hk8.mono (fun b h=>by have:=h.2;omega)))
 have hbw8:=(hbw6.gw hg8)
 refine pD fun K hK=>?_;go_simp
 refine hK.out _ _ BY8 ?_
 clear hK K p f hg8 hk8 BQ6 BY6 BR6 HR6 hbw6
 generalize w6.setCell ⟨g4,75,none⟩ (.int .i64 (m:Int))=w8 at *
 repeat ((first|refine pT ?_|refine pF ?_);try go_frame)
 have hsH:=qbq H HHL.out
 have hth:=Blk.there (o:=76) (n:=32) BQ8 (by rw [qaq _ _ _ _ _ _ _ rfl qap qaf];omega)
 obtain ⟨BQ7,hg7⟩:=Blk.lay (qaa H) 76 BQ8 (by rw [lenB,HHL.out,qaq _ _ _ _ _ _ _ rfl qap qaf];omega)
 rw [recC_H _ _ _ _ _ _ _ _ rfl qap (by rw [HHL.out,qaf])] at BQ7
 have hk7:Keep (fun b=>b≠g4) w8 (w8.setCells g4 76 (qaa H)):=Keep.grown hg7 (fun k hk h=>by injection hk with hk;exact h hk.symm)
 have BY7:=Blk.keep BY8 hk7 (Nat.ne_of_lt hy4)
 have BR7:=Blk.keep BR8 hk7 (show gr≠g4 by omega)
 have HR7:=zh (HR8.out.keep (hk7.mono (fun b h=>by have:=h.2;omega)))
 have hbw7:=(hbw8.gw hg7)
 refine qaj rfl (qae rfl) (fun K hK=>?_)
 refine qao 76 (.tmp 54) (.tmp 52) rfl rfl g4 76 (qaa H) rfl rfl (by rw [lenB,HHL.out];exact hth) hsH (oneB _) ?_
 refine hK.out _ _ BY7 (qad ?_)
 clear hK K hth hg7 hk7 hsH BQ8 BY8 BR8 HR8 hbw8
 generalize w8.setCells g4 76 (qaa H)=w10 at *
 have HF:=zh (rend_ HR7.out)
 have q:=BY7.cell 0
 have p0:w10.cell? ⟨g4,0,none⟩=some (.bool false):=BQ7.cell 0
 have f0:=BQ7.frozen 0
 go_wp2_with fail
 refine HF.out.mono ?_
 rintro e w' ⟨rfl,rfl⟩
 have BQ8:=BQ7.set_ 0 (.bool false)
 rw [qkr] at BQ8
 have hg8:=qac w10 g4 0 (.bool false)
 have hk8:Keep (fun b=>b≠g4) w10 (w10.setCell ⟨g4,0,none⟩ (.bool false)):=Keep.set w10 _ _ (fun h=>h rfl)
 have BR8:=Blk.keep BR7 hk8 (show gr≠g4 by omega)
 have hbw8:=(hbw7.gw hg8)
 clear HF hg8 hk8 BQ7 BR7 hbw7 BY7 HR7
 have hrl:=qaq false 4 (sch0) ⟨#[]⟩ (tr0) ((m:Int)) (H) rfl qap HHL.out
 have hro:=qde false 4 (sch0) ⟨#[]⟩ (tr0) ((m:Int)) (H) qej qfk
 have hrs:=qcr false 4 (sch0) ⟨#[]⟩ (tr0) ((m:Int)) (H) rfl qap HHL.out
 obtain ⟨rc,hrc⟩:∃ x,x=recC false 4 (sch0) ⟨#[]⟩ (tr0) ((m:Int)) (H):=⟨_,rfl⟩
 have HRC:=zh hrc
 rw [<-hrc] at hrl hro hrs BQ8
 clear hrc
 go_upto_region 16 with fail
 clear q p0 f0
 generalize w10.setCell ⟨g4,0,none⟩ (.bool false)=w8 at *
 have hth:=Blk.there (o:=0) (n:=108) BR8 (by rw [qaq _ _ _ _ _ _ _ rfl qap qaf];omega)
 obtain ⟨B9,hg9⟩:=Blk.lay rc 0 BR8 (by rw [hrl,qaq _ _ _ _ _ _ _ rfl qap qaf];omega)
 rw [qai _ _ (by rw [hrl,qaq _ _ _ _ _ _ _ rfl qap qaf])] at B9
 have hk9:Keep (fun b=>b≠gr) w8 (w8.setCells gr 0 rc):=Keep.grown hg9 (fun k hk h=>by injection hk with hk;exact h hk.symm)
 have hbw9:=(hbw8.gw hg9)
 clear hk9 hg9 hbw8 BR8
 go_wp2_with (first|((with_reducible refine sT 60 ?_);(refine wpList_load_mid rfl 189 _ rfl g4 0 rfl rc _ (Blk.whole BQ8) Tryz.underlying189 rfl hrs ?_))|((with_reducible refine sS 2 ?_);(refine wpList_store_mid rfl 189 _ _ rfl gr 0 rc.toArray rfl rfl ?h3 ?h4 (all_oneCell_toArray hro) ?_)))
 case h3=>exact (show rc.toArray.size=108 by simp [hrl]) ▸ hth
 case h4=>exact (show rc.toArray.size=rc.length by simp) ▸ hrs
 clear hth
 generalize w8.setCells gr 0 rc=w9 at *
 go_wp2
 exact bodyPost_ret (v:=.agg rc.toArray) (results_cell_row rfl _ _ gr _ _ (0,0) _ rfl B9 Tryz.underlying189 rfl (by rw [List.size_toArray];exact hrs)) rfl ⟨by rw [HRC.out],hbw9⟩
def FG (gf gm:Nat):qab:=fun b=>b≠gf/\b≠gm
def fndC (A1 A2 A3 A4:Option Addr) (n1 c1 n2 c2 n3 c3 n4 c4:Nat) (nx:Int) (O:Option Addr) (m c:Nat) (B:Option Addr) (k d gm:Nat):Array Value:=#[.int .u32 0,.int .i32 0,.int .u32 0,.slice none 0 0,.slice A1 n1 c1,.slice A2 n2 c2,.slice A3 n3 c3,.slice A4 n4 c4,.int .i64 nx,.slice O m c,.slice B k d,.map (some gm)]
structure Fnd (w:World) (gf gm:Nat) (D:qab) (x:DBd) (nx:Int) (op:List (List UInt8)) (bl:List BlkD) (M:List (Int × Value)):Prop where
 st:∃ (A1 A2 A3 A4:Option Addr) (n1 c1 n2 c2 n3 c3 n4 c4:Nat) (O:Option Addr) (m c:Nat) (B:Option Addr) (k d:Nat),Blk w gf 180 (fndC A1 A2 A3 A4 n1 c1 n2 c2 n3 c3 n4 c4 nx O m c B k d gm)/\eDB.rel w (fun b=>D b/\FG gf gm b) [.slice A1 n1 c1,.slice A2 n2 c2,.slice A3 n3 c3,.slice A4 n4 c4] x/\Sl eHash w (FG gf gm) O m c op/\Sl eBlk w (FG gf gm) B k d bl
 mp:MapI w gm M
 ne:gf≠gm
 nl:(op=[]->w.cell? ⟨gf,9,none⟩=some (.slice none 0 0))/\(bl=[]->w.cell? ⟨gf,10,none⟩=some (.slice none 0 0))
theorem Fnd.ext {gf gm:Nat} {D:qab} {nx:Int} {op:List (List UInt8)} {bl:List BlkD} {M:List (Int × Value)} (h:Fnd w gf gm D x nx op bl M) (hb:Below w.heap.size w w'):Fnd w' gf gm D x nx op bl M:=by
 obtain ⟨A1,A2,A3,A4,n1,c1,n2,c2,n3,c3,n4,c4,O,m,c,B,k,d,h1,h2,h3,h4⟩:=h.st
 exact ⟨⟨A1,A2,A3,A4,n1,c1,n2,c2,n3,c3,n4,c4,O,m,c,B,k,d,h1.ext hb,eDB.ext h2 hb,h3.ext hb,h4.ext hb⟩,h.mp.ext hb,h.ne,fun e=>(hb.cell (p:=⟨gf,9,none⟩) h1.lt).trans (h.nl.1 e),fun e=>(hb.cell (p:=⟨gf,10,none⟩) h1.lt).trans (h.nl.2 e)⟩
theorem Fnd.lt {gf gm:Nat} {D:qab} {nx:Int} {op:List (List UInt8)} {bl:List BlkD} {M:List (Int × Value)} (h:Fnd w gf gm D x nx op bl M):gf<w.heap.size/\gm<w.heap.size:=by
 obtain ⟨_,_,_,_,_,_,_,_,_,_,_,_,_,_,_,_,_,_,h1,_⟩:=h.st
 exact ⟨h1.lt,h.mp.lt⟩
theorem qdu {f:Value} (a b c d:Int):Calls Tryz.prog 52 #[f,.bool true,.agg #[.int .i64 a,.int .i64 b,.int .i64 c,.int .i64 d]] w fun e w'=>e=.returned (.tuple #[])/\Below w.heap.size w w':=by
 go_enter Tryz.func52,Tryz.ntmps52
 go_wp2
 go_end0
 exact ⟨rfl,(zb _ _).alloc (zl _) _⟩
def dbX:DBd:=([(schX,[])],[],[],[])
theorem okdb0:okDB db0:=by
 refine ⟨by simp [db0],fun t ht=>?_,by simp [db0],fun k hk=>?_,by simp [db0],by simp [db0]⟩
 ·simp [db0] at ht
 ·simp [db0] at hk
theorem vat1_ {gk:Nat} {a b c d:Value} (hkl:gk<w.heap.size) (hk:w.cell? ⟨gk,0,none⟩=some (.string ⟨#[120]⟩)):Calls Tryz.prog 235 #[.agg #[.string ⟨#[120]⟩,a,b,c,d],.pointer (some ⟨gk,0,none⟩)] w fun e w'=>e=.returned (.bool true)/\Below w.heap.size w w':=by
 have hb:(ByteArray.toList ⟨#[120]⟩ == ByteArray.toList ⟨#[120]⟩)=true:=by simp
 go_enter Tryz.func235,Tryz.ntmps235
 go_upto_region 1 with fail
 obtain ⟨W,hW_,hb1,B1⟩:=al1 w 120 #[.string ⟨#[120]⟩,a,b,c,d]
 rw [<-hW_]
 clear hW_
 have q:=(hb1.cell (p:=⟨gk,0,none⟩) hkl).trans hk
 have q1:=B1.cell 0
 go_wp2
 go_ret
 exact ⟨rfl,hb1⟩
theorem vidx_ {gk:Nat} {rows:List RowD} (h:Sl eTab w F A 1 c [(schX,rows)]) (hkl:gk<w.heap.size) (hk:w.cell? ⟨gk,0,none⟩=some (.string ⟨#[120]⟩)):
  Calls Tryz.prog 234 #[.slice A 1 c,.func (.func 235) #[] #[.pointer (some ⟨gk,0,none⟩)]] w fun e w'=>e=.returned (.int .i64 0)/\Below w.heap.size w w':=by
 obtain ⟨b,off,rfl,_,_,hbl⟩:=h.some_ (by omega)
 obtain ⟨cs0,hcs0,hcell0⟩:=h.at_ (show [(schX,rows)][0]? = some (schX,rows) from rfl)
 obtain ⟨A1,n1,c1,A2,n2,c2,rfl,_,_⟩:=qbo hcs0
 simp only [show eTab.k=5 from rfl,Nat.zero_mul,Nat.add_zero] at hcell0
 have p0:=hcell0 0 _ rfl
 have p1:=hcell0 1 _ rfl
 have p2:=hcell0 2 _ rfl
 have p3:=hcell0 3 _ rfl
 have p4:=hcell0 4 _ rfl
 simp only [Nat.add_zero] at p0
 simp only [schX_eq] at p0 p2 p3
 have hent:=enters_of (P:=Tryz.prog) Tryz.func235 (by kernel_rfl) rfl
 have HK:=zh hk
 clear h hcs0 hcell0 hk
 go_enter Tryz.func234,Tryz.ntmps234
 go_wp2_with fail
 refine wp_loop_rounds 2 ?_
 rw [rounds_succ]
 go_wp2_with fail
 have HF:=fun a b c d=>vat1_ (a:=a) (b:=b) (c:=c) (d:=d) hkl HK.out
 refine (HF _ _ _ _).mono ?_
 rintro e w2 ⟨rfl,hb2⟩
 clear HF p0 p1 p2 p3 p4
 go_wp2
 go_ret
 exact ⟨rfl,hb2⟩
theorem vat_ {gf:Nat} {rows:List RowD} (hg:w.cell? ⟨gf,4,none⟩=some (.slice A 1 c)) (hgl:gf<w.heap.size) (h:Sl eTab w F A 1 c [(schX,rows)]):
  Calls Tryz.prog 201 #[.pointer (some ⟨gf,0,none⟩),.string ⟨#[120]⟩] w fun e w'=>e=.returned (.int .i64 0)/\Below w.heap.size w w':=by
 have HS:=zh h
 clear h
 go_enter Tryz.func201,Tryz.ntmps201
 go_upto_region 1 with fail
 obtain ⟨W,hW_,hb1,BK⟩:=al1 w 9 #[.string ⟨#[120]⟩]
 rw [<-hW_]
 clear hW_
 obtain ⟨gk,hgk⟩:∃ g,w.heap.size=g:=⟨_,rfl⟩
 rw [hgk] at BK ⊢
 clear hgk
 have q:=(hb1.cell (p:=⟨gf,4,none⟩) hgl).trans hg
 have HF:=zh (vidx_ (HS.out.ext hb1) BK.lt (BK.cell 0))
 go_wp2_with fail
 refine HF.out.mono ?_
 rintro e w2 ⟨rfl,hb2⟩
 have hbw:=(hb1.tr hb2)
 clear HF q hb1 hb2 BK
 go_wp2
 go_ret
 exact ⟨rfl,hbw⟩
def TH (w:World) (F:qab) (A:Option Addr):Prop:=∃ b,A=some ⟨b,0,none⟩/\F b/\w.there b 0 5/\b<w.heap.size
theorem qlx {o:Nat} (h:w.there b o n) (hb:w'.heap[b]? = w.heap[b]?):w'.there b o n:=fun j hj=>by
 have:=h j hj
 unfold World.cell? World.frozen? at this ⊢
 simpa [hb] using this
theorem TH.keep (h:TH w F A) (k:Keep F w w'):TH w' F A:=by
 obtain ⟨b,h1,h2,h3,h4⟩:=h
 exact ⟨b,h1,h2,qlx h3 (k.block b h2 h4),Nat.lt_of_lt_of_le h4 k.size⟩
theorem TH.ext (h:TH w F A) (hb:Below w.heap.size w w'):TH w' F A:=h.keep (Keep.below hb)
theorem TH.mono (h:TH w F A) (k:∀ b,F b->G b):TH w G A:=by
 obtain ⟨b,h1,h2,h3⟩:=h
 exact ⟨b,h1,k b h2,h3⟩
theorem TH.of_own {t:TypeId} {x:List Tab} (h:OwnE eTab t w B F A 1 c x):TH w (fun b=>B<=b/\b<w.heap.size) A:=by
 have h0:=h
 obtain ⟨css,h1,h2,h3⟩:=h
 obtain ⟨g,rfl,hB,hg⟩:=qcb h1 (by omega)
 exact ⟨g,rfl,⟨hB,hg⟩,by have:=OwnE.there h0 (i:=0) (by omega);rw [Nat.zero_mul] at this;exact this,hg⟩
theorem vmadeO_ {gf gm:Nat} {D0:qab} {nx:Int} {op:List (List UInt8)} {bl:List BlkD} {M:List (Int × Value)} {FS:qab} {cc:Nat} {kk:Int} (h:Fnd w gf gm D0 db0 nx op bl M) (hS:Sl eCol w FS A 1 cc [(⟨#[97]⟩,2,false)]):
  Calls Tryz.prog 57 #[.pointer (some ⟨gf,0,none⟩),.int .i64 kk,.agg #[.string ⟨#[120]⟩,.slice A 1 cc,.int .i64 0,.bool false]] w fun e w'=>e=.returned (.tuple #[])/\Fnd w' gf gm (fun b=>w.heap.size<=b/\b<w'.heap.size) dbX nx op bl M/\Frm (fun b=>b=gf\/b=gm) w w'/\∃ A c,w'.cell? ⟨gf,4,none⟩=some (.slice A 1 c)/\TH w' (fun b=>w.heap.size<=b) A:=by
 have HH:=zh h
 have HSC:=zh hS
 have HK:=zh (fun (w':World) (F F':qab) (cs:List Value) (h1:eDB.rel w' F cs db0) (h2:Sl eCol w' F' A 1 cc [(⟨#[97]⟩,2,false)])=>show Calls Tryz.prog 21 #[.agg cs.toArray,.agg #[.string ⟨#[120]⟩,.slice A 1 cc,.int .i64 0,.bool false]] w' (DBEO dbX 0 w') from qom (nm:=nmX) (cols:=colX) (key:=0) (only:=false) h1 okdb0 h2 goodX (fun i j r r' _ hi=>by simp [db0] at hi) rfl (by simp [db0]) rfl)
 have hlt:=h.lt
 obtain ⟨X1,X2,X3,X4,i1,j1,i2,j2,i3,j3,i4,j4,O,m,c,B,k,d,BF,hd,hop,hbl⟩:=h.st
 have HD:=zh hd
 clear h hS hd hop hbl
 unfold fndC at BF
 go_enter Tryz.func57,Tryz.ntmps57
 go_upto_region 1 with fail
 obtain ⟨W,hW_,hb1,BC⟩:=al1 w 66 #[.string ⟨#[120]⟩,.slice A 1 cc,.int .i64 0,.bool false]
 rw [<-hW_]
 clear hW_
 obtain ⟨gc,hgc⟩:∃ g,w.heap.size=g:=⟨_,rfl⟩
 rw [hgc] at BC ⊢
 clear hgc
 have BF1:=BF.ext hb1
 have D:∀ w',Below W.heap.size W.drew w'->(w'.cell? ⟨gf,4,none⟩=some (.slice X1 i1 j1)/\w'.cell? ⟨gf,5,none⟩=some (.slice X2 i2 j2)/\w'.cell? ⟨gf,6,none⟩=some (.slice X3 i3 j3)/\w'.cell? ⟨gf,7,none⟩=some (.slice X4 i4 j4))/\w'.cell? ⟨gc,0,none⟩=some (.string ⟨#[120]⟩)/\w'.cell? ⟨gc,1,none⟩=some (.slice A 1 cc)/\w'.cell? ⟨gc,2,none⟩=some (.int .i64 0)/\w'.cell? ⟨gc,3,none⟩=some (.bool false):=fun w' h=>by
  have b1:=BF1.ext ((zb _ _).drew.trans h)
  have b2:=BC.ext ((zb _ _).drew.trans h)
  exact ⟨⟨b1.cell 4,b1.cell 5,b1.cell 6,b1.cell 7⟩,b2.cell 0,b2.cell 1,b2.cell 2,b2.cell 3⟩
 clear BF
 refine qdv (S:=fun w'=>Below W.heap.size W.drew w') (.seq [(0,true),(1,true),(2,true),(3,true),(4,true)] (.two 5 (.seq [(6,true),(7,true),(8,true),(9,false),(10,false),(11,true)] .fin) 9 (.seq [(5,false),(6,true),(7,true),(8,true),(10,false),(11,true)] .fin))) (by kernel_rfl) (by kernel_rfl) (zb _ _) ?_
 refine qbp ?_
 repeat ((first|refine pT ?_|refine pF ?_);try go_frame)
 clear D
 refine qaw ?_
 refine qff ?_ ?_
 ·refine pD fun K hK=>?_;go_simp
  have hwI:=hb1.drew.size
  have HF:=zh (HK.out W.drew _ _ _ (eDB.ext HD.out hb1.drew) (HSC.out.ext hb1.drew))
  refine HF.out.mono ?_
  rintro e w3 ⟨cz,rfl,hr3,⟨tA,tc,trest,te,tow⟩,hb3⟩
  have HR3:=zh (qhu hr3)
  have HTH3:=zh (TH.of_own tow)
  have HTE:=zh (show cz=.slice tA 1 tc::trest from te)
  clear te tow
  refine hK.out _ _ hb3 ?_
  clear hK K HF hr3
  refine qaw ?_
  refine qbp ?_
  repeat ((first|refine pT ?_|refine pF ?_);try go_frame)
  refine pD fun K hK=>?_;go_simp
  obtain ⟨w5,hwn⟩:∃ W',W'=w3.alloc (.cells #[.slice none 0 0,.slice none 0 0,.slice none 0 0,.slice none 0 0] 31):=⟨_,rfl⟩
  have hb35:Below w3.heap.size w3 w5:=by rw [hwn];exact (zb _ _).alloc (zl _) _
  have BD5:Blk w5 w3.heap.size 31 #[.slice none 0 0,.slice none 0 0,.slice none 0 0,.slice none 0 0]:=by rw [hwn];exact Blk.new _ _ _
  rw [<-hwn]
  obtain ⟨gd,hgd⟩:∃ g,w3.heap.size=g:=⟨_,rfl⟩
  have hgd3:W.heap.size<=gd:=by have:=hb3.size;have h:W.drew.heap.size=W.heap.size:=rfl;omega
  have HR5:=zh (eDB.mono (eDB.ext HR3.out hb35) (G:=fun b=>w.heap.size<=b/\b≠gd) (fun b h=>⟨Nat.le_trans hwI h.1,by have:=h.2;omega⟩))
  have HTH5:=zh ((HTH3.out.ext hb35).mono (G:=fun b=>w.heap.size<=b/\b≠gd) (fun b h=>⟨Nat.le_trans hwI h.1,by have:=h.2;omega⟩))
  rw [hgd] at BD5 ⊢
  have hb5:Below W.heap.size W.drew w5:=(hb3.tr hb35)
  refine hK.out _ _ hb5 ?_
  clear hK K hwn hb35 hb3 HR3 hgd
  have hczl:cz.length=4:=eDB.len HR5.out
  have hone:=eDB.one HR5.out
  have hszl:(Tryz.prog.info? 31).map (·.size)=some cz.length:=by rw [hczl];kernel_rfl
  have hth:=Blk.there (o:=0) (n:=4) BD5 (by simp)
  refine qaj rfl (qae rfl) (fun K hK=>?_)
  refine qao 31 (.tmp 6) (.tmp 15) rfl rfl gd 0 cz rfl rfl (by rw [hczl];exact hth) hszl hone ?_
  obtain ⟨BD6,hg6⟩:=Blk.lay cz 0 BD5 (by rw [hczl];simp)
  rw [qai _ _ (by rw [hczl];rfl)] at BD6
  have hb6:=hb5.grown hg6 hb5.size (fun k hk=>by injection hk with hk;omega)
  have HR6:=zh (eDB.mono (eDB.keep HR5.out (Keep.grown hg6 (fun g hg h=>by injection hg with hg;exact h.2 hg.symm))) (G:=fun b=>w.heap.size<=b) (fun b h=>h.1))
  have HTH6:=zh ((HTH5.out.keep (Keep.grown hg6 (fun g hg h=>by injection hg with hg;exact h.2 hg.symm))).mono (G:=fun b=>w.heap.size<=b) (fun b h=>h.1))
  refine hK.out _ _ hb6 ?_
  clear hK K hth hg6 BD5 hb5 HR5 hone hszl hczl
  generalize w5.setCells gd 0 cz=w6 at *
  repeat ((first|refine pT ?_|refine pF ?_);try go_frame)
  obtain ⟨Y1,e1,f1,Y2,e2,f2,Y3,e3,f3,Y4,e4,f4,rfl,_,_,_,_⟩:=qav HR6.out
  obtain ⟨rfl,rfl⟩:Y1=tA/\e1=1:=by
   have te:=HTE.out
   injection te with te _
   injection te with a b c
   exact ⟨a,b⟩
  clear HTE
  have BD6:Blk w6 gd 31 #[.slice Y1 1 f1,.slice Y2 e2 f2,.slice Y3 e3 f3,.slice Y4 e4 f4]:=BD6
  refine qaw (qcu ?_)
  have hb16:=(zb W.heap.size W).drew.trans hb6
  have HH6:=zh (HH.out.ext ((hb1.tr hb16)))
  have hbw6:=(hb1.tr hb16)
  clear hb6 hb16 BF1 BC hb1
  have HF:=fun a b c d=>zh (qdu (w:=w6) (f:=.pointer (some ⟨gf,0,none⟩)) a b c d)
  go_wp2_with fail
  refine (HF _ _ _ _).out.mono ?_
  rintro e w7 ⟨rfl,hb7⟩
  have BD7:=BD6.ext hb7
  have HR7:=zh (eDB.ext HR6.out hb7)
  have HTH7:=zh (HTH6.out.ext hb7)
  have hbw7:=(hbw6.tr hb7)
  have HH7:=zh (HH6.out.ext hb7)
  clear HF hb7 BD6 HR6 hbw6 HH6
  obtain ⟨X1,X2,X3,X4,i1,j1,i2,j2,i3,j3,i4,j4,O,m,c,B,k,d,BF7,_,hop7,hbl7⟩:=HH7.out.st
  have HOP:=zh (za hop7 hbl7)
  have HMN:=zh (za HH7.out.mp (za HH7.out.ne HH7.out.nl))
  unfold fndC at BF7
  have p:=four BD7 (zb _ _)
  have q4:=BF7.cell 4
  have q5:=BF7.cell 5
  have q6:=BF7.cell 6
  have q7:=BF7.cell 7
  have z4:=BF7.frozen 4
  have z5:=BF7.frozen 5
  have z6:=BF7.frozen 6
  have z7:=BF7.frozen 7
  clear hop7 hbl7 HH7
  go_wp2
  have BF8:Blk _ gf 180 (fndC Y1 Y2 Y3 Y4 1 f1 e2 f2 e3 f3 e4 f4 nx O m c B k d gm):=(((BF7.set_ 4 (.slice Y1 1 f1)).set_ 5 (.slice Y2 e2 f2)).set_ 6 (.slice Y3 e3 f3)).set_ 7 (.slice Y4 e4 f4)
  have hg8:=qah (qah (qac w7 gf 4 (.slice Y1 1 f1)) (qac _ gf 5 (.slice Y2 e2 f2))) (qah (qac _ gf 6 (.slice Y3 e3 f3)) (qac _ gf 7 (.slice Y4 e4 f4)))
  have hk8:Keep (FG gf gm) w7 _:=Keep.grown hg8 (fun x hx h=>by injection hx with hx;exact h.1 hx.symm)
  have hz8:=hg8.size
  go_end0
  exact ⟨rfl,⟨⟨Y1,Y2,Y3,Y4,1,f1,e2,f2,e3,f3,e4,f4,O,m,c,B,k,d,BF8,eDB.keep (eDB.mono (qhu HR7.out) (fun b h=>⟨⟨h.1,Nat.lt_of_lt_of_le h.2 hz8⟩,show FG gf gm b from ⟨by have:=h.1;omega,by have:=h.1;omega⟩⟩)) (hk8.mono (fun b h=>h.2)),HOP.out.1.keep hk8,HOP.out.2.keep hk8⟩,HMN.out.1.grown hg8 (by intro e;injection e with e;exact HMN.out.2.1 e.symm),HMN.out.2.1,fun e=>(BF8.cell 9).trans ((BF7.cell 9).symm.trans (HMN.out.2.2.1 e)),fun e=>(BF8.cell 10).trans ((BF7.cell 10).symm.trans (HMN.out.2.2.2 e))⟩,(Frm.below hbw7).trans (Frm.grown hg8 (fun x hx=>by injection hx with hx;exact .inl hx.symm)),Y1,f1,BF8.cell 4,HTH7.out.keep (Keep.grown hg8 (fun x hx h=>by injection hx with hx;omega))⟩
 ·refine pD fun K hK=>?_;go_simp
  obtain ⟨w4,hwn⟩:∃ W',W'=W.drew.alloc (.cells #[.slice none 0 0,.slice none 0 0,.slice none 0 0,.slice none 0 0] 31):=⟨_,rfl⟩
  have hb4:Below W.heap.size W.drew w4:=by rw [hwn];exact show Below W.heap.size W.drew (W.drew.alloc _) from (zb W.heap.size W.drew).alloc (zl _) _
  have BD4:Blk w4 W.heap.size 31 #[.slice none 0 0,.slice none 0 0,.slice none 0 0,.slice none 0 0]:=by rw [hwn];exact Blk.new _ _ _
  have hwn2:w4=(W.alloc (.cells #[.slice none 0 0,.slice none 0 0,.slice none 0 0,.slice none 0 0] 31)).drew:=hwn
  rw [<-hwn2]
  obtain ⟨gd,hgd⟩:∃ g,W.heap.size=g:=⟨_,rfl⟩
  have hgd3:W.heap.size<=gd:=by omega
  rw [hgd] at BD4 ⊢
  refine hK.out _ _ hb4 ?_
  clear hK K hwn hwn2 hgd
  refine qaw ?_
  refine qbp ?_
  have hb14:=hb1.drew.trans (zm hb4 hb1.size)
  refine pD fun K hK=>?_;go_simp
  have hwI:=hb14.size
  have HF:=zh (HK.out w4 _ _ _ (eDB.ext HD.out hb14) (HSC.out.ext hb14))
  refine HF.out.mono ?_
  rintro e w5 ⟨cz,rfl,hr3,⟨tA,tc,trest,te,tow⟩,hb45⟩
  have BD5:=BD4.ext hb45
  have hgl:=BD4.lt
  have HR5:=zh (eDB.mono hr3 (G:=fun b=>w.heap.size<=b/\b≠gd) (fun b (h:w4.heap.size<=b)=>⟨Nat.le_trans hwI h,by omega⟩))
  have HTH5:=zh ((TH.of_own tow).mono (G:=fun b=>w.heap.size<=b/\b≠gd) (fun b h=>⟨Nat.le_trans hwI h.1,by have:=h.1;omega⟩))
  have HTE:=zh (show cz=.slice tA 1 tc::trest from te)
  clear te tow
  have hb5:=(hb4.tr hb45)
  refine hK.out _ _ hb5 ?_
  clear hK K HF hr3 hb45 hb4 BD4 hgl hb14
  repeat ((first|refine pT ?_|refine pF ?_);try go_frame)
  have hczl:cz.length=4:=eDB.len HR5.out
  have hone:=eDB.one HR5.out
  have hszl:(Tryz.prog.info? 31).map (·.size)=some cz.length:=by rw [hczl];kernel_rfl
  have hth:=Blk.there (o:=0) (n:=4) BD5 (by simp)
  refine qaj rfl (qae rfl) (fun K hK=>?_)
  refine qao 31 (.tmp 6) (.tmp 15) rfl rfl gd 0 cz rfl rfl (by rw [hczl];exact hth) hszl hone ?_
  obtain ⟨BD6,hg6⟩:=Blk.lay cz 0 BD5 (by rw [hczl];simp)
  rw [qai _ _ (by rw [hczl];rfl)] at BD6
  have hb6:=hb5.grown hg6 hb5.size (fun k hk=>by injection hk with hk;omega)
  have HR6:=zh (eDB.mono (eDB.keep HR5.out (Keep.grown hg6 (fun g hg h=>by injection hg with hg;exact h.2 hg.symm))) (G:=fun b=>w.heap.size<=b) (fun b h=>h.1))
  have HTH6:=zh ((HTH5.out.keep (Keep.grown hg6 (fun g hg h=>by injection hg with hg;exact h.2 hg.symm))).mono (G:=fun b=>w.heap.size<=b) (fun b h=>h.1))
  refine hK.out _ _ hb6 ?_
  clear hK K hth hg6 BD5 hb5 HR5 hone hszl hczl
  generalize w5.setCells gd 0 cz=w6 at *
  repeat ((first|refine pT ?_|refine pF ?_);try go_frame)
  obtain ⟨Y1,e1,f1,Y2,e2,f2,Y3,e3,f3,Y4,e4,f4,rfl,_,_,_,_⟩:=qav HR6.out
  obtain ⟨rfl,rfl⟩:Y1=tA/\e1=1:=by
   have te:=HTE.out
   injection te with te _
   injection te with a b c
   exact ⟨a,b⟩
  clear HTE
  have BD6:Blk w6 gd 31 #[.slice Y1 1 f1,.slice Y2 e2 f2,.slice Y3 e3 f3,.slice Y4 e4 f4]:=BD6
  refine qaw (qcu ?_)
  have hb16:=(zb W.heap.size W).drew.trans hb6
  have HH6:=zh (HH.out.ext ((hb1.tr hb16)))
  have hbw6:=(hb1.tr hb16)
  clear hb6 hb16 BF1 BC hb1
  have HF:=fun a b c d=>zh (qdu (w:=w6) (f:=.pointer (some ⟨gf,0,none⟩)) a b c d)
  go_wp2_with fail
  refine (HF _ _ _ _).out.mono ?_
  rintro e w7 ⟨rfl,hb7⟩
  have BD7:=BD6.ext hb7
  have HR7:=zh (eDB.ext HR6.out hb7)
  have HTH7:=zh (HTH6.out.ext hb7)
  have hbw7:=(hbw6.tr hb7)
  have HH7:=zh (HH6.out.ext hb7)
  clear HF hb7 BD6 HR6 hbw6 HH6
  obtain ⟨X1,X2,X3,X4,i1,j1,i2,j2,i3,j3,i4,j4,O,m,c,B,k,d,BF7,_,hop7,hbl7⟩:=HH7.out.st
  have HOP:=zh (za hop7 hbl7)
  have HMN:=zh (za HH7.out.mp (za HH7.out.ne HH7.out.nl))
  unfold fndC at BF7
  have p:=four BD7 (zb _ _)
  have q4:=BF7.cell 4
  have q5:=BF7.cell 5
  have q6:=BF7.cell 6
  have q7:=BF7.cell 7
  have z4:=BF7.frozen 4
  have z5:=BF7.frozen 5
  have z6:=BF7.frozen 6
  have z7:=BF7.frozen 7
  clear hop7 hbl7 HH7
  go_wp2
  have BF8:Blk _ gf 180 (fndC Y1 Y2 Y3 Y4 1 f1 e2 f2 e3 f3 e4 f4 nx O m c B k d gm):=(((BF7.set_ 4 (.slice Y1 1 f1)).set_ 5 (.slice Y2 e2 f2)).set_ 6 (.slice Y3 e3 f3)).set_ 7 (.slice Y4 e4 f4)
  have hg8:=qah (qah (qac w7 gf 4 (.slice Y1 1 f1)) (qac _ gf 5 (.slice Y2 e2 f2))) (qah (qac _ gf 6 (.slice Y3 e3 f3)) (qac _ gf 7 (.slice Y4 e4 f4)))
  have hk8:Keep (FG gf gm) w7 _:=Keep.grown hg8 (fun x hx h=>by injection hx with hx;exact h.1 hx.symm)
  have hz8:=hg8.size
  go_end0
  exact ⟨rfl,⟨⟨Y1,Y2,Y3,Y4,1,f1,e2,f2,e3,f3,e4,f4,O,m,c,B,k,d,BF8,eDB.keep (eDB.mono (qhu HR7.out) (fun b h=>⟨⟨h.1,Nat.lt_of_lt_of_le h.2 hz8⟩,show FG gf gm b from ⟨by have:=h.1;omega,by have:=h.1;omega⟩⟩)) (hk8.mono (fun b h=>h.2)),HOP.out.1.keep hk8,HOP.out.2.keep hk8⟩,HMN.out.1.grown hg8 (by intro e;injection e with e;exact HMN.out.2.1 e.symm),HMN.out.2.1,fun e=>(BF8.cell 9).trans ((BF7.cell 9).symm.trans (HMN.out.2.2.1 e)),fun e=>(BF8.cell 10).trans ((BF7.cell 10).symm.trans (HMN.out.2.2.2 e))⟩,(Frm.below hbw7).trans (Frm.grown hg8 (fun x hx=>by injection hx with hx;exact .inl hx.symm)),Y1,f1,BF8.cell 4,HTH7.out.keep (Keep.grown hg8 (fun x hx h=>by injection hx with hx;omega))⟩
def SX:tb.Sch:=⟨⟨#[120]⟩,[⟨⟨#[97]⟩,2,false⟩],0,false⟩
def rX (N:Nat):List val.V:=[⟨2,(N:Int),⟨#[]⟩⟩]
def dbY (N:Nat):DBd:=([(schX,[[numV N]])],[],[],[])
theorem okX:tb.Ok SX.cols SX.key []:=⟨by decide,fun c h=>by injection h with h;subst h;rfl,fun r hr=>(by cases hr),.nil⟩
theorem Sl.zero {α:Type} {E:Enc α} (h:Sl E w F A 0 c []) (hs:w.heap.size<=w'.heap.size):Sl E w' F A 0 c []:=by
 obtain ⟨css,hr,he,_⟩:=h
 have hc:css=[]:=List.length_eq_zero_iff.1 he.1
 subst hc
 refine ⟨[],?_,Els.nil w' F,rfl⟩
 rcases hr with q|q|⟨b,off,e,h1,h2,h3,h4⟩
 ·exact .inl q
 ·exact .inr (.inl q)
 ·exact .inr (.inr ⟨b,off,e,h1,h2,Nat.lt_of_lt_of_le h3 hs,fun i u hu=>by simp at hu⟩)
theorem qfj (g:Nat):∀ (vs:List Value) (o:Nat) (w:World),w.grownBy (w.setCells g o vs) (some g)
 | [],_,w=>qby w _
 | v::vs,o,w=>qah (qac w g o v) (qfj g vs (o+1) (w.setCell ⟨g,o,none⟩ v))
theorem vchg_ {gf gm N:Nat} {D:qab} {nx:Int} {M:List (Int × Value)} (h:Fnd w gf gm D dbX nx [] [] M) (hT:∃ A c,w.cell? ⟨gf,4,none⟩=some (.slice A 1 c)/\TH w D A) (hr:Sl eVal w G A 1 c [numV N])
  (hput:tb.putL SX.cols SX.key [] (rX N)=(0,[rX N])) :
  Calls Tryz.prog 130 #[.pointer (some ⟨gf,0,none⟩),.agg #[.string ⟨#[120]⟩,.int .i64 1,.slice A 1 c]] w fun e w'=>e=.returned (.bool true)/\Fnd w' gf gm (fun b=>D b\/(w.heap.size<=b/\b<w'.heap.size)) (dbY N) nx [] [] M/\Frm D w w':=by
 have hlt:=h.lt
 have HR:=zh hr
 have HP:=zh hput
 obtain ⟨X1,X2,X3,X4,i1,j1,i2,j2,i3,j3,i4,j4,O,m,oc,B,k,d,BF,hd,hop,hbl⟩:=h.st
 have HOP:=zh (za hop (za hbl (za h.mp h.ne)))
 have HNL:=zh (za (h.nl.1 rfl) (h.nl.2 rfl))
 unfold fndC at BF
 obtain ⟨T,tc,hTc,b1,rfl,hDb,hth,hbl1⟩:=hT
 have e1:=(BF.cell 4).symm.trans hTc
 simp only [List.getElem?_toArray,List.getElem?_cons_succ,List.getElem?_cons_zero,Option.some.injEq,Value.slice.injEq] at e1
 obtain ⟨rfl,rfl,rfl⟩:=e1
 have HTH:=zh (za hDb (za hth hbl1))
 obtain ⟨_,_,_,_,_,_,_,_,_,_,_,_,he,hd1,hd2,hd3,hd4⟩:=qav hd
 simp only [List.cons.injEq,Value.slice.injEq,and_true] at he
 obtain ⟨⟨rfl,rfl,rfl⟩,⟨rfl,rfl,rfl⟩,⟨rfl,rfl,rfl⟩,⟨rfl,rfl,rfl⟩⟩:=he
 have z2:i2=0:=hd2.len.symm
 have z3:i3=0:=hd3.len.symm
 have z4:i4=0:=hd4.len.symm
 have zm:m=0:=hop.len.symm
 have zk:k=0:=hbl.len.symm
 subst z2 z3 z4 zm zk
 have HD1:=zh hd1
 have HDS:=zh (za hd2 (za hd3 hd4))
 obtain ⟨cs0,hcs0,hcell0⟩:=hd1.at_ (show [(schX,[])][0]? = some (schX,([]:List RowD)) from rfl)
 have HC0:=zh hcs0
 obtain ⟨C1,n1,c1,C2,n2,c2,rfl,_,_⟩:=qbo hcs0
 simp only [show eTab.k=5 from rfl,Nat.zero_mul,Nat.add_zero] at hcell0
 have HCE:=zh hcell0
 have HBFw:=zh BF
 clear h hr hput hd hop hbl hTc hDb hth hd1 hd2 hd3 hd4 hcs0 hcell0
 go_enter Tryz.func130,Tryz.ntmps130
 go_upto_region 1 with fail
 obtain ⟨W,hW_,hb1,BC⟩:=al1 w 126 #[.string ⟨#[120]⟩,.int .i64 1,.slice A 1 c]
 rw [<-hW_]
 clear hW_
 obtain ⟨gc,hgc⟩:∃ g,w.heap.size=g:=⟨_,rfl⟩
 rw [hgc] at BC ⊢
 clear hgc
 have BF1:=BF.ext hb1
 have HF:=zh (vat_ (BF1.cell 4) BF1.lt (HD1.out.ext hb1))
 have q:=BC.cell 0
 clear BF
 go_wp2_with fail
 refine HF.out.mono ?_
 rintro e w2 ⟨rfl,hb2⟩
 have BF2:=BF1.ext hb2
 have BC2:=BC.ext hb2
 have hbw2:=(hb1.tr hb2)
 have f4:=BF2.cell 4
 have p:∀ (j:Nat) u,[Value.string schX.1,.slice C1 n1 c1,.int .i64 schX.2.2.1,.bool schX.2.2.2,.slice C2 n2 c2][j]? = some u->w2.cell? ⟨b1,0+j,none⟩=some u:=fun j u hu=>(hbw2.cell (p:=⟨b1,0+j,none⟩) hbl1).trans (HCE.out j u hu)
 have p0:=p 0 _ rfl
 have p1:=p 1 _ rfl
 have p2:=p 2 _ rfl
 have p3:=p 3 _ rfl
 have p4:=p 4 _ rfl
 simp only [Nat.zero_add] at p0 p1 p2 p3 p4
 clear HF q hb1 hb2 BF1 BC p
 go_upto_region 5 with fail
 clear p0 p1 p2 p3 p4 f4
 obtain ⟨W3,hW_,hb3,BT⟩:=al1 w2 120 #[.string schX.1,.slice C1 n1 c1,.int .i64 schX.2.2.1,.bool schX.2.2.2,.slice C2 n2 c2]
 rw [<-hW_]
 clear hW_
 obtain ⟨gt,hgt⟩:∃ g,w2.heap.size=g:=⟨_,rfl⟩
 rw [hgt] at BT ⊢
 clear hgt
 have hbw3:=(hbw2.tr hb3)
 have BF3:=BF2.ext hb3
 have BC3:=BC2.ext hb3
 have HF:=tput_ (w:=W3) (S:=SX) (rows:=[]) (r:=rX N) (show eTab.rel W3 _ [.string schX.1,.slice C1 n1 c1,.int .i64 schX.2.2.1,.bool schX.2.2.2,.slice C2 n2 c2] (qaz SX []) from eTab.ext HC0.out hbw3) (show Sl eVal W3 _ A 1 c (qbf (rX N)) from HR.out.ext hbw3) (fun v hv=>by simp [rX] at hv;subst hv;exact Nat.zero_le _) okX (by decide) (by simp) (by omega)
 rw [HP.out] at HF
 have HF:=zh HF
 have t0:=BT.cell 0
 have t1:=BT.cell 1
 have t2:=BT.cell 2
 have t3:=BT.cell 3
 have t4:=BT.cell 4
 have qc:=BC3.three (zb _ _)
 clear hb3 hbw2 BF2 BC2
 go_wp2_with fail
 refine HF.out.mono ?_
 rintro e w4 ⟨cz,rfl,hr4,hb4⟩
 have HR4:=zh (qdm (show eTab.rel w4 (fun b=>W3.heap.size<=b) cz (schX,[[numV N]]) from hr4))
 obtain ⟨E1,m1,d1,E2,m2,d2,rfl,_,_⟩:=qbo HR4.out
 have hbw4:=(hbw3.tr hb4)
 have BF4:=BF3.ext hb4
 have h3w:w.heap.size<=W3.heap.size:=hbw3.size
 clear t0 t1 t2 t3 t4 qc HF hr4 hb4 hbw3 BF3 BC3 BT
 go_upto_region 7 with fail
 obtain ⟨W5,hW_,hb5,BN⟩:=al1 w4 120 #[.string schX.1,.slice E1 m1 d1,.int .i64 schX.2.2.1,.bool schX.2.2.2,.slice E2 m2 d2]
 rw [<-hW_]
 clear hW_
 obtain ⟨gn,hgn⟩:∃ g,w4.heap.size=g:=⟨_,rfl⟩
 rw [hgn] at BN ⊢
 clear hgn
 have hbw5:=(hbw4.tr hb5)
 have BF5:=BF4.ext hb5
 have HR5:=zh (eTab.ext HR4.out hb5)
 have h45:=hb5.size
 clear hb5 hbw4 BF4 HR4
 have D':=fun w' (h:Below W5.heap.size W5.drew w')=>show w'.cell? ⟨gf,4,none⟩=some (.slice (some ⟨b1,0,none⟩) 1 j1)/\w'.cell? ⟨gn,0,none⟩=some (.string schX.1)/\w'.cell? ⟨gn,1,none⟩=some (.slice E1 m1 d1)/\w'.cell? ⟨gn,2,none⟩=some (.int .i64 schX.2.2.1)/\w'.cell? ⟨gn,3,none⟩=some (.bool schX.2.2.2)/\w'.cell? ⟨gn,4,none⟩=some (.slice E2 m2 d2) from by
  have x1:=BF5.ext ((zb _ _).drew.trans h)
  have x2:=BN.ext ((zb _ _).drew.trans h)
  exact ⟨x1.cell 4,x2.cell 0,x2.cell 1,x2.cell 2,x2.cell 3,x2.cell 4⟩
 refine r3 (S:=fun w'=>Below W5.heap.size W5.drew w') [(0,true),(1,true),(2,true),(3,true),(4,true),(5,true),(6,true),(7,true)] [(8,false)] (zb _ _) ?_
 repeat ((first|refine pT ?_|refine pF ?_);try go_frame)
 refine qak ?_
 clear D'
 have hbd:=hbw5.drew
 obtain ⟨tc,htc⟩:∃ t:List Value,t=[.string schX.1,.slice E1 m1 d1,.int .i64 schX.2.2.1,.bool schX.2.2.2,.slice E2 m2 d2]:=⟨_,rfl⟩
 have HTC:=zh htc
 have htl:tc.length=5:=by rw [htc];rfl
 have hRd:=eTab.ext HR5.out (zb W5.heap.size W5).drew
 have hto:=eTab.one hRd
 rw [<-htc] at hRd hto
 have hts:(Tryz.prog.info? 120).map (·.size)=some tc.length:=by rw [htl];kernel_rfl
 have hth6:W5.drew.there b1 0 tc.length:=by rw [htl];exact qlx HTH.out.2.1 (hbd.block b1 HTH.out.2.2)
 have hra:=World.rangeAt_setCells_same W5.drew b1 0 tc hth6
 have hg6:=qfj b1 tc 0 W5.drew
 obtain ⟨bb,oo,ebb,hj,hFb,hbb⟩:=HD1.out.some_ (by omega)
 obtain ⟨rfl,rfl⟩:b1=bb/\0=oo:=by
  injection ebb with ebb
  injection ebb with a b
  exact ⟨a,b⟩
 have hfb:gf≠b1:=fun e=>hFb.2.1 e.symm
 have hmb:gm≠b1:=fun e=>hFb.2.2 e.symm
 clear htc
 refine qaj rfl (qae rfl) (fun K hK=>?_)
 refine qao 120 (.tmp 43) (.tmp 42) rfl rfl b1 0 tc rfl (by rw [HTC.out];rfl) hth6 hts hto ?_
 refine hK.out _ _ trivial (qad ?_)
 clear hK K
 have BF6:=(Blk.drew BF5).grown hg6 (by intro e;injection e with e;exact hfb e)
 have hk6:Keep (fun b=>b≠b1) W5.drew (W5.drew.setCells b1 0 tc):=Keep.grown hg6 (fun x hx h=>by injection hx with hx;exact h hx.symm)
 have hb1w:=HTH.out.2.2
 have hs6:=hg6.size
 have hwd:w.heap.size<=W5.drew.heap.size:=hbd.size
 have hE6:eTab.rel (W5.drew.setCells b1 0 tc) (fun b=>(D b\/(w.heap.size<=b/\b<(W5.drew.setCells b1 0 tc).heap.size))/\FG gf gm b) tc (schX,[[numV N]]):=eTab.mono (eTab.keep (F:=fun b=>W3.heap.size<=b/\b<w4.heap.size) hRd (hk6.mono (fun b h=>by have:=h.1;omega))) (fun b h=>by
  have h1:=h.1
  have h2:=h.2
  have h5:W5.drew.heap.size=W5.heap.size:=rfl
  exact ⟨.inr ⟨by omega,by omega⟩,⟨by omega,by omega⟩⟩)
 have hF2:∀ b,(D b/\FG gf gm b)->(D b\/(w.heap.size<=b/\b<(W5.drew.setCells b1 0 tc).heap.size))/\FG gf gm b:=fun b h=>⟨.inl h.1,h.2⟩
 have hz:=Nat.le_trans hwd hs6
 have hDB:eDB.rel (W5.drew.setCells b1 0 tc) (fun b=>(D b\/(w.heap.size<=b/\b<(W5.drew.setCells b1 0 tc).heap.size))/\FG gf gm b) [.slice (some ⟨b1,0,none⟩) 1 j1,.slice X2 0 j2,.slice X3 0 j3,.slice X4 0 j4] (dbY N) :=
  qeg (x:=dbY N) ⟨[tc],.inr (.inr ⟨b1,0,rfl,hj,hF2 b1 hFb,Nat.lt_of_lt_of_le hb1w hz,fun i u hu=>hra i u (by simpa using hu)⟩),Els.one_ hE6,rfl⟩ ((HDS.out.1.zero hz).mono hF2) ((HDS.out.2.1.zero hz).mono hF2) ((HDS.out.2.2.zero hz).mono hF2)
 have BFw:=HBFw.out
 have hMP:=(HOP.out.2.2.1.ext hbd).grown hg6 (by intro e;injection e with e;exact hmb e)
 have hFnd:Fnd (W5.drew.setCells b1 0 tc) gf gm (fun b=>D b\/(w.heap.size<=b/\b<(W5.drew.setCells b1 0 tc).heap.size)) (dbY N) nx [] [] M:=⟨⟨_,_,_,_,_,_,_,_,_,_,_,_,_,_,_,_,_,_,BF6,hDB,HOP.out.1.zero hz,HOP.out.2.1.zero hz⟩,hMP,HOP.out.2.2.2,fun _=>(BF6.cell 9).trans ((BFw.cell 9).symm.trans HNL.out.1),fun _=>(BF6.cell 10).trans ((BFw.cell 10).symm.trans HNL.out.2)⟩
 have hfr:=(Frm.below (G:=D) hbd).trans (Frm.grown hg6 (fun x hx=>by injection hx with hx;rw [<-hx];exact HTH.out.1))
 have HE:=zh (za hFnd hfr)
 clear BFw hFnd hfr hMP hDB hF2 hE6 hk6 BF6 hra hg6 hth6 hto hts hRd hbd BF5 BN hbw5 HR5
 generalize W5.drew.setCells b1 0 tc=w9 at *
 go_wp2
 go_ret
 exact ⟨rfl,HE.out⟩
section
variable {w w':World} {gf gm:Nat} {D:qab} {x:DBd} {nx:Int} {op:List (List UInt8)} {bl:List BlkD} {M:List (Int × Value)}
theorem Fnd.frozen (h:Fnd w gf gm D x nx op bl M) (i:Nat):w.frozen? ⟨gf,i,none⟩=false:=by
 obtain ⟨_,_,_,_,_,_,_,_,_,_,_,_,_,_,_,_,_,_,h1,_⟩:=h.st
 exact h1.frozen i
theorem Fnd.nx_ (h:Fnd w gf gm D x nx op bl M):w.cell? ⟨gf,8,none⟩=some (.int .i64 nx):=by
 obtain ⟨_,_,_,_,_,_,_,_,_,_,_,_,_,_,_,_,_,_,h1,_⟩:=h.st
 exact h1.cell 8
theorem Fnd.sums_ (h:Fnd w gf gm D x nx op bl M):w.cell? ⟨gf,11,none⟩=some (.map (some gm)):=by
 obtain ⟨_,_,_,_,_,_,_,_,_,_,_,_,_,_,_,_,_,_,h1,_⟩:=h.st
 exact h1.cell 11
theorem Fnd.found (h:Fnd w gf gm D x nx op bl M):w.cell? ⟨gf,3,none⟩=some (.slice none 0 0):=by
 obtain ⟨_,_,_,_,_,_,_,_,_,_,_,_,_,_,_,_,_,_,h1,_⟩:=h.st
 exact h1.cell 3
theorem Fnd.open_ (h:Fnd w gf gm D x nx op bl M):∃ O c,w.cell? ⟨gf,9,none⟩=some (.slice O op.length c)/\Sl eHash w (FG gf gm) O op.length c op:=by
 obtain ⟨_,_,_,_,_,_,_,_,_,_,_,_,O,m,c,_,_,_,h1,_,h3,_⟩:=h.st
 have e:=h3.len
 subst e
 exact ⟨O,c,h1.cell 9,h3⟩
theorem Fnd.blocks_ (h:Fnd w gf gm D x nx op bl M):∃ B d,w.cell? ⟨gf,10,none⟩=some (.slice B bl.length d)/\Sl eBlk w (FG gf gm) B bl.length d bl:=by
 obtain ⟨_,_,_,_,_,_,_,_,_,_,_,_,_,_,_,B,k,d,h1,_,_,h4⟩:=h.st
 have e:=h4.len
 subst e
 exact ⟨B,d,h1.cell 10,h4⟩
theorem Fnd.setNx (h:Fnd w gf gm D x nx op bl M) (m:Int):Fnd (w.setCell ⟨gf,8,none⟩ (.int .i64 m)) gf gm D x m op bl M:=by
 obtain ⟨A1,A2,A3,A4,n1,c1,n2,c2,n3,c3,n4,c4,O,mm,c,B,k,d,h1,h2,h3,h4⟩:=h.st
 have hk:Keep (FG gf gm) w (w.setCell ⟨gf,8,none⟩ (.int .i64 m)):=Keep.set w _ _ (fun h=>h.1 rfl)
 exact ⟨⟨A1,A2,A3,A4,n1,c1,n2,c2,n3,c3,n4,c4,O,mm,c,B,k,d,h1.set_ 8 _,eDB.keep h2 (hk.mono (fun b h=>h.2)),h3.keep hk,h4.keep hk⟩,h.mp.grown (qac w gf 8 _) (by intro e;injection e with e;exact h.ne e.symm),h.ne,fun e=>(World.cell?_setCell_other _ ⟨gf,8,none⟩ ⟨gf,9,none⟩ _ (by simp)).trans (h.nl.1 e),fun e=>(World.cell?_setCell_other _ ⟨gf,8,none⟩ ⟨gf,10,none⟩ _ (by simp)).trans (h.nl.2 e)⟩
theorem Fnd.setOp (h:Fnd w gf gm D x nx op bl M) {O:Option Addr} {op':List (List UInt8)} (hn:op'=[]->O=none/\m=0/\c=0) (hs:Sl eHash w (FG gf gm) O m c op'):Fnd (w.setCell ⟨gf,9,none⟩ (.slice O m c)) gf gm D x nx op' bl M:=by
 obtain ⟨A1,A2,A3,A4,n1,c1,n2,c2,n3,c3,n4,c4,O',mm,c',B,k,d,h1,h2,h3,h4⟩:=h.st
 have hk:Keep (FG gf gm) w (w.setCell ⟨gf,9,none⟩ (.slice O m c)):=Keep.set w _ _ (fun h=>h.1 rfl)
 exact ⟨⟨A1,A2,A3,A4,n1,c1,n2,c2,n3,c3,n4,c4,O,m,c,B,k,d,h1.set_ 9 _,eDB.keep h2 (hk.mono (fun b h=>h.2)),hs.keep hk,h4.keep hk⟩,h.mp.grown (qac w gf 9 _) (by intro e;injection e with e;exact h.ne e.symm),h.ne,fun e=>by obtain ⟨rfl,rfl,rfl⟩:=hn e;exact (h1.set_ 9 _).cell 9,fun e=>(World.cell?_setCell_other _ ⟨gf,9,none⟩ ⟨gf,10,none⟩ _ (by simp)).trans (h.nl.2 e)⟩
theorem Fnd.setBl (h:Fnd w gf gm D x nx op bl M) {O:Option Addr} {bl':List BlkD} (hn:bl'≠[]) (hs:Sl eBlk w (FG gf gm) O m c bl'):Fnd (w.setCell ⟨gf,10,none⟩ (.slice O m c)) gf gm D x nx op bl' M:=by
 obtain ⟨A1,A2,A3,A4,n1,c1,n2,c2,n3,c3,n4,c4,O',mm,c',B,k,d,h1,h2,h3,h4⟩:=h.st
 have hk:Keep (FG gf gm) w (w.setCell ⟨gf,10,none⟩ (.slice O m c)):=Keep.set w _ _ (fun h=>h.1 rfl)
 exact ⟨⟨A1,A2,A3,A4,n1,c1,n2,c2,n3,c3,n4,c4,O',mm,c',O,m,c,h1.set_ 10 _,eDB.keep h2 (hk.mono (fun b h=>h.2)),h3.keep hk,hs.keep hk⟩,h.mp.grown (qac w gf 10 _) (by intro e;injection e with e;exact h.ne e.symm),h.ne,fun e=>(World.cell?_setCell_other _ ⟨gf,10,none⟩ ⟨gf,9,none⟩ _ (by simp)).trans (h.nl.1 e),fun e=>absurd e hn⟩
theorem Fnd.setMp (h:Fnd w gf gm D x nx op bl M) {M':List (Int × Value)} (hg:w.grownBy w' (some gm)) (hm:MapI w' gm M'):Fnd w' gf gm D x nx op bl M':=by
 obtain ⟨A1,A2,A3,A4,n1,c1,n2,c2,n3,c3,n4,c4,O',mm,c',B,k,d,h1,h2,h3,h4⟩:=h.st
 have hk:Keep (FG gf gm) w w':=Keep.grown hg (fun x hx h=>by injection hx with hx;exact h.2 hx.symm)
 exact ⟨⟨A1,A2,A3,A4,n1,c1,n2,c2,n3,c3,n4,c4,O',mm,c',B,k,d,h1.grown hg (by intro e;injection e with e;exact h.ne e),eDB.keep h2 (hk.mono (fun b h=>h.2)),h3.keep hk,h4.keep hk⟩,hm,h.ne,fun e=>(World.cell?_of_block (hg.block gf h1.lt (by intro e;injection e with e;exact h.ne e))).trans (h.nl.1 e),fun e=>(World.cell?_of_block (hg.block gf h1.lt (by intro e;injection e with e;exact h.ne e))).trans (h.nl.2 e)⟩
end
def chX (N:Nat):Chg:=(⟨#[120]⟩,1,[numV N])
theorem vtx_ {gf gm N d:Nat} {D:qab} {M:List (Int × Value)} {B:Option Addr} (h:Fnd w gf gm D dbX (id:Int) [] [] M) (hT:∃ A c,w.cell? ⟨gf,4,none⟩=some (.slice A 1 c)/\TH w D A)
  (hc:Sl eChg w G A 1 c [chX N]) (hh:Sl eHash w G B 1 d [rowH id 0 (chX N)]) (hG:∀ b,G b->¬D b/\b≠gf) (hD:∀ b,D b->b<w.heap.size) (hok:OkC (chX N)) (hid:id<1000000) (hput:tb.putL SX.cols SX.key [] (rX N)=(0,[rX N])) :
  Calls Tryz.prog 59 #[.pointer (some ⟨gf,0,none⟩),.agg (trC id (.slice A 1 c) (.slice B 1 d) (rowH id 0 (chX N)) false h0).toArray] w fun e w'=>e=.returned (.tuple #[])/\(∃ D',Fnd w' gf gm D' (dbY N) ((id:Int)+1) [entH id (chX N)] [] M)/\Frm (fun b=>b=gf\/D b) w w':=by
 have hlt:=h.lt
 have HH0:=zh h
 have HT0:=zh hT
 have HC0:=zh hc
 have HB0:=zh hh
 have HOK:=zh hok
 have HPT:=zh hput
 obtain ⟨ba,oa,rfl,_,hGa,hbal⟩:=hc.some_ (by omega)
 obtain ⟨bb,ob,rfl,_,hGb,hbbl⟩:=hh.some_ (by omega)
 obtain ⟨H,hH⟩:∃ H,rowH id 0 (chX N)=H:=⟨_,rfl⟩
 have hHl:H.length=32:=by rw [<-hH];exact qbh _
 have HHH:=zh hH
 obtain ⟨cs0,hcs0,hcell0⟩:=hc.at_ (show [chX N][0]? = some (chX N) from rfl)
 obtain ⟨A3,n3,c3,rfl,hr3⟩:=qdh hcs0
 have hn3:n3=1:=hr3.len.symm
 subst hn3
 simp only [show eChg.k=3 from rfl,Nat.zero_mul,Nat.add_zero] at hcell0
 have HCE:=zh (za (hcell0 0 _ rfl) (za (hcell0 1 _ rfl) (hcell0 2 _ rfl)))
 have HCS:=zh hcs0
 have HR3:=zh hr3
 obtain ⟨hs0,hhs0,hhcell⟩:=hh.at_ (show [rowH id 0 (chX N)][0]? = some (rowH id 0 (chX N)) from rfl)
 obtain ⟨rfl,_⟩:=hhs0
 simp only [show eHash.k=32 from rfl,Nat.zero_mul,Nat.add_zero] at hhcell
 rw [hH] at hhcell ⊢
 have HHC:=zh (show w.rangeAt bb ob (qaa H) from hhcell)
 clear h hT hc hh hH hok hput hcs0 hcell0 hr3 hhcell
 have htl:=qem (id:Int) (.slice (some ⟨ba,oa,none⟩) 1 c) (.slice (some ⟨bb,ob,none⟩) 1 d) H false h0 hHl qaf
 have ht35:=qpf (id:Int) (.slice (some ⟨ba,oa,none⟩) 1 c) (.slice (some ⟨bb,ob,none⟩) 1 d) H false h0 hHl
 have htd:((trC (id:Int) (.slice (some ⟨ba,oa,none⟩) 1 c) (.slice (some ⟨bb,ob,none⟩) 1 d) H false h0).drop 3).take 32=qaa H:=by
  show (qaa H++(.bool false::qaa h0)).take 32=qaa H
  rw [List.take_append_of_le_length (by rw [lenB,hHl];omega),List.take_of_length_le (by rw [lenB,hHl];omega)]
 obtain ⟨tc,htc⟩:∃ t,t=trC (id:Int) (.slice (some ⟨ba,oa,none⟩) 1 c) (.slice (some ⟨bb,ob,none⟩) 1 d) H false h0:=⟨_,rfl⟩
 have ht0:tc.toArray[0]? = some (.int .i64 (id:Int)):=by rw [htc];rfl
 have ht1:tc.toArray[1]? = some (.slice (some ⟨ba,oa,none⟩) 1 c):=by rw [htc];rfl
 have ht2:tc.toArray[2]? = some (.slice (some ⟨bb,ob,none⟩) 1 d):=by rw [htc];rfl
 rw [<-htc] at htl ht35 htd ⊢
 have HTD:=zh htd
 clear htc htd
 go_enter Tryz.func59,Tryz.ntmps59
 go_upto_region 1 with fail
 obtain ⟨W,hW_,hb1,B3⟩:=al1 w 187 (tc.toArray)
 rw [<-hW_]
 clear hW_
 obtain ⟨g3,hg3⟩:∃ g,w.heap.size=g:=⟨_,rfl⟩
 have hg3w:w.heap.size<=g3:=by omega
 rw [hg3] at B3 ⊢
 clear hg3
 have HF1:=zh (HH0.out.ext hb1)
 obtain ⟨Bk,dk,qb,_⟩:=HF1.out.blocks_
 simp only [List.length_nil] at qb
 go_upto_region 2 with fail
 clear qb
 have D1:=fun w' (h:Below W.heap.size W.drew w')=>za (show w'.cell? ⟨g3,0,none⟩=some (.int .i64 (id:Int)) from ((B3.ext ((zb _ _).drew.trans h)).cell 0).trans ht0) ((HF1.out.ext ((zb _ _).drew.trans h)).nx_)
 refine r3 (S:=fun w'=>Below W.heap.size W.drew w') [(0,true),(1,true),(2,true),(3,true),(4,true),(5,true),(6,true),(7,true),(8,true),(9,true),(10,true),(11,true),(12,true),(13,true)] [(14,false)] (zb _ _) ?_
 repeat ((first|refine pT ?_|refine pF ?_);try go_frame)
 refine qak ?_
 clear D1
 have HM:=zh (fun a b c d=>qdu (w:=W.drew) (f:=.pointer (some ⟨gf,0,none⟩)) a b c d)
 refine pD fun K hK=>?_;go_simp
 refine (HM.out _ _ _ _).mono ?_
 rintro e w2 ⟨rfl,hb2⟩
 refine hK.out _ _ trivial (qad ?_)
 clear hK K HM
 have hbW2:=(zb W.heap.size W).drew.trans hb2
 have hbw2:=(hb1.tr hbW2)
 have B32:=B3.ext hbW2
 have HF2:=zh (HF1.out.ext hbW2)
 clear hb1 hb2 hbW2 B3 HF1
 have q8:=HF2.out.nx_
 have f8:=HF2.out.frozen 8
 have t0:=(B32.cell 0).trans ht0
 go_upto_region 4 with fail
 have HF3:=zh (HF2.out.setNx ((id:Int)+1))
 have hg3f:g3≠gf:=by have:=hlt.1;omega
 have B33:=B32.far (p:=⟨gf,8,none⟩) hg3f (.int .i64 ((id:Int)+1))
 have hk3:Keep (fun b=>¬D b/\b≠gf) w (w2.setCell ⟨gf,8,none⟩ (.int .i64 ((id:Int)+1))):=(Keep.below hbw2).trans (Keep.set w2 _ _ (fun h=>h.2 rfl))
 have hfr3:Frm (fun b=>b=gf\/D b) w (w2.setCell ⟨gf,8,none⟩ (.int .i64 ((id:Int)+1))):=(Frm.below hbw2).trans (Frm.grown (qac w2 gf 8 _) (fun x hx=>by injection hx with hx;exact .inl hx.symm))
 have hz3:w.heap.size<=(w2.setCell ⟨gf,8,none⟩ (.int .i64 ((id:Int)+1))).heap.size:=hk3.size
 have HT3:Hid (∃ A c,(w2.setCell ⟨gf,8,none⟩ (.int .i64 ((id:Int)+1))).cell? ⟨gf,4,none⟩=some (.slice A 1 c)/\TH (w2.setCell ⟨gf,8,none⟩ (.int .i64 ((id:Int)+1))) D A):=zh (by
  obtain ⟨A,c,h1,h2⟩:=HT0.out
  refine ⟨A,c,(World.cell?_setCell_other _ ⟨gf,8,none⟩ ⟨gf,4,none⟩ _ (by simp)).trans ((hbw2.cell (p:=⟨gf,4,none⟩) hlt.1).trans h1),?_⟩
  obtain ⟨b,e,hDb,hth,hbl⟩:=h2.ext hbw2
  exact ⟨b,e,hDb,World.there_setCells hth gf 8 [.int .i64 ((id:Int)+1)],by simpa using hbl⟩)
 clear q8 f8 t0 HF2 B32 hbw2
 generalize w2.setCell ⟨gf,8,none⟩ (.int .i64 ((id:Int)+1))=w3 at *
 have hGk:∀ b,G b->¬D b/\b≠gf:=hG
 have t1:=(B33.cell 1).trans ht1
 have p0:w3.cell? ⟨ba,oa,none⟩=some (.string (chX N).1):=(World.cell?_of_block (hk3.block ba (hG ba hGa) hbal)).trans (by have:=HCE.out.1;simpa using this)
 have p1:w3.cell? ⟨ba,oa+1,none⟩=some (.int .i64 (chX N).2.1):=(World.cell?_of_block (hk3.block ba (hG ba hGa) hbal)).trans HCE.out.2.1
 have p2:w3.cell? ⟨ba,oa+2,none⟩=some (.slice A3 1 c3):=(World.cell?_of_block (hk3.block ba (hG ba hGa) hbal)).trans HCE.out.2.2
 go_wp2_with fail
 refine wp_loop_rounds 2 ?_
 rw [rounds_succ]
 go_upto_region 8 with fail
 clear p0 p1 p2 t1
 obtain ⟨W4,hW_,hb4,BV⟩:=al1 w3 126 #[.string (chX N).1,.int .i64 (chX N).2.1,.slice A3 1 c3]
 rw [<-hW_]
 clear hW_
 obtain ⟨g7,hg7⟩:∃ g,w3.heap.size=g:=⟨_,rfl⟩
 have hg7w:w.heap.size<=g7:=by omega
 rw [hg7] at BV ⊢
 clear hg7
 have B34:=B33.ext hb4
 have hk4:=hk3.trans (Keep.below hb4)
 have HF:=zh (lrow_ (w:=W4) (tx:=id) (seq:=0) (eChg.keep HCS.out (hk4.mono hG)) HOK.out (by omega) (by omega))
 have qv:=BV.three (zb _ _)
 have t0:=(B34.cell 0).trans ht0
 go_wp2_with fail
 refine HF.out.mono ?_
 rintro e w5 ⟨rfl,hb5⟩
 rw [HHH.out]
 have hb35:=(hb4.tr hb5)
 have BV5:=BV.ext hb5
 have B35:=B34.ext hb5
 clear HF qv t0 B34 hk4 hb4 hb5 BV B33
 have hsz9:=qbq H hHl
 obtain ⟨Wq,hWq⟩:∃ W',W'=w5.alloc (.cells (qaa h0).toArray 76):=⟨_,rfl⟩
 have hbq:Below w5.heap.size w5 Wq:=by rw [hWq];exact (zb _ _).alloc (zl _) _
 have BQ0:Blk Wq w5.heap.size 76 (qaa h0).toArray:=by rw [hWq];exact Blk.new _ _ _
 have hthq:=Blk.there (o:=0) (n:=32) BQ0 (by rw [lenB,qaf];omega)
 obtain ⟨BQ,hgq⟩:=Blk.lay (qaa H) 0 BQ0 (by rw [lenB,lenB,qaf,hHl];omega)
 rw [qai _ _ (by rw [lenB,lenB,qaf,hHl])] at BQ
 have hbq5:=(hbq.gw hgq)
 have HWq:=zh hWq
 have hz:=qcn
 clear hWq
 go_upto_region 9 with ((with_reducible refine sS 8 ?_);(rw [<-HWq.out]);(refine wpList_store_mid rfl 76 _ _ rfl w5.heap.size 0 (qaa H).toArray rfl rfl ?h1 ?h2 (all_oneCell_toArray (oneB _)) ?_))
 case h1=>exact (show (qaa H).toArray.size=32 by simp [lenB,hHl]) ▸ hthq
 case h2=>exact (show (qaa H).toArray.size=(qaa H).length by simp) ▸ hsz9
 clear hthq hgq hbq BQ0 hz
 obtain ⟨g8,hg8⟩:∃ g,w5.heap.size=g:=⟨_,rfl⟩
 have hg8w:w3.heap.size<=g8:=by have:=hb35.size;omega
 have BV6:=BV5.ext hbq5
 have B36:=B35.ext hbq5
 have hb36:=(hb35.tr hbq5)
 rw [hg8] at BQ BV6 B36 hb36 ⊢
 clear hg8 BV5 B35 hb35 hbq5
 generalize Wq.setCells g8 0 (qaa H)=w6 at *
 clear HWq
 obtain ⟨i0,hi0,hy0,hy1,hy2⟩:=ip Tryz.prog 76 (.agg (qaa h0).toArray) 32 32
 have hzs:(Value.agg (qaa h0).toArray).cells.size=32:=by kernel_rfl
 go_upto_region 10 with (first|((with_reducible refine sT 54 ?_);(refine wpList_load_mid rfl 76 _ rfl g8 0 rfl (qaa H) _ (Blk.whole BQ) Tryz.underlying76 rfl hsz9 ?_)) |
  ((with_reducible refine sT 55 ?_);(refine wpList_plain rfl fun K hK=>?_);(refine qbs 55 178 76 (.tmp 54) rfl rfl (qaa H) rfl i0 _ Tryz.underlying178 hi0 hy0 (by rw [hy1,lenB,hHl]) (by rw [lenB,hHl];omega) (by rw [lenB,hHl];omega) ?_);(refine hK _ _ ?_)) |
  (at_builtin;(refine wpList_append_own _ rfl (.tmp 53) (.tmp 55) 178 rfl w6.heap.size 76 i0 _ 32 32 Tryz.underlying178 hi0 hy0 hy1 hy2 hzs (by decide) _ 0 _ rfl (qkk _ _ _ _) ⟨w6.heap.size,0,none⟩ 1 1 (qaa H) rfl ?a1 ?a2 ?a3 ?a4 ?a5 ?a6 ?_)))
 case a1=>rw [lenB,hHl]
 case a2=>exact (Row.of_blk (lo:=0) (Blk.new w6 76 (qaa H).toArray) (Nat.zero_le _) 1 1 (zl _)).src
 case a3=>exact oneB H
 case a4=>unfold maxLen;omega
 case a5=>omega
 case a6=>simp
 intro v' w7 hown hgrow _
 obtain ⟨A7,c7,rfl⟩:=qan hown
 obtain ⟨g9,rfl,hg9lo,hg9hi⟩:=qcb hown (by omega)
 have hba:=(zb w6.heap.size w6).alloc (zl _) (.cells (qaa H).toArray 76)
 have hb7:=hba.grown hgrow hba.size (fun k hk=>by simp [Value.ownBlock] at hk)
 have hrow:=Row.of_own hown
 have HRG:=zh (show w7.rangeAt g9 0 (qaa H) from fun j u hu=>hrow.at_ hu)
 have hc7:1<=c7:=hrow.le_
 have BV7:=BV6.ext hb7
 have B37:=B36.ext hb7
 have BQ7:=BQ.ext hb7
 have hb37:=(hb36.tr hb7)
 have hg9w:w3.heap.size<=g9:=by have:=hb36.size;omega
 have HF7:=zh (HF3.out.ext hb37)
 have HT7:Hid (∃ A c,w7.cell? ⟨gf,4,none⟩=some (.slice A 1 c)/\TH w7 D A):=zh (by
  obtain ⟨A,c,h1,h2⟩:=HT3.out
  exact ⟨A,c,(hb37.cell (p:=⟨gf,4,none⟩) HF3.out.lt.1).trans h1,h2.ext hb37⟩)
 have hk7:=hk3.trans (Keep.below hb37)
 have hfr7:=hfr3.trans (Frm.below hb37)
 have hz7:=Nat.le_trans hz3 hb37.size
 clear hown hgrow hba hb7 hrow BV6 B36 BQ hb36 HF3 HT3 hk3 hfr3
 go_upto_region 10 with fail
 have HRB:=zh (show w7.rangeAt bb ob (qaa H) from fun j u hu=>(World.cell?_of_block (hk7.block bb (hG bb hGb) hbbl)).trans (HHC.out j u hu))
 have hbb7:bb<w7.heap.size:=Nat.lt_of_lt_of_le hbbl hz7
 have D1:=fun w' (h:Below w7.heap.size w7.drew w')=>za (show w'.cell? ⟨g3,0,none⟩=some (.int .i64 (id:Int)) from ((B37.ext ((zb _ _).drew.trans h)).cell 0).trans ht0) (show w'.cell? ⟨g3,2,none⟩=some (.slice (some ⟨bb,ob,none⟩) 1 d) from ((B37.ext ((zb _ _).drew.trans h)).cell 2).trans ht2)
 refine r3 (S:=fun w'=>Below w7.heap.size w7.drew w') [(0,true),(1,true),(2,true),(3,true),(4,true),(5,true),(6,true),(7,true),(8,true),(9,true),(10,true),(11,true),(12,true),(13,true)] [(14,false)] (zb _ _) ?_
 ((first|refine pT ?_|refine pF ?_);try go_frame)
 refine qas rfl rfl (qae rfl) (fun w' hS=>qba 76 (.tmp 8) rfl g8 0 rfl (qaa H) _ (Blk.whole (BQ7.ext ((zb _ _).drew.trans hS))) Tryz.underlying76 rfl hsz9) ?_
 go_frame
 iterate 4 (((first|refine pT ?_|refine pF ?_);try go_frame))
 refine qas rfl rfl (qae rfl) (fun w' hS=>qba 76 (.tmp 62) rfl bb ob rfl (qaa H) _ (fun j u hu=>(((zb _ _).drew.trans hS).cell (p:=⟨bb,ob+j,none⟩) hbb7).trans (HRB.out j u hu)) Tryz.underlying76 rfl hsz9) ?_
 go_frame
 refine qas rfl rfl (qae rfl) (fun w' hS=>qga (.tmp 58) (.tmp 63) rfl H hHl rfl rfl) ?_
 go_frame
 repeat ((first|refine pT ?_|refine pF ?_);try go_frame)
 refine qak ?_
 clear D1
 have HM:=zh (fun a b c d=>qdu (w:=w7.drew) (f:=.pointer (some ⟨gf,0,none⟩)) a b c d)
 refine pD fun K hK=>?_;go_simp
 refine (HM.out _ _ _ _).mono ?_
 rintro e w8 ⟨rfl,hb8⟩
 refine hK.out _ _ trivial (qad ?_)
 clear hK K HM HRB
 have hb78:=(zb w7.heap.size w7).drew.trans hb8
 have BV8:=BV7.ext hb78
 have B38:=B37.ext hb78
 have HF8:=zh (HF7.out.ext hb78)
 have HT8:Hid (∃ A c,w8.cell? ⟨gf,4,none⟩=some (.slice A 1 c)/\TH w8 D A):=zh (by
  obtain ⟨A,c,h1,h2⟩:=HT7.out
  exact ⟨A,c,(hb78.cell (p:=⟨gf,4,none⟩) HF7.out.lt.1).trans h1,h2.ext hb78⟩)
 have hk8:=hk7.trans (Keep.below hb78)
 have hfr8:=hfr7.trans (Frm.below hb78)
 have hz8:=Nat.le_trans hz7 hb78.size
 have HRG8:=zh (show w8.rangeAt g9 0 (qaa H) from fun j u hu=>(hb78.cell (p:=⟨g9,0+j,none⟩) hg9hi).trans (HRG.out j u hu))
 have hg9l:g9<w8.heap.size:=Nat.lt_of_lt_of_le hg9hi hb78.size
 clear hb8 hb78 BV7 B37 BQ7 HF7 HT7 hk7 hfr7 HRG hb37 hbb7
 go_upto_region 11 with fail
 have hDw:∀ b,w.heap.size<=b->¬D b/\b≠gf:=fun b hb=>⟨fun h=>by have:=hD b h;omega,by have:=hlt.1;omega⟩
 have D1:=fun w' (hS:Blk w' g3 187 tc.toArray/\Blk w' g7 126 #[.string (chX N).1,.int .i64 (chX N).2.1,.slice A3 1 c3])=>za (show w'.cell? ⟨g3,0,none⟩=some (.int .i64 (id:Int)) from (hS.1.cell 0).trans ht0) (hS.2.three (zb _ _))
 refine r2 (S:=fun w'=>Blk w' g3 187 tc.toArray/\Blk w' g7 126 #[.string (chX N).1,.int .i64 (chX N).2.1,.slice A3 1 c3]) [(0,true),(1,true),(2,true),(4,true),(5,true),(6,true),(7,true),(8,true),(9,true),(3,false),(10,false)] ⟨Blk.drew B38,Blk.drew BV8⟩ ?_
 repeat ((first|refine pT ?_|refine pF ?_);try go_frame)
 clear D1
 have hd0:=(zb w8.heap.size w8).drew
 have HF:=zh (vchg_ (w:=w8.drew) (HF8.out.ext hd0) (by
  obtain ⟨A,c,h1,h2⟩:=HT8.out
  exact ⟨A,c,(hd0.cell (p:=⟨gf,4,none⟩) HF8.out.lt.1).trans h1,h2.ext hd0⟩) (HR3.out.keep ((hk8.trans (Keep.below hd0)).mono hG)) HPT.out)
 refine pD fun K hK=>?_;go_simp
 refine HF.out.mono ?_
 rintro e w9 ⟨rfl,hFn,hfr9⟩
 have hkD:Keep (fun b=>¬D b) w8.drew w9:=hfr9.keep (fun b h _=>h)
 have B39:=Blk.keep (Blk.drew B38) hkD (hDw g3 hg3w).1
 have BV9:=Blk.keep (Blk.drew BV8) hkD (hDw g7 hg7w).1
 have HF9:=zh hFn
 have hk9:=(hk8.trans (Keep.below hd0)).trans (hkD.mono (fun b h=>h.1))
 have hfr9:=(hfr8.trans (Frm.below hd0)).trans (hfr9.mono (fun b h=>.inr h))
 have hz9:=Nat.le_trans hz8 (Nat.le_trans hd0.size hkD.size)
 have HRG9:=zh (show w9.rangeAt g9 0 (qaa H) from fun j u hu=>(World.cell?_of_block (hkD.block g9 (hDw g9 (by omega)).1 (by exact hg9l))).trans ((hd0.cell (p:=⟨g9,0+j,none⟩) hg9l).trans (HRG8.out j u hu)))
 have hg9l9:g9<w9.heap.size:=Nat.lt_of_lt_of_le hg9l hkD.size
 refine hK.out _ _ ⟨B39,BV9⟩ ?_
 clear hK K HF hd0 hFn hkD B38 BV8 HF8 HT8 hk8 hfr8 HRG8 hg9l
 have HM:=zh (fun a b c d=>qdu (w:=w9) (f:=.pointer (some ⟨gf,0,none⟩)) a b c d)
 refine pD fun K hK=>?_;go_simp
 refine (HM.out _ _ _ _).mono ?_
 rintro e w10 ⟨rfl,hb10⟩
 have B310:=B39.ext hb10
 refine hK.out _ _ ⟨B310,BV9.ext hb10⟩ (qad ?_)
 clear hK K HM
 obtain ⟨D9,hD9⟩:∃ D9:qab,D9=fun b=>D b\/(w8.drew.heap.size<=b/\b<w9.heap.size):=⟨_,rfl⟩
 have HF10:=zh (show Fnd w10 gf gm D9 (dbY N) ((id:Int)+1) [] [] M from hD9 ▸ HF9.out.ext hb10)
 have hk10:=hk9.trans (Keep.below hb10)
 have hfr10:=hfr9.trans (Frm.below hb10)
 have hz10:=Nat.le_trans hz9 hb10.size
 have HRG10:=zh (show w10.rangeAt g9 0 (qaa H) from fun j u hu=>(hb10.cell (p:=⟨g9,0+j,none⟩) hg9l9).trans (HRG9.out j u hu))
 have hg9l:=Nat.lt_of_lt_of_le hg9l9 hb10.size
 clear hb10 B39 BV9 HF9 hk9 hfr9 hz9 HRG9 hg9l9 hD9 hg7w
 go_wp2_with fail
 rw [rounds_succ]
 go_upto_region 13 with fail
 have D1:=fun w' (h:Below w10.heap.size w10.drew w')=>show w'.cell? ⟨g3,0,none⟩=some (.int .i64 (id:Int)) from ((B310.ext ((zb _ _).drew.trans h)).cell 0).trans ht0
 refine r3 (S:=fun w'=>Below w10.heap.size w10.drew w') [(0,true),(1,true),(3,true),(4,true),(6,true),(7,true),(8,true),(9,true),(10,true),(2,false),(5,true)] [(11,false)] (zb _ _) ?_
 iterate 3 (((first|refine pT ?_|refine pF ?_);try go_frame))
 refine qas rfl rfl (qae rfl) (fun w' hS=>qba 76 (.tmp 87) rfl g3 3 rfl (qaa H) _ (Blk.range (B310.ext ((zb _ _).drew.trans hS)) (by rw [lenB,hHl];exact HTD.out)) Tryz.underlying76 rfl hsz9) ?_
 go_frame
 iterate 5 (((first|refine pT ?_|refine pF ?_);try go_frame))
 clear D1
 have hd0:=(zb w10.heap.size w10).drew
 have HF:=zh (qlr hHl (show w10.drew.rangeAt g9 0 (qaa H) from fun j u hu=>(hd0.cell (p:=⟨g9,0+j,none⟩) hg9l).trans (HRG10.out j u hu)) (by exact hg9l) hc7)
 refine pD fun K hK=>?_;go_simp
 refine HF.out.mono ?_
 rintro e w11 ⟨rfl,hb11⟩
 refine hK.out _ _ hb11 ?_
 clear hK K HF
 refine qas rfl rfl (qae rfl) (fun w' hS=>qga (.tmp 86) (.tmp 88) rfl H hHl rfl rfl) ?_
 go_frame
 refine qak ?_
 have HM:=zh (fun a b c d=>qdu (w:=w11) (f:=.pointer (some ⟨gf,0,none⟩)) a b c d)
 refine pD fun K hK=>?_;go_simp
 refine (HM.out _ _ _ _).mono ?_
 rintro e w12 ⟨rfl,hb12⟩
 refine hK.out _ _ trivial (qad ?_)
 clear hK K HM HRG10
 have hb1012:=(hd0.trans hb11).trans (zm hb12 (hd0.trans hb11).size)
 have B312:=B310.ext hb1012
 have HF12:=zh (HF10.out.ext hb1012)
 have hk12:=hk10.trans (Keep.below hb1012)
 have hfr12:=hfr10.trans (Frm.below hb1012)
 have hz12:=Nat.le_trans hz10 hb1012.size
 clear hb11 hb12 hb1012 hd0 B310 HF10 hk10 hfr10 hz10 hg9l
 go_upto_region 14 with fail
 have qo:=HF12.out.nl.1 rfl
 have hof:gf<w12.heap.size:=HF12.out.lt.1
 have D1:=fun w' (h:Below w12.heap.size w12.drew w')=>za (show w'.cell? ⟨g3,0,none⟩=some (.int .i64 (id:Int)) from ((B312.ext ((zb _ _).drew.trans h)).cell 0).trans ht0) (za (show w'.cell? ⟨g3,1,none⟩=some (.slice (some ⟨ba,oa,none⟩) 1 c) from ((B312.ext ((zb _ _).drew.trans h)).cell 1).trans ht1) ((((zb _ _).drew.trans h).cell (p:=⟨gf,9,none⟩) hof).trans qo))
 refine r3 (S:=fun w'=>Below w12.heap.size w12.drew w') [(0,true),(1,true),(2,true),(3,true),(4,true),(5,true),(6,true),(7,false),(8,false),(9,false),(10,true),(11,true)] [(12,false)] (zb _ _) ?_
 repeat ((first|refine pT ?_|refine pF ?_);try go_frame)
 have hd0:=(zb w12.heap.size w12).drew
 have HF:=zh (entry_ (w:=w12.drew) (eTx_mk (x:=((id:Int),[chX N])) (HC0.out.keep ((hk12.trans (Keep.below hd0)).mono hG))) HOK.out (by omega))
 refine pD fun K hK=>?_;go_simp
 refine HF.out.mono ?_
 rintro e w13 ⟨rfl,hb13⟩
 obtain ⟨J,hJ⟩:∃ J,entH id (chX N)=J:=⟨_,rfl⟩
 have hJl:J.length=32:=by rw [<-hJ];exact qbh _
 have HJ:=zh hJ
 rw [hJ]
 refine hK.out _ _ hb13 ?_
 clear hK K HF hJ
 refine qaj rfl (qae rfl) (fun K hK=>?_)
 refine qbs 104 178 76 (.tmp 103) rfl rfl (qaa J) rfl i0 _ Tryz.underlying178 hi0 hy0 (by rw [hy1,lenB,hJl]) (by rw [lenB,hJl];omega) (by rw [lenB,hJl];omega) ?_
 obtain ⟨Wb,hWb⟩:∃ W,W=w13.alloc (.cells (qaa J).toArray 76):=⟨_,rfl⟩
 have hbb:Below w13.heap.size w13 Wb:=by rw [hWb];exact (zb _ _).alloc (zl _) _
 have BH:Blk Wb w13.heap.size 76 (qaa J).toArray:=by rw [hWb];exact Blk.new _ _ _
 obtain ⟨gh,hgh⟩:∃ g,w13.heap.size=g:=⟨_,rfl⟩
 rw [<-hWb]
 rw [hgh] at BH ⊢
 have hdb:=(hb13.tr hbb)
 refine hK.out _ _ hdb ?_
 clear hK K hWb hgh
 refine qaj rfl (qae rfl) (fun K hK=>?_)
 refine qbm 105 (.tmp 100) (.tmp 104) 178 rfl rfl 76 i0 _ 32 32 Tryz.underlying178 hi0 hy0 hy1 hy2 hzs (by decide) none 0 0 [] rfl (fun _=>⟨rfl,rfl⟩) rfl (fun b hb j u hu=>by simp at hu) ⟨gh,0,none⟩ 1 1 (qaa J) rfl (by rw [lenB,hJl]) (fun j u hu=>by rw [Addr.add_mid];exact Blk.whole BH j u hu) (oneB _) (by omega) (by unfold maxLen;omega) (by omega) ?_
 intro A14 c14 w14 hown hgr14
 have hbc:Below Wb.heap.size Wb w14:=(zb _ _).grown hgr14 (zl _) (fun k hk=>by cases hk)
 have hd14:=(hdb.tr hbc)
 refine hK.out _ _ hd14 ?_
 clear hK K D1
 have hb1214:=hd0.trans hd14
 have HF14:=zh (HF12.out.ext hb1214)
 have B314:=B312.ext hb1214
 have hfr14:=hfr12.trans (Frm.below hb1214)
 have hWb:w12.heap.size<=Wb.heap.size:=hdb.size
 have hsl:Sl eHash w14 (FG gf gm) A14 1 c14 [J]:=by
  have hE:OwnE eHash 76 w14 Wb.heap.size (FG gf gm) A14 1 c14 [J]:=⟨[qaa J],by rw [show [qaa J].flatten=[]++qaa J by simp];exact hown,Els.one_ (qos _ _ J hJl),rfl⟩
  exact hE.slB (fun b e=>by have:=(hE.lt e).1;exact ⟨by omega,by have:=hlt.2;omega⟩) (fun b h=>h)
 have HS14:=zh hsl
 clear hown hgr14 hbc hd14 hb1214 hdb hbb BH hb13 hd0 HF12 B312 hfr12 hsl hWb hi0 hy0 hy1 hy2 hzs i0 qo hof
 repeat ((first|refine pT ?_|refine pF ?_);try go_frame)
 refine qak ?_
 obtain ⟨O9,oc9,q9,_⟩:=HF14.out.open_
 simp only [List.length_nil] at q9
 have f9:=HF14.out.frozen 9
 refine pD fun K hK=>?_;go_simp
 refine hK.out _ _ trivial (qad ?_)
 clear hK K q9 f9
 have HF15:=zh (HF14.out.setOp (fun e=>by cases e) HS14.out)
 have B315:=B314.far (p:=⟨gf,9,none⟩) hg3f (.slice A14 1 c14)
 have hfr15:=hfr14.trans (Frm.grown (qac w14 gf 9 (.slice A14 1 c14)) (fun x hx=>by injection hx with hx;exact .inl hx.symm))
 clear HF14 B314 hfr14 HS14
 generalize w14.setCell ⟨gf,9,none⟩ (.slice A14 1 c14)=w15 at *
 obtain ⟨O9,oc9,q9,_⟩:=HF15.out.open_
 simp only [List.length_singleton] at q9
 have t35:=(B315.cell 35).trans ht35
 have HM:=zh (fun a b c d=>qdu (w:=w15) (f:=.pointer (some ⟨gf,0,none⟩)) a b c d)
 go_wp2_with fail
 refine (HM.out _ _ _ _).mono ?_
 rintro e w16 ⟨rfl,hb16⟩
 have t35:=((B315.ext hb16).cell 35).trans ht35
 have HE:=zh (za (HF15.out.ext hb16) (hfr15.trans (Frm.below hb16)))
 clear HM q9 B315 HF15 hfr15 hb16
 go_wp2
 go_end0
 exact ⟨rfl,⟨D9,by rw [HJ.out];exact HE.out.1⟩,HE.out.2⟩
theorem qql (n:Int) (p q r:List UInt8) (c:Int) (hp:p.length=32) (hq:q.length=32):laid (blkC n p r c) 1 (qaa q)=blkC n q r c:=by
 have:=qcm [.int .i64 n] (qaa p) (qaa r++[.int .i64 c]) (qaa q) (by rw [lenB,lenB,hp,hq])
 simpa [blkC] using this
theorem vclose_ {gf gm:Nat} {D:qab} {nx:Int} {E H:List UInt8} (h:Fnd w gf gm D x nx [E] [] []) (hE:E.length=32) (hH:shaL (blkT 1 h0 E 1)=H) (hDw:∀ b,D b->b<w.heap.size):
  Calls Tryz.prog 133 #[.pointer (some ⟨gf,0,none⟩),.agg (qaa H).toArray] w fun e w'=>e=.returned (.tuple #[])/\Fnd w' gf gm D x nx [] [(1,h0,E,1)] [(1,.agg (qaa H).toArray)]/\Frm (fun b=>b=gf\/b=gm) w w':=by
 have hlt:=h.lt
 have hHl:H.length=32:=by rw [<-hH];exact qbh _
 have HH:=zh hH
 have HF0:=zh h
 obtain ⟨O,oc,qo,hso⟩:=h.open_
 simp only [List.length_singleton] at qo hso
 obtain ⟨bo,oo,rfl,hoc,_,hbol⟩:=hso.some_ (by omega)
 obtain ⟨es0,hes0,hecell⟩:=hso.at_ (show [E][0]? = some E from rfl)
 obtain ⟨rfl,_⟩:=hes0
 simp only [show eHash.k=32 from rfl,Nat.zero_mul,Nat.add_zero] at hecell
 have HRE:=zh (show w.rangeAt bo oo (qaa E) from hecell)
 clear h hH hso hecell
 go_enter Tryz.func133,Tryz.ntmps133
 go_upto_region 1 with fail
 obtain ⟨W,hW_,hb1,B3⟩:=al1 w 76 ((qaa H).toArray)
 rw [<-hW_]
 clear hW_
 obtain ⟨g3,hg3⟩:∃ g,w.heap.size=g:=⟨_,rfl⟩
 have hg3w:w.heap.size<=g3:=by omega
 rw [hg3] at B3 ⊢
 clear hg3
 have hHs:=qbq H hHl
 have HF1:=zh (HF0.out.ext hb1)
 have qo1:=(hb1.cell (p:=⟨gf,9,none⟩) hlt.1).trans qo
 have hboW:bo<W.heap.size:=Nat.lt_of_lt_of_le hbol hb1.size
 have hzb:=qop
 have D1:∀ w',Below W.heap.size W.drew w'->w'.cell? ⟨gf,9,none⟩=some (.slice (some ⟨bo,oo,none⟩) 1 oc)/\w'.cell? ⟨gf,10,none⟩=some (.slice none 0 0):=fun w' h=>⟨(((zb _ _).drew.trans h).cell (p:=⟨gf,9,none⟩) HF1.out.lt.1).trans qo1,(HF1.out.ext ((zb _ _).drew.trans h)).nl.2 rfl⟩
 refine qcz ⟨17,4,fun g=>.pointer (some ⟨g,0,none⟩),.cells (blkC 0 h0 h0 0).toArray 261⟩
  [(0,true),(1,true),(2,true),(3,true),(4,true),(5,true),(6,true),(7,true),(8,true),(9,true),(11,true),(12,true),(13,true),(14,true),(15,true)] [(10,false),(16,true)] [(18,false)] (by kernel_rfl) (by kernel_rfl) ?_
 repeat ((first|refine iT ?_|refine iF ?_);try go_frame)
 refine qbn ⟨?_,?_⟩
 ·intro y hy
  simp only [List.mem_cons,List.not_mem_nil,or_false] at hy
  subst hy
  exact ⟨_,rfl,rfl,qae rfl,fun w=>by go_simp⟩
 clear D1 hzb
 refine iD fun wI hI hSI K hK=>?_;go_simp
 have hbI:=(zb W.heap.size W).drew.trans hI
 have hwI:=(hb1.tr hbI)
 have HF:=zh (qlr hE (show wI.rangeAt bo oo (qaa E) from fun j u hu=>(hwI.cell (p:=⟨bo,oo+j,none⟩) hbol).trans (HRE.out j u hu)) (Nat.lt_of_lt_of_le hbol hwI.size) hoc)
 refine HF.out.mono ?_
 rintro e w5 ⟨rfl,hb5⟩
 refine hK.out _ _ hb5 ?_
 clear hK K HF hI hSI hbI hb5 hwI
 refine wpI_on rfl rfl (qae rfl) (fun w' hS=>qce (ps:=[(0,.int .i64 1),(2,.agg (qaa E).toArray),(3,.int .i64 1)]) 261 _ rfl qlt rfl (qon 1 E 1 hE)) ?_
 go_frame
 refine qbn ?_
 intro g4 wf he hb hlo1 hhi1 hat1
 try simp only [List.setIfInBounds_toArray,List.set_cons_zero,List.set_cons_succ]
 have B5:Blk wf g4 261 (blkC 0 h0 h0 0).toArray:=hat1
 clear hat1 he
 have hkl:=qcc 1 h0 E 1 qaf hE
 have hone:=qoq 1 h0 E 1
 have hsz:=qmz 1 h0 E 1 qaf hE
 have hld:=qql 1 h0 h0 E 1 qaf qaf
 have hb0:(blkC 1 h0 E 1).toArray[0]? = some (.int .i64 1):=rfl
 obtain ⟨bc,hbc⟩:∃ z,z=blkC 1 h0 E 1:=⟨_,rfl⟩
 rw [<-hbc] at hkl hone hsz hld hb0 ⊢
 have HLD:=zh hld
 have HBC:=zh hbc
 have hth:=Blk.there (o:=0) (n:=66) B5 (by rw [qcc _ _ _ _ qaf qaf];omega)
 refine qaj rfl (qae rfl) (fun K hK=>?_)
 refine qao 261 (.tmp 4) (.tmp 21) rfl rfl g4 0 bc rfl rfl (by rw [hkl];exact hth) hsz hone ?_
 obtain ⟨B6,hg6⟩:=Blk.lay bc 0 B5 (by rw [hkl,qcc _ _ _ _ qaf qaf];omega)
 rw [qai _ _ (by rw [hkl,qcc _ _ _ _ qaf qaf])] at B6
 have hwf:W.heap.size<=wf.heap.size:=hb.size
 have hb6:=hb.grown hg6 hwf (fun k hk=>by injection hk with hk;omega)
 refine hK.out _ _ hb6 (qad ?_)
 clear hK K hth B5 hb hbc hld
 have hb16:=(zb W.heap.size W).drew.trans hb6
 have B36:=B3.ext hb16
 have HF6:=zh (HF1.out.ext hb16)
 have hbw6:=(hb1.tr hb16)
 have hg4w:w.heap.size<=g4:=Nat.le_trans hb1.size hlo1
 have hg34:g3≠g4:=by have:=B3.lt;omega
 clear hb6 hb16 hg6 HF1 B3 hb1 qo1 hboW hwf hhi1
 generalize wf.setCells g4 0 bc=w6 at *
 go_upto_region 2 with fail
 have hgf6:gf<w6.heap.size:=HF6.out.lt.1
 have D1:=fun w' (h:Below w6.heap.size w6.drew w')=>za (show w'.cell? ⟨gf,11,none⟩=some (.map (some gm)) from (HF6.out.ext ((zb _ _).drew.trans h)).sums_) (show w'.cell? ⟨g4,0,none⟩=some (.int .i64 1) from ((B6.ext ((zb _ _).drew.trans h)).cell 0).trans hb0)
 refine r3 (S:=fun w'=>Below w6.heap.size w6.drew w') [(0,true),(1,true),(2,true),(3,true),(4,true),(5,true),(6,true),(7,false),(8,true)] [(9,false)] (zb _ _) ?_
 iterate 7 (((first|refine pT ?_|refine pF ?_);try go_frame))
 have hd0:=(zb w6.heap.size w6).drew
 refine qaj rfl (qae rfl) (fun K hK=>?_)
 refine qgv 29 rfl (.tmp 25) (.tmp 28) 177 false rfl 3 76 Tryz.underlying177 Tryz.underlying3 (.agg (qaa h0).toArray) qcn gm [] rfl (HF6.out.mp.ext hd0) 0 rfl (.agg (qaa h0).toArray) rfl ?_
 go_frame
 refine hK.out _ _ (zb _ _) ?_
 clear hK K D1
 repeat ((first|refine pT ?_|refine pF ?_);try go_frame)
 refine qak ?_
 have hsz0:=qbq h0 qaf
 have B6d:=Blk.drew B6
 have hth:=Blk.there (o:=1) (n:=32) B6d (by omega)
 obtain ⟨B7,hg7⟩:=Blk.lay (qaa h0) 1 B6d (by rw [lenB,qaf];omega)
 rw [HLD.out] at B7
 refine qaj rfl (qae rfl) (fun K hK=>?_)
 refine qao 76 (.tmp 30) (.tmp 29) rfl rfl g4 1 (qaa h0) rfl rfl (by rw [lenB,qaf];exact hth) hsz0 (oneB _) ?_
 refine hK.out _ _ trivial (qad ?_)
 clear hK K hth hsz0
 have hbw7:=hbw6.drew.grown hg7 hbw6.size (fun k hk=>by injection hk with hk;omega)
 have B37:=(Blk.drew B36).grown hg7 (by intro e;injection e with e;exact hg34 e)
 have HF7:=zh (HF0.out.ext hbw7)
 clear hg7 B6d hd0 HF6 hgf6 B36 B6 hbw6
 generalize w6.drew.setCells g4 1 (qaa h0)=w7 at *
 go_upto_region 3 with fail
 obtain ⟨iB,hbi,hbz0,hbz1,hbz2⟩:=ip Tryz.prog 261 (.agg (blkC 0 h0 h0 0).toArray) 66 80
 have hbz:(Value.agg (blkC 0 h0 h0 0).toArray).cells.size=66:=by kernel_rfl
 have hgf7:gf<w7.heap.size:=HF7.out.lt.1
 refine qdv (S:=fun w'=>Blk w' g4 261 bc.toArray) (.seq [(0,true),(1,true),(2,true),(3,true),(4,true),(6,true)] (.two 5 (.seq [(7,false),(8,false),(9,true),(10,true),(11,false),(12,true),(13,true),(14,false)] .fin) 7 (.seq [(5,false),(8,false),(9,true),(10,true),(11,false),(12,true),(13,true),(14,false)] .fin))) (by kernel_rfl) (by kernel_rfl) (Blk.drew B7) ?_
 refine qbp ?_
 iterate 5 (((first|refine pT ?_|refine pF ?_);try go_frame))
 refine qas rfl rfl (qae rfl) (fun w' hS=>qba 261 (.tmp 4) rfl g4 0 rfl bc _ (Blk.whole hS) Tryz.underlying261 rfl hsz) ?_
 go_frame
 refine qaw ?_
 refine qff ?_ ?_
 ·have q10:=(HF7.out.ext (zb w7.heap.size w7).drew).nl.2 rfl
  refine pD fun K hK=>?_;go_simp
  refine hK.out _ _ (Blk.drew B7) ?_
  clear hK K q10
  refine qaw ?_
  refine qbp ?_
  refine qaj rfl (qae rfl) (fun K hK=>?_)
  refine qbs 38 144 261 (.tmp 37) rfl rfl bc rfl iB _ Tryz.underlying144 hbi hbz0 (by rw [hbz1,hkl]) (by rw [hkl];omega) (by rw [hkl];omega) ?_
  go_frame
  have hda:Below w7.heap.size w7 (w7.drew.alloc (.cells bc.toArray 261)):=(zb w7.heap.size w7).drew.alloc (zl _) _
  have C8:Blk (w7.drew.alloc (.cells bc.toArray 261)) w7.drew.heap.size 261 bc.toArray:=Blk.new _ _ _
  refine hK.out _ _ (B7.ext hda) ?_
  clear hK K
  obtain ⟨g8,hg8⟩:∃ g,w7.drew.heap.size=g:=⟨_,rfl⟩
  generalize w7.drew.alloc (.cells bc.toArray 261)=w8 at *
  rw [hg8] at C8 ⊢
  clear hg8
  refine qaj rfl (qae rfl) (fun K hK=>?_)
  refine qbm 39 (.tmp 36) (.tmp 38) 144 rfl rfl 261 iB _ 66 80 Tryz.underlying144 hbi hbz0 hbz1 hbz2 hbz (by decide) none 0 0 [] rfl (fun _=>⟨rfl,rfl⟩) rfl (fun b hb j u hu=>by simp at hu) ⟨g8,0,none⟩ 1 1 bc rfl (by rw [hkl]) (fun j u hu=>by rw [Addr.add_mid];exact Blk.whole C8 j u hu) hone (by omega) (by unfold maxLen;omega) (by omega) ?_
  intro A9 c9 w9 hown hgr9
  have hbc:Below w8.heap.size w8 w9:=(zb _ _).grown hgr9 (zl _) (fun k hk=>by cases hk)
  have hb79:=(hda.tr hbc)
  have B9:=B7.ext hb79
  refine hK.out _ _ B9 ?_
  clear hK K
  have B39:=B37.ext hb79
  have hbw9:=(hbw7.tr hb79)
  have HF9:=zh (HF0.out.ext hbw9)
  have h78:w7.heap.size<=w8.heap.size:=hda.size
  have hw7:=hbw7.size
  have hsl:Sl eBlk w9 (FG gf gm) A9 1 c9 [(1,h0,E,1)]:=by
   have hE9:OwnE eBlk 261 w9 w8.heap.size (FG gf gm) A9 1 c9 [(1,h0,E,1)]:=⟨[bc],by rw [show [bc].flatten=[]++bc by simp];exact hown,Els.one_ (by rw [HBC.out];exact qgb _ _ _ _ _ _ qaf hE),rfl⟩
   exact hE9.slB (fun b e=>by have:=(hE9.lt e).1;exact ⟨by omega,by have:=hlt.2;omega⟩) (fun b h=>h)
  have HS9:=zh hsl
  clear hown hgr9 hbc hb79 hda C8 hsl hbi hbz0 hbz1 hbz2 hbz iB HF7 B37 B7 hbw7 hgf7 h78
  repeat ((first|refine pT ?_|refine pF ?_);try go_frame)
  have q10:=HF9.out.nl.2 rfl
  have f10:=HF9.out.frozen 10
  refine pD fun K hK=>?_;go_simp
  have HF10:=zh (HF9.out.setBl (by simp) HS9.out)
  have B310:=B39.far (p:=⟨gf,10,none⟩) (by show g3≠gf;have:=hlt.1;omega) (.slice A9 1 c9)
  have B10:=B9.far (p:=⟨gf,10,none⟩) (by show g4≠gf;have:=hlt.1;omega) (.slice A9 1 c9)
  have hfr10:Frm (fun b=>b=gf\/b=gm) w _:=(Frm.below hbw9).trans (Frm.grown (qac w9 gf 10 (.slice A9 1 c9)) (fun x hx=>by injection hx with hx;exact .inl hx.symm))
  refine hK.out _ _ B10 ?_
  clear hK K q10 f10 HF9 B39 B9 hbw9 HS9
  generalize w9.setCell ⟨gf,10,none⟩ (.slice A9 1 c9)=w10 at *
  repeat ((first|refine pT ?_|refine pF ?_);try go_frame)
  obtain ⟨O9,oc9,q9,_⟩:=HF10.out.open_
  simp only [List.length_singleton] at q9
  have f9:=HF10.out.frozen 9
  refine pD fun K hK=>?_;go_simp
  have HF11:=zh (HF10.out.setOp (O:=none) (m:=0) (c:=0) (op':=[]) (fun _=>⟨rfl,rfl,rfl⟩) (Sl.nil _ _))
  have B311:=B310.far (p:=⟨gf,9,none⟩) (by show g3≠gf;have:=hlt.1;omega) (.slice none 0 0)
  have B11:=B10.far (p:=⟨gf,9,none⟩) (by show g4≠gf;have:=hlt.1;omega) (.slice none 0 0)
  have hfr11:=hfr10.trans (Frm.grown (qac w10 gf 9 (.slice none 0 0)) (fun x hx=>by injection hx with hx;exact .inl hx.symm))
  refine hK.out _ _ B11 (qaw (qcu ?_))
  clear hK K q9 f9 HF10 B310 B10 hfr10
  generalize w10.setCell ⟨gf,9,none⟩ (.slice none 0 0)=w11 at *
  go_upto_region 4 with fail
  have D1:=fun w' (h:Below w11.heap.size w11.drew w')=>za (show w'.cell? ⟨gf,11,none⟩=some (.map (some gm)) from (HF11.out.ext ((zb _ _).drew.trans h)).sums_) (show w'.cell? ⟨g4,0,none⟩=some (.int .i64 1) from ((B11.ext ((zb _ _).drew.trans h)).cell 0).trans hb0)
  refine r3 (S:=fun w'=>Below w11.heap.size w11.drew w') [(0,true),(1,true),(2,true),(3,true),(4,true),(5,true),(6,true),(7,false)] [(8,false)] (zb _ _) ?_
  iterate 6 (((first|refine pT ?_|refine pF ?_);try go_frame))
  refine qas rfl rfl (qae rfl) (fun w' hS=>qba 261 (.tmp 4) rfl g4 0 rfl bc _ (Blk.whole (B11.ext ((zb _ _).drew.trans hS))) Tryz.underlying261 rfl hsz) ?_
  go_frame
  clear D1
  have hd0:=(zb w11.heap.size w11).drew
  have HF:=zh (hash_ (w:=w11.drew) (cs:=bc) (n:=1) (c:=1) (p:=h0) (r:=E) (show eBlk.rel w11.drew (fun _=>True) bc (((1:Nat):Int),h0,E,((1:Nat):Int)) from by rw [HBC.out];exact qgb _ _ _ _ _ _ qaf hE) (by omega) (by omega))
  refine pD fun K hK=>?_;go_simp
  refine HF.out.mono ?_
  rintro e w12 ⟨rfl,hb12⟩
  rw [HH.out]
  refine hK.out _ _ hb12 ?_
  clear hK K HF
  refine qak ?_
  have hb1112:=hd0.trans hb12
  have HF12:=zh (HF11.out.ext hb1112)
  have B312:=B311.ext hb1112
  have B12:=B11.ext hb1112
  have hfr12:=hfr11.trans (Frm.below hb1112)
  clear hb12 hd0 hb1112 HF11 B311 B11 hfr11
  refine qaj rfl (qae rfl) (fun K hK=>?_)
  refine qor rfl (.tmp 47) (.tmp 49) (.tmp 51) 177 rfl 3 76 Tryz.underlying177 Tryz.underlying3 gm [] rfl HF12.out.mp 1 (.agg (qaa H).toArray) rfl rfl rfl ?_
  intro w13 hm13 hg13
  have hgm4:gm≠g4:=by have:=hlt.2;omega
  have hgm3:gm≠g3:=by have:=hlt.2;omega
  have HF13:=zh (HF12.out.setMp hg13 hm13)
  have B313:=B312.grown hg13 (by intro e;injection e with e;exact hgm3 e.symm)
  have B13:=B12.grown hg13 (by intro e;injection e with e;exact hgm4 e.symm)
  have hfr13:=hfr12.trans (Frm.grown hg13 (fun x hx=>by injection hx with hx;exact .inr hx.symm))
  refine hK.out _ _ trivial (qad ?_)
  clear hK K hm13 hg13 HF12 B312 B12 hfr12
  rw [List.nil_append] at HF13
  go_upto_region 5 with fail
  have D1:=fun w' (h:Below w13.heap.size w13.drew w')=>za (show w'.cell? ⟨gf,11,none⟩=some (.map (some gm)) from (HF13.out.ext ((zb _ _).drew.trans h)).sums_) (show w'.cell? ⟨g4,0,none⟩=some (.int .i64 1) from ((B13.ext ((zb _ _).drew.trans h)).cell 0).trans hb0)
  refine r3 (S:=fun w'=>Below w13.heap.size w13.drew w') [(0,true),(1,true),(2,true),(3,true),(4,true),(5,true),(6,true),(8,true),(10,true),(11,true),(12,true),(7,false),(9,true)] [(13,false)] (zb _ _) ?_
  iterate 7 (((first|refine pT ?_|refine pF ?_);try go_frame))
  refine qas rfl rfl (qae rfl) (fun w' hS=>qba 76 (.tmp 3) rfl g3 0 rfl (qaa H) _ (Blk.whole (B313.ext ((zb _ _).drew.trans hS))) Tryz.underlying76 rfl hHs) ?_
  go_frame
  iterate 3 (((first|refine pT ?_|refine pF ?_);try go_frame))
  clear D1
  have hd0:=(zb w13.heap.size w13).drew
  refine qaj rfl (qae rfl) (fun K hK=>?_)
  refine qgv 59 rfl (.tmp 56) (.tmp 58) 177 false rfl 3 76 Tryz.underlying177 Tryz.underlying3 (.agg (qaa h0).toArray) qcn gm [(1,.agg (qaa H).toArray)] rfl (HF13.out.mp.ext hd0) 1 rfl (.agg (qaa H).toArray) rfl ?_
  go_frame
  refine hK.out _ _ (zb _ _) ?_
  clear hK K
  refine qas rfl rfl (qae rfl) (fun w' hS=>qga (.tmp 59) (.tmp 60) rfl H hHl rfl rfl) ?_
  go_frame
  refine qak ?_
  have HM:=zh (fun a b c d=>qdu (w:=w13.drew) (f:=.pointer (some ⟨gf,0,none⟩)) a b c d)
  refine pD fun K hK=>?_;go_simp
  refine (HM.out _ _ _ _).mono ?_
  rintro e w14 ⟨rfl,hb14⟩
  refine hK.out _ _ trivial (qad ?_)
  have hb1314:=hd0.trans hb14
  have HE:=zh (za (HF13.out.ext hb1314) (hfr13.trans (Frm.below hb1314)))
  clear hK K HM hb14 hd0 hb1314 HF13 B313 B13 hfr13
  go_wp2
  go_end0
  exact ⟨rfl,HE.out⟩
 ·refine qaj rfl (qae rfl) (fun K hK=>?_)
  refine qbs 38 144 261 (.tmp 37) rfl rfl bc rfl iB _ Tryz.underlying144 hbi hbz0 (by rw [hbz1,hkl]) (by rw [hkl];omega) (by rw [hkl];omega) ?_
  go_frame
  have hda:Below w7.heap.size w7 (w7.drew.alloc (.cells bc.toArray 261)):=(zb w7.heap.size w7).drew.alloc (zl _) _
  have C8:Blk (w7.drew.alloc (.cells bc.toArray 261)) w7.drew.heap.size 261 bc.toArray:=Blk.new _ _ _
  refine hK.out _ _ (B7.ext hda) ?_
  clear hK K
  obtain ⟨g8,hg8⟩:∃ g,w7.drew.heap.size=g:=⟨_,rfl⟩
  generalize w7.drew.alloc (.cells bc.toArray 261)=w8 at *
  rw [hg8] at C8 ⊢
  clear hg8
  refine qaw ?_
  refine qbp ?_
  have q10:=(HF7.out.ext hda).nl.2 rfl
  refine pD fun K hK=>?_;go_simp
  refine hK.out _ _ (B7.ext hda) ?_
  clear hK K q10
  refine qaj rfl (qae rfl) (fun K hK=>?_)
  refine qbm 39 (.tmp 36) (.tmp 38) 144 rfl rfl 261 iB _ 66 80 Tryz.underlying144 hbi hbz0 hbz1 hbz2 hbz (by decide) none 0 0 [] rfl (fun _=>⟨rfl,rfl⟩) rfl (fun b hb j u hu=>by simp at hu) ⟨g8,0,none⟩ 1 1 bc rfl (by rw [hkl]) (fun j u hu=>by rw [Addr.add_mid];exact Blk.whole C8 j u hu) hone (by omega) (by unfold maxLen;omega) (by omega) ?_
  intro A9 c9 w9 hown hgr9
  have hbc:Below w8.heap.size w8 w9:=(zb _ _).grown hgr9 (zl _) (fun k hk=>by cases hk)
  have hb79:=(hda.tr hbc)
  have B9:=B7.ext hb79
  refine hK.out _ _ B9 ?_
  clear hK K
  have B39:=B37.ext hb79
  have hbw9:=(hbw7.tr hb79)
  have HF9:=zh (HF0.out.ext hbw9)
  have h78:w7.heap.size<=w8.heap.size:=hda.size
  have hw7:=hbw7.size
  have hsl:Sl eBlk w9 (FG gf gm) A9 1 c9 [(1,h0,E,1)]:=by
   have hE9:OwnE eBlk 261 w9 w8.heap.size (FG gf gm) A9 1 c9 [(1,h0,E,1)]:=⟨[bc],by rw [show [bc].flatten=[]++bc by simp];exact hown,Els.one_ (by rw [HBC.out];exact qgb _ _ _ _ _ _ qaf hE),rfl⟩
   exact hE9.slB (fun b e=>by have:=(hE9.lt e).1;exact ⟨by omega,by have:=hlt.2;omega⟩) (fun b h=>h)
  have HS9:=zh hsl
  clear hown hgr9 hbc hb79 hda C8 hsl hbi hbz0 hbz1 hbz2 hbz iB HF7 B37 B7 hbw7 hgf7 h78
  repeat ((first|refine pT ?_|refine pF ?_);try go_frame)
  have q10:=HF9.out.nl.2 rfl
  have f10:=HF9.out.frozen 10
  refine pD fun K hK=>?_;go_simp
  have HF10:=zh (HF9.out.setBl (by simp) HS9.out)
  have B310:=B39.far (p:=⟨gf,10,none⟩) (by show g3≠gf;have:=hlt.1;omega) (.slice A9 1 c9)
  have B10:=B9.far (p:=⟨gf,10,none⟩) (by show g4≠gf;have:=hlt.1;omega) (.slice A9 1 c9)
  have hfr10:Frm (fun b=>b=gf\/b=gm) w _:=(Frm.below hbw9).trans (Frm.grown (qac w9 gf 10 (.slice A9 1 c9)) (fun x hx=>by injection hx with hx;exact .inl hx.symm))
  refine hK.out _ _ B10 ?_
  clear hK K q10 f10 HF9 B39 B9 hbw9 HS9
  generalize w9.setCell ⟨gf,10,none⟩ (.slice A9 1 c9)=w10 at *
  repeat ((first|refine pT ?_|refine pF ?_);try go_frame)
  obtain ⟨O9,oc9,q9,_⟩:=HF10.out.open_
  simp only [List.length_singleton] at q9
  have f9:=HF10.out.frozen 9
  refine pD fun K hK=>?_;go_simp
  have HF11:=zh (HF10.out.setOp (O:=none) (m:=0) (c:=0) (op':=[]) (fun _=>⟨rfl,rfl,rfl⟩) (Sl.nil _ _))
  have B311:=B310.far (p:=⟨gf,9,none⟩) (by show g3≠gf;have:=hlt.1;omega) (.slice none 0 0)
  have B11:=B10.far (p:=⟨gf,9,none⟩) (by show g4≠gf;have:=hlt.1;omega) (.slice none 0 0)
  have hfr11:=hfr10.trans (Frm.grown (qac w10 gf 9 (.slice none 0 0)) (fun x hx=>by injection hx with hx;exact .inl hx.symm))
  refine hK.out _ _ B11 (qaw (qcu ?_))
  clear hK K q9 f9 HF10 B310 B10 hfr10
  generalize w10.setCell ⟨gf,9,none⟩ (.slice none 0 0)=w11 at *
  go_upto_region 4 with fail
  have D1:=fun w' (h:Below w11.heap.size w11.drew w')=>za (show w'.cell? ⟨gf,11,none⟩=some (.map (some gm)) from (HF11.out.ext ((zb _ _).drew.trans h)).sums_) (show w'.cell? ⟨g4,0,none⟩=some (.int .i64 1) from ((B11.ext ((zb _ _).drew.trans h)).cell 0).trans hb0)
  refine r3 (S:=fun w'=>Below w11.heap.size w11.drew w') [(0,true),(1,true),(2,true),(3,true),(4,true),(5,true),(6,true),(7,false)] [(8,false)] (zb _ _) ?_
  iterate 6 (((first|refine pT ?_|refine pF ?_);try go_frame))
  refine qas rfl rfl (qae rfl) (fun w' hS=>qba 261 (.tmp 4) rfl g4 0 rfl bc _ (Blk.whole (B11.ext ((zb _ _).drew.trans hS))) Tryz.underlying261 rfl hsz) ?_
  go_frame
  clear D1
  have hd0:=(zb w11.heap.size w11).drew
  have HF:=zh (hash_ (w:=w11.drew) (cs:=bc) (n:=1) (c:=1) (p:=h0) (r:=E) (show eBlk.rel w11.drew (fun _=>True) bc (((1:Nat):Int),h0,E,((1:Nat):Int)) from by rw [HBC.out];exact qgb _ _ _ _ _ _ qaf hE) (by omega) (by omega))
  refine pD fun K hK=>?_;go_simp
  refine HF.out.mono ?_
  rintro e w12 ⟨rfl,hb12⟩
  rw [HH.out]
  refine hK.out _ _ hb12 ?_
  clear hK K HF
  refine qak ?_
  have hb1112:=hd0.trans hb12
  have HF12:=zh (HF11.out.ext hb1112)
  have B312:=B311.ext hb1112
  have B12:=B11.ext hb1112
  have hfr12:=hfr11.trans (Frm.below hb1112)
  clear hb12 hd0 hb1112 HF11 B311 B11 hfr11
  refine qaj rfl (qae rfl) (fun K hK=>?_)
  refine qor rfl (.tmp 47) (.tmp 49) (.tmp 51) 177 rfl 3 76 Tryz.underlying177 Tryz.underlying3 gm [] rfl HF12.out.mp 1 (.agg (qaa H).toArray) rfl rfl rfl ?_
  intro w13 hm13 hg13
  have hgm4:gm≠g4:=by have:=hlt.2;omega
  have hgm3:gm≠g3:=by have:=hlt.2;omega
  have HF13:=zh (HF12.out.setMp hg13 hm13)
  have B313:=B312.grown hg13 (by intro e;injection e with e;exact hgm3 e.symm)
  have B13:=B12.grown hg13 (by intro e;injection e with e;exact hgm4 e.symm)
  have hfr13:=hfr12.trans (Frm.grown hg13 (fun x hx=>by injection hx with hx;exact .inr hx.symm))
  refine hK.out _ _ trivial (qad ?_)
  clear hK K hm13 hg13 HF12 B312 B12 hfr12
  rw [List.nil_append] at HF13
  go_upto_region 5 with fail
  have D1:=fun w' (h:Below w13.heap.size w13.drew w')=>za (show w'.cell? ⟨gf,11,none⟩=some (.map (some gm)) from (HF13.out.ext ((zb _ _).drew.trans h)).sums_) (show w'.cell? ⟨g4,0,none⟩=some (.int .i64 1) from ((B13.ext ((zb _ _).drew.trans h)).cell 0).trans hb0)
  refine r3 (S:=fun w'=>Below w13.heap.size w13.drew w') [(0,true),(1,true),(2,true),(3,true),(4,true),(5,true),(6,true),(8,true),(10,true),(11,true),(12,true),(7,false),(9,true)] [(13,false)] (zb _ _) ?_
  iterate 7 (((first|refine pT ?_|refine pF ?_);try go_frame))
  refine qas rfl rfl (qae rfl) (fun w' hS=>qba 76 (.tmp 3) rfl g3 0 rfl (qaa H) _ (Blk.whole (B313.ext ((zb _ _).drew.trans hS))) Tryz.underlying76 rfl hHs) ?_
  go_frame
  iterate 3 (((first|refine pT ?_|refine pF ?_);try go_frame))
  clear D1
  have hd0:=(zb w13.heap.size w13).drew
  refine qaj rfl (qae rfl) (fun K hK=>?_)
  refine qgv 59 rfl (.tmp 56) (.tmp 58) 177 false rfl 3 76 Tryz.underlying177 Tryz.underlying3 (.agg (qaa h0).toArray) qcn gm [(1,.agg (qaa H).toArray)] rfl (HF13.out.mp.ext hd0) 1 rfl (.agg (qaa H).toArray) rfl ?_
  go_frame
  refine hK.out _ _ (zb _ _) ?_
  clear hK K
  refine qas rfl rfl (qae rfl) (fun w' hS=>qga (.tmp 59) (.tmp 60) rfl H hHl rfl rfl) ?_
  go_frame
  refine qak ?_
  have HM:=zh (fun a b c d=>qdu (w:=w13.drew) (f:=.pointer (some ⟨gf,0,none⟩)) a b c d)
  refine pD fun K hK=>?_;go_simp
  refine (HM.out _ _ _ _).mono ?_
  rintro e w14 ⟨rfl,hb14⟩
  refine hK.out _ _ trivial (qad ?_)
  have hb1314:=hd0.trans hb14
  have HE:=zh (za (HF13.out.ext hb1314) (hfr13.trans (Frm.below hb1314)))
  clear hK K HM hb14 hd0 hb1314 HF13 B313 B13 hfr13
  go_wp2
  go_end0
  exact ⟨rfl,HE.out⟩
theorem vblock_ {gf gm:Nat} {D:qab} {nx:Int} {E H:List UInt8} (h:Fnd w gf gm D x nx [E] [] []) (hE:E.length=32) (hH:shaL (blkT 1 h0 E 1)=H) (hDw:∀ b,D b->b<w.heap.size):
  Calls Tryz.prog 60 #[.pointer (some ⟨gf,0,none⟩),.int .i64 1,.agg (qaa H).toArray] w fun e w'=>e=.returned (.tuple #[])/\Fnd w' gf gm D x nx [] [(1,h0,E,1)] [(1,.agg (qaa H).toArray)]/\Frm (fun b=>b=gf\/b=gm) w w':=by
 have hHl:H.length=32:=by rw [<-hH];exact qbh _
 have HF0:=zh h
 have HH:=zh hH
 have HDW:=zh hDw
 clear h hH hDw
 go_enter Tryz.func60,Tryz.ntmps60
 go_upto_region 1 with fail
 obtain ⟨W,hW_,hb1,B3⟩:=al1 w 76 ((qaa H).toArray)
 rw [<-hW_]
 clear hW_
 have hHs:=qbq H hHl
 have HF1:=zh (HF0.out.ext hb1)
 obtain ⟨O,oc,qo,_⟩:=HF1.out.open_
 simp only [List.length_singleton] at qo
 have qb:=HF1.out.nl.2 rfl
 have HF:=zh (vclose_ (H:=H) HF1.out hE HH.out (fun b hb=>Nat.lt_of_lt_of_le (HDW.out b hb) hb1.size))
 go_wp2_with ((with_reducible refine sT 27 ?_);(refine wpList_load_mid rfl 76 _ rfl w.heap.size 0 rfl (qaa H) _ (Blk.whole B3) Tryz.underlying76 rfl hHs ?_))
 refine HF.out.mono ?_
 rintro e w2 ⟨rfl,hF2,hfr⟩
 have HE:=zh (za hF2 ((Frm.below hb1).trans hfr))
 clear qo qb HF hF2 hfr HF1 B3 hb1
 go_wp2
 go_end0
 exact ⟨rfl,HE.out⟩
theorem vdig1_ {gf gm:Nat} {D:qab} {nx:Int} {op:List (List UInt8)} {bl:List BlkD} {H:List UInt8} (h:Fnd w gf gm D x nx op bl [(1,.agg (qaa H).toArray)]) (hH:H.length=32) (hr:w.rangeAt b off (digC 1 H)) (hbl:b<w.heap.size):
  Calls Tryz.prog 61 #[.pointer (some ⟨gf,0,none⟩),.slice (some ⟨b,off,none⟩) 1 c] w fun e w'=>e=.returned (.tuple #[])/\Below w.heap.size w w':=by
 have HF0:=zh h
 have HL:=zh hH
 have hdl:=qbg 1 H hH
 have hds:=qiw 1 H hH
 have hdo:=qix 1 H
 have hd0:(digC 1 H).toArray[0]? = some (.int .i64 1):=rfl
 have hdd:((digC 1 H).drop 1).take 32=qaa H:=by show (qaa H).take 32=qaa H;exact List.take_of_length_le (by rw [lenB,hH];omega)
 obtain ⟨dc,hdc⟩:∃ d,d=digC 1 H:=⟨_,rfl⟩
 rw [<-hdc] at hdl hds hdo hd0 hdd hr
 have HDD:=zh hdd
 have HR:=zh hr
 have hHs:=qbq H hH
 clear h hdc hdd hr
 go_enter Tryz.func61,Tryz.ntmps61
 go_wp2_with fail
 refine wp_loop_rounds 2 ?_
 rw [rounds_succ]
 have hz:=qiq
 obtain ⟨Wq,hWq⟩:∃ W',W'=w.alloc (.cells (digC 0 h0).toArray 78):=⟨_,rfl⟩
 have hbq:Below w.heap.size w Wq:=by rw [hWq];exact (zb _ _).alloc (zl _) _
 have BQ0:Blk Wq w.heap.size 78 (digC 0 h0).toArray:=by rw [hWq];exact Blk.new _ _ _
 have hthq:=Blk.there (o:=0) (n:=33) BQ0 (by rw [qbg _ _ qaf];omega)
 obtain ⟨BQ,hgq⟩:=Blk.lay dc 0 BQ0 (by rw [hdl,qbg _ _ qaf];omega)
 rw [qai _ _ (by rw [hdl,qbg _ _ qaf])] at BQ
 have hbw1:=(hbq.gw hgq)
 have HWq:=zh hWq
 clear hWq
 go_upto_region 3 with (first|((with_reducible refine sT 13 ?_);(refine wpList_load_mid rfl 78 _ rfl b off rfl dc _ HR.out Tryz.underlying78 rfl hds ?_))|((with_reducible refine sS 5 ?_);(rw [<-HWq.out]);(refine wpList_store_mid rfl 78 _ _ rfl w.heap.size 0 dc.toArray rfl rfl ?h1 ?h2 (all_oneCell_toArray hdo) ?_)))
 case h1=>exact (show dc.toArray.size=33 by simp [hdl]) ▸ hthq
 case h2=>exact (show dc.toArray.size=dc.length by simp) ▸ hds
 obtain ⟨g5,hg5⟩:∃ g,w.heap.size=g:=⟨_,rfl⟩
 have HF1:=zh (HF0.out.ext hbw1)
 have hbw1':=hbw1
 rw [hg5] at BQ HF1 ⊢
 rw [hg5] at hbw1
 have HBW:=zh (show Below g5 w _ from hbw1)
 have HG5:=zh hg5
 clear hthq hgq hbq BQ0 hbw1 hbw1' hg5 hz
 generalize Wq.setCells g5 0 dc=w1 at *
 clear HWq
 have hz32:=qcn
 have D1:=fun w' (h:Below w1.heap.size w1.drew w')=>za (show w'.cell? ⟨gf,11,none⟩=some (.map (some gm)) from (HF1.out.ext ((zb _ _).drew.trans h)).sums_) (show w'.cell? ⟨g5,0,none⟩=some (.int .i64 1) from ((BQ.ext ((zb _ _).drew.trans h)).cell 0).trans hd0)
 refine qcz ⟨10,6,fun g=>.pointer (some ⟨g,0,none⟩),.cells (qaa h0).toArray 76⟩ [(0,true),(1,true),(2,true),(3,true),(4,true),(5,true)] [(6,false),(7,true),(8,true),(9,true)] [(11,false),(12,true)] (by kernel_rfl) (by kernel_rfl) ?_
 repeat ((first|refine iT ?_|refine iF ?_);try go_frame)
 refine qbn ⟨?_,?_⟩
 ·intro y hy
  simp only [List.mem_cons,List.not_mem_nil,or_false] at hy
  subst hy
  exact ⟨_,rfl,rfl,qae rfl,fun w=>by go_simp⟩
 clear D1 hz32
 refine wpI_do rfl (qae rfl) (fun wI hI hSI K hK=>?_)
 have hbI:=(zb w1.heap.size w1).drew.trans hI
 refine qgv 21 rfl (.tmp 18) (.tmp 20) 177 true rfl 3 76 Tryz.underlying177 Tryz.underlying3 (.agg (qaa h0).toArray) qcn gm [(1,.agg (qaa H).toArray)] rfl (HF1.out.mp.ext hbI) 1 rfl (.tuple #[.agg (qaa H).toArray,.bool true]) rfl ?_
 go_frame
 refine hK.out _ _ (zb _ _) ?_
 clear hK K hI hSI hbI
 repeat ((first|refine iT ?_|refine iF ?_);try go_frame)
 refine qbn ?_
 intro g6 wf he hb hlo1 hhi1 hat1
 try simp only [List.setIfInBounds_toArray,List.set_cons_zero,List.set_cons_succ]
 have B6:Blk wf g6 76 (qaa h0).toArray:=hat1
 clear hat1 he
 have hth:=Blk.there (o:=0) (n:=32) B6 (by rw [lenB,qaf];omega)
 refine qaj rfl (qae rfl) (fun K hK=>?_)
 refine qao 76 (.tmp 6) (.tmp 22) rfl rfl g6 0 (qaa H) rfl rfl (by rw [lenB,HL.out];exact hth) hHs (oneB _) ?_
 obtain ⟨B7,hg7⟩:=Blk.lay (qaa H) 0 B6 (by rw [lenB,lenB,HL.out,qaf];omega)
 rw [qai _ _ (by rw [lenB,lenB,HL.out,qaf])] at B7
 have hwf:w1.heap.size<=wf.heap.size:=hb.size
 have hb7:=hb.grown hg7 hwf (fun k hk=>by injection hk with hk;omega)
 refine hK.out _ _ hb7 ?_
 clear hK K hth B6 hb
 have hb17:=(zb w1.heap.size w1).drew.trans hb7
 have BQ7:=BQ.ext hb17
 have HBW7:=zh (HBW.out.trans (zm hb17 (Nat.le_of_lt BQ.lt)))
 clear hb7 hb17 hg7 HF1 BQ HBW hwf hhi1 hlo1
 generalize wf.setCells g6 0 (qaa H)=w7 at *
 ((first|refine pT ?_|refine pF ?_);try go_frame)
 refine qad ?_
 have D1:=fun w' (h:Below w7.heap.size w7.drew w')=>(show w'.cell? ⟨g5,0,none⟩=some (.int .i64 1) from ((BQ7.ext ((zb _ _).drew.trans h)).cell 0).trans hd0)
 go_upto_region 4 with fail
 refine r3 (S:=fun w'=>Below w7.heap.size w7.drew w') [(0,true),(1,true),(2,true),(3,true),(4,true),(5,true),(6,true),(7,true),(8,true),(9,true),(10,true)] [(11,false)] (zb _ _) ?_
 iterate 3 (((first|refine pT ?_|refine pF ?_);try go_frame))
 refine qas rfl rfl (qcf rfl rfl rfl) (fun w' hS=>qba 76 (.tmp 6) rfl g6 0 rfl (qaa H) _ (Blk.whole (B7.ext ((zb _ _).drew.trans hS))) Tryz.underlying76 rfl hHs) ?_
 go_frame
 ((first|refine pT ?_|refine pF ?_);try go_frame)
 refine qas rfl rfl (qcf rfl rfl rfl) (fun w' hS=>qba 76 (.tmp 28) rfl g5 1 rfl (qaa H) _ (Blk.range (BQ7.ext ((zb _ _).drew.trans hS)) (by rw [lenB,HL.out];exact HDD.out)) Tryz.underlying76 rfl hHs) ?_
 go_frame
 refine qas rfl rfl (qcf rfl rfl rfl) (fun w' hS=>qga (.tmp 27) (.tmp 29) rfl H HL.out rfl rfl) ?_
 go_frame
 repeat ((first|refine pT ?_|refine pF ?_);try go_frame)
 refine qak ?_
 clear D1
 have HM:=zh (fun a b c d=>qdu (w:=w7.drew) (f:=.pointer (some ⟨gf,0,none⟩)) a b c d)
 have hd0':=(zb w7.heap.size w7).drew
 refine pD fun K hK=>?_;go_simp
 refine (HM.out _ _ _ _).mono ?_
 rintro e w8 ⟨rfl,hb8⟩
 refine hK.out _ _ trivial (qad ?_)
 have hb78:=hd0'.trans hb8
 have HE:=zh (HBW7.out.trans (zm hb78 (Nat.le_of_lt BQ7.lt)))
 clear hK K HM hb8 hd0' hb78 HBW7 BQ7 B7
 go_wp2
 rw [rounds_succ]
 go_wp2
 go_end0
 exact ⟨rfl,by rw [HG5.out];exact HE.out⟩
theorem shape_fnd:qeo Tryz.prog 180=some ([.int .u32 0,.int .i32 0,.int .u32 0,.slice none 0 0,.slice none 0 0,.slice none 0 0,.slice none 0 0,.slice none 0 0,.int .i64 0,.slice none 0 0,.slice none 0 0,.map none],[(0,3),(3,1),(4,4),(8,1),(9,1),(10,1),(11,1)]):=by kernel_rfl
theorem fill_fnd (g:Nat):qco [(0,3),(3,1),(4,4),(8,1),(9,1),(10,1),(11,1)] [.int .u32 0,.int .i32 0,.int .u32 0,.slice none 0 0,.slice none 0 0,.slice none 0 0,.slice none 0 0,.slice none 0 0,.int .i64 0,.slice none 0 0,.slice none 0 0,.map none] [(6,.map (some g))]=some (fndC none none none none 0 0 0 0 0 0 0 0 0 none 0 0 none 0 0 g).toList:=rfl
theorem fnd_new (w W:World) (h:W=(((w.alloc (.map #[] 0)).alloc (.cells (fndC none none none none 0 0 0 0 0 0 0 0 0 none 0 0 none 0 0 w.heap.size) 180)).alloc (.cells #[.pointer (some ⟨w.heap.size+1,0,none⟩)] 176))):
  Fnd W (w.heap.size+1) w.heap.size (fun _=>False) db0 0 [] [] []/\Blk W (w.heap.size+2) 176 #[.pointer (some ⟨w.heap.size+1,0,none⟩)]/\Below w.heap.size w W:=by
 obtain ⟨w1,h1⟩:∃ z,z=w.alloc (.map #[] 0):=⟨_,rfl⟩
 obtain ⟨w2,h2⟩:∃ z,z=w1.alloc (.cells (fndC none none none none 0 0 0 0 0 0 0 0 0 none 0 0 none 0 0 w.heap.size) 180):=⟨_,rfl⟩
 rw [<-h1,<-h2] at h
 have s1:w1.heap.size=w.heap.size+1:=by rw [h1];simp
 have s2:w2.heap.size=w.heap.size+2:=by rw [h2];simp [s1]
 have m1:MapI w1 w.heap.size []:=by rw [h1];exact MapI.new w
 have b01:Below w.heap.size w w1:=by rw [h1];exact (zb _ _).alloc (zl _) _
 have b12:Below w1.heap.size w1 w2:=by rw [h2];exact (zb _ _).alloc (zl _) _
 have b23:Below w2.heap.size w2 W:=by rw [h];exact (zb _ _).alloc (zl _) _
 have B2:Blk w2 (w.heap.size+1) 180 (fndC none none none none 0 0 0 0 0 0 0 0 0 none 0 0 none 0 0 w.heap.size):=by rw [h2];exact qbi _ _ _ _ s1
 have B3:Blk W (w.heap.size+2) 176 #[.pointer (some ⟨w.heap.size+1,0,none⟩)]:=by rw [h];exact qbi _ _ _ _ s2
 have B2W:=B2.ext b23
 refine ⟨⟨⟨none,none,none,none,0,0,0,0,0,0,0,0,none,0,0,none,0,0,B2W,qeg (Sl.nil _ _) (Sl.nil _ _) (Sl.nil _ _) (Sl.nil _ _),Sl.nil _ _,Sl.nil _ _⟩,(m1.ext b12).ext b23,by omega,fun _=>B2W.cell 9,fun _=>B2W.cell 10⟩,B3,(b01.trans (zm b12 (by omega))).trans (zm b23 (by omega))⟩
theorem clone0_:Calls Tryz.prog 62 #[.slice none 0 0] w fun e w'=>e=.returned (.slice none 0 0)/\w=w':=by
 go_enter Tryz.func62,Tryz.ntmps62
 have heq:=fun W=>Lib.run_eql_slice_nil (P:=Tryz.prog) W 81 185 none 0 0 0 0 Tryz.underlying81
 go_wp2
 go_ret
 exact ⟨rfl,rfl⟩
end Go.Proofs.YtdjbpcnhnkemiaaGreat.tp
