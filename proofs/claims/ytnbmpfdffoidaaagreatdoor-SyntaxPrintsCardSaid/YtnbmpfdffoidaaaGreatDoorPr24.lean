/- Texts of the proof, joined: SynPq2, ShelfSplit, SynSpl, SynPq3, SynPq4. -/
import Derived.Test.YtnbmpfdffoidaaaGreatDoorPr01
import Derived.Test.YtnbmpfdffoidaaaGreatDoorPr02
import Derived.Test.YtnbmpfdffoidaaaGreatDoorPr14
import Derived.Test.YtnbmpfdffoidaaaGreatDoorPr21
import Derived.Test.YtnbmpfdffoidaaaGreatDoorPr23
import Derived.Shelf.Strings.SplitCore
import Derived.Shelf.Strings.Search1
import Derived.Test.YtnbmpfdffoidaaaGreatDoorProg
import Derived.Lib.IndexBytes
import Derived.Lib.SplitLaws
set_option linter.unusedVariables false
set_option linter.unusedSimpArgs false
set_option maxHeartbeats 8000000
set_option maxRecDepth 100000
namespace Go.Proofs.YtnbmpfdffoidaaaGreatDoor.Y
open Go.RowKit O V S X
theorem toksB_l: ∀b:Sts,toksB b=b.list.flatMap toksS
 | .nil=> by rw [toksB];rfl
 | .cons s r=> by rw [toksB,Sts.list,List.flatMap_cons,toksB_l r]
theorem okB_l: ∀{b:Sts},okB b→∀x ∈ b.list,okS x
 | .nil,_,x,hx=> by cases hx
 | .cons s r,h,x,hx=> by
  rw [okB]at h
  rcases List.mem_cons.1 hx with rfl | hx
  ·exact h.1
  ·exact okB_l h.2 x hx
theorem prt_at {l:List Ex}{A:Option Addr}{c:Nat}{S:Nat→Prop}{i g:Nat}{w:World}(hl:l.length≤2)(hi:i < l.length)(hg:g≤w.heap.size)(h:RX w S A c l)(hS: ∀b,S b→b < g)(k:Int)(nm tt cc:List UInt8)(n:Int)(b e:Value)(p q r:Int):
  ∃A' c' p' q' r',Prt g (smV k nm tt cc n (.slice A l.length c) b e p q r) i (exX l[i] A' c' p' q' r') w∧ExAt w S l[i] A' c':=by
 obtain ⟨b1,off,A',c',p',q',r',rfl,hb,hc,h3⟩:=h.at_ hS hi
 refine ⟨A',c',p',q',r',fun w' hw=> ?_,⟨h3⟩⟩
 exact spart_raw k nm tt cc n b e p q r b1 off l.length c i rfl hi (by omega) _ _ _ _ _ _ _ A' _ c' p' q' r' w' (by have:=hw.size;omega) (fun j hj=> (hw.cell (p:=⟨b1,off+i * 11+j,none⟩) hb).trans (hc j hj))
def PB (b:Sts):Prop:=okB b→∀(A:Option Addr) (c g:Nat) (S:Nat→Prop) (w:World),RS w S A c b→(∀x,S x→x < g)→g≤w.heap.size→
 Run 55 #[.pointer (some ⟨g,0,none⟩),.slice A b.len c] g ([123]::(txts (toksB b) ++ [[125]])) w
def PS (x:St):Prop:=okS x→∀(A:Option Addr) (c:Nat) (B:Option Addr) (d:Nat) (E:Option Addr) (f:Nat) (p q r:Int) (g:Nat) (S:Nat→Prop) (w:World),RX w S A c (stA x)→RS w S B d (stB x)→RS w S E f (stE x)→(∀b,S b→b < g)→g≤w.heap.size→
 Run 114 #[.pointer (some ⟨g,0,none⟩),smV (stK x) (stN x) (stT x) (stC x) (stI x) (.slice A (stA x).length c) (.slice B (stB x).len d) (.slice E (stE x).len f) p q r] g (txts (toksS x)) w
theorem px0 {x:Ex}(hx:okX x){A:Option Addr}{c:Nat}{p q r:Int}{g:Nat}{S:Nat→Prop}{w:World}(h:ExAt w S x A c)(hS: ∀b,S b→b < g)(hg:g≤w.heap.size):
  Run 50 #[.pointer (some ⟨g,0,none⟩),exX x A c p q r,nv 0] g (txts (toks0 x)) w:=by
 have:=px_any x hx 0 A c p q r g S w h hS hg
 rw [toksX_no (by omega)]at this
 exact this
theorem pkey0 {x:Ex}(hx:okX x){A:Option Addr}{c:Nat}{p q r:Int}{g:Nat}{S:Nat→Prop}{w:World}(h:ExAt w S x A c)(hS: ∀b,S b→b < g)(hg:g≤w.heap.size):
  Run 104 #[.pointer (some ⟨g,0,none⟩),exX x A c p q r] g ([91]::(txts (toks0 x) ++ [[93]])) w:=
 key_raw _ _ _ _ _ _ _ _ _ _ _ _ _ g w _ (px0 hx (p:=p) (q:=q) (r:=r) h hS hg)
theorem ps_step (x:St)(hB:PB (stB x))(hE:PB (stE x)):PS x:=by
 intro ok A c B d E f p q r g S w hA hb he hS hg
 cases x with
 | let_ n e=>
  have ok:isNameL n=true∧okX e:=by simpa only [okS]using ok
  obtain ⟨A0,c0,p0,q0,r0,u0,v0⟩:=prt_at (i:=0) (g:=g) (by simp [stA]) (by simp [stA]) hg hA hS 1 n [] [] 0 (.slice B 0 d) (.slice E 0 f) p q r
  have:=slet_raw n [] [] 0 (.slice A 1 c) (.slice B 0 d) (.slice E 0 f) p q r g w _ _ u0 (px0 ok.2 v0 hS hg)
  have e2:txts (toksS (.let_ n e))=w_let::n::[61]::(txts (toks0 e) ++ [[59]]):=by
   rw [toksS];simp [txts,tw,tg]
  rw [e2]
  exact this
 | set n e=>
  have ok:isNameL n=true∧okX e:=by simpa only [okS]using ok
  obtain ⟨A0,c0,p0,q0,r0,u0,v0⟩:=prt_at (i:=0) (g:=g) (by simp [stA]) (by simp [stA]) hg hA hS 2 n [] [] 0 (.slice B 0 d) (.slice E 0 f) p q r
  have:=sset_raw n [] [] 0 (.slice A 1 c) (.slice B 0 d) (.slice E 0 f) p q r g w _ _ u0 (px0 ok.2 v0 hS hg)
  have e2:txts (toksS (.set n e))=n::[61]::(txts (toks0 e) ++ [[59]]):=by
   rw [toksS];simp [txts,tw,tg]
  rw [e2]
  exact this
 | put t cc k e=>
  have ok:isNameL t=true∧isNameL cc=true∧okX k∧okX e:=by simpa only [okS]using ok
  obtain ⟨A0,c0,p0,q0,r0,u0,v0⟩:=prt_at (i:=0) (g:=g) (by simp [stA]) (by simp [stA]) hg hA hS 3 [] t cc 0 (.slice B 0 d) (.slice E 0 f) p q r
  obtain ⟨A1,c1,p1,q1,r1,u1,v1⟩:=prt_at (i:=1) (g:=g) (by simp [stA]) (by simp [stA]) hg hA hS 3 [] t cc 0 (.slice B 0 d) (.slice E 0 f) p q r
  have:=sput_raw [] t cc 0 (.slice A 2 c) (.slice B 0 d) (.slice E 0 f) p q r g w _ _ _ _ u0 (pkey0 ok.2.2.1 v0 hS hg) u1 (px0 ok.2.2.2 v1 hS hg)
  have e:txts (toksS (.put t cc k e))=t::(([91]::(txts (toks0 k) ++ [[93]])) ++ [46]::cc::[61]::(txts (toks0 e) ++ [[59]])):=by
   rw [toksS];simp [txts,tw,tg]
  rw [e]
  exact this
 | del t k=>
  have ok:isNameL t=true∧okX k:=by simpa only [okS]using ok
  obtain ⟨A0,c0,p0,q0,r0,u0,v0⟩:=prt_at (i:=0) (g:=g) (by simp [stA]) (by simp [stA]) hg hA hS 4 [] t [] 0 (.slice B 0 d) (.slice E 0 f) p q r
  have:=sdel_raw [] t [] 0 (.slice A 1 c) (.slice B 0 d) (.slice E 0 f) p q r g w _ _ u0 (pkey0 ok.2 v0 hS hg)
  have e:txts (toksS (.del t k))=w_del::t::(([91]::(txts (toks0 k) ++ [[93]])) ++ [[59]]):=by
   rw [toksS];simp [txts,tw,tg]
  rw [e]
  exact this
 | if_ e b els=>
  have ok:okX e∧(okB b∧b.len≤24)∧okB els∧els.len≤24:=by simpa only [okS]using ok
  obtain ⟨A0,c0,p0,q0,r0,u0,v0⟩:=prt_at (i:=0) (g:=g) (by simp [stA]) (by simp [stA]) hg hA hS 5 [] [] [] 0 (.slice B b.len d) (.slice E els.len f) p q r
  have h1:=hB ok.2.1.1 B d g S w hb hS hg
  have h2:=hE ok.2.2.1 E f g S w he hS hg
  cases els with
  | nil=>
   have:=nif0_raw [] [] [] 0 (.slice A 1 c) (.slice B b.len d) p q r g w E f _ _ _ u0 (px0 ok.1 v0 hS hg) h1
   have:=snest5_raw [] [] [] 0 (.slice A 1 c) (.slice B b.len d) (.slice E 0 f) p q r g w _ this
   have e:txts (toksS (.if_ e b .nil))=w_if::(txts (toks0 e) ++([123]::(txts (toksB b) ++ [[125]]))):=by
    rw [toksS];simp [txts,tw,tg,elsT]
   rw [e]
   exact this
  | cons s t=>
   have:=nif1_raw [] [] [] 0 (.slice A 1 c) (.slice B b.len d) p q r g w E (Sts.cons s t).len f (by rw [Sts.len];omega) _ _ _ _ u0 (px0 ok.1 v0 hS hg) h1 h2
   have:=snest5_raw [] [] [] 0 (.slice A 1 c) (.slice B b.len d) (.slice E (Sts.cons s t).len f) p q r g w _ this
   have e:txts (toksS (.if_ e b (.cons s t)))=w_if::(txts (toks0 e) ++(([123]::(txts (toksB b) ++ [[125]])) ++w_else::([123]::(txts (toksB (.cons s t)) ++ [[125]])))):=by
    rw [toksS];simp [txts,tw,tg,elsT]
   rw [e]
   exact this
 | loop n name b=>
  have ok:okNum n∧isNameL name=true∧okB b∧b.len≤24:=by simpa only [okS]using ok
  have h1:=hB ok.2.2.1 B d g S w hb hS hg
  have hn:-9223372036854775808≤n∧n≤9223372036854775807:=by have h:=ok.1;unfold okNum at h;omega
  have:=nloop_raw name [] [] n (.slice A 0 c) (.slice B b.len d) (.slice E 0 f) p q r g w _ (pnum_raw n g w hn.1 hn.2) h1
  have:=snest6_raw name [] [] n (.slice A 0 c) (.slice B b.len d) (.slice E 0 f) p q r g w _ this
  have e:txts (toksS (.loop n name b))=w_loop::decL n::name::([123]::(txts (toksB b) ++ [[125]])):=by
   rw [toksS];simp [txts,tw,tg,tn]
  rw [e]
  exact this
 | each n t lo hi k b=>
  have ok:(isNameL n=true∧isNameL t=true)∧(okX lo∧okX hi)∧okNum k∧okB b∧b.len≤24:=by simpa only [okS]using ok
  have h1:=hB ok.2.2.2.1 B d g S w hb hS hg
  have hn:-9223372036854775808≤k∧k≤9223372036854775807:=by have h:=ok.2.2.1;unfold okNum at h;omega
  obtain ⟨A0,c0,p0,q0,r0,u0,v0⟩:=prt_at (i:=0) (g:=g) (by simp [stA]) (by simp [stA]) hg hA hS 7 n t [] k (.slice B b.len d) (.slice E 0 f) p q r
  obtain ⟨A1,c1,p1,q1,r1,u1,v1⟩:=prt_at (i:=1) (g:=g) (by simp [stA]) (by simp [stA]) hg hA hS 7 n t [] k (.slice B b.len d) (.slice E 0 f) p q r
  have:=neach_raw n t [] k (.slice A 2 c) (.slice B b.len d) (.slice E 0 f) p q r g w _ _ _ _ _ u0 (px0 ok.2.1.1 v0 hS hg) u1 (px0 ok.2.1.2 v1 hS hg) (pnum_raw k g w hn.1 hn.2) h1
  have:=snest7_raw n t [] k (.slice A 2 c) (.slice B b.len d) (.slice E 0 f) p q r g w _ this
  have e:txts (toksS (.each n t lo hi k b))=w_each::n::w_in::t::w_from::(txts (toks0 lo) ++w_to::(txts (toks0 hi) ++w_max::decL k::([123]::(txts (toksB b) ++ [[125]])))):=by
   rw [toksS];simp [txts,tw,tg,tn]
  rw [e]
  exact this
 | roll=>
  have:=sroll_raw [] [] [] 0 (.slice A 0 c) (.slice B 0 d) (.slice E 0 f) p q r g w
  have e:txts (toksS .roll)=[w_rollback,[59]]:=by
   rw [toksS];simp [txts,tw,tg]
  rw [e]
  exact this
 | emit e=>
  have ok:okX e:=by simpa only [okS]using ok
  obtain ⟨A0,c0,p0,q0,r0,u0,v0⟩:=prt_at (i:=0) (g:=g) (by simp [stA]) (by simp [stA]) hg hA hS 9 [] [] [] 0 (.slice B 0 d) (.slice E 0 f) p q r
  have:=semit_raw [] [] [] 0 (.slice A 1 c) (.slice B 0 d) (.slice E 0 f) p q r g w _ _ u0 (px0 ok v0 hS hg)
  have e:txts (toksS (.emit e))=w_emit::(txts (toks0 e) ++ [[59]]):=by
   rw [toksS];simp [txts,tw,tg]
  rw [e]
  exact this
def toksLp (l:List St):List Tok:=l.flatMap toksS
theorem toksLp_step {l:List St}{k:Nat}(h:k < l.length):txts (toksLp (l.take (k+1)))=txts (toksLp (l.take k)) ++txts (toksS l[k]):=by
 unfold toksLp
 rw [List.take_succ_eq_append_getElem h,List.flatMap_append,txts_app,List.flatMap_cons,List.flatMap_nil,List.append_nil]
theorem toksLp_len (l:List St)(k:Nat):(txts (toksLp (l.take k))).length≤(txts (toksLp l)).length:=by
 conv=> rhs;rw [← List.take_append_drop k l]
 unfold toksLp
 rw [List.flatMap_append,txts_app,List.length_append]
 omega
theorem pb_step (b:Sts)(ih: ∀x ∈ b.list,PS x):PB b:=by
 intro ok A c g S w h hS hg
 have hcap:=h.cap
 obtain ⟨n,hn⟩: ∃n,b.len=n:=⟨_,rfl⟩
 have HN:Hid (b.list.length=n):=Lib.hid (by rw [Sts.list_len];exact hn)
 rw [hn]at hcap⊢
 rw [toksB_l]
 have HIH:=Lib.hid ih
 have HOK:=Lib.hid (okB_l ok)
 have H1:=Lib.hid h
 have HS:=Lib.hid hS
 clear hn ih ok h hS
 show Run _ _ _ ([123]::(txts (toksLp b.list) ++ [[125]])) _
 intro w' L hbw hpr hlim
 have hlt:=hpr.lt
 try simp only [List.length_cons,List.length_append,List.length_nil]at hlim
 have HL:=Lib.hid hlim
 have HW:=Lib.hid hbw
 clear hlim hbw
 have PW:=Lib.hid hpr
 have FW:Hid (PF g w' w'):=Lib.hid (.refl _ _)
 clear hpr
 go_enter Tryz.func55,Tryz.ntmps55
 go_wp2_with fail
 refine (put_any g _ _ _ [[123]] _ _ (PW.out.next one_new) (Rd.made _ _ rfl (by first | rfl | simp)) (by have:=HL.out;simp;omega)).mono ?_;rintro e w2 ⟨rfl,p2,f2⟩
 replace FW:=Lib.hid ((FW.out.then one_new).trans f2)
 replace PW:=Lib.hid p2
 clear p2 f2
 go_wp2_with fail
 go_loopw [11] (fun i wr=> ∃k:Nat,k≤n∧i= .int .i64 k∧Hid (Pr wr g (L ++ [[123]] ++txts (toksLp (b.list.take k))))∧Hid (PF g w' wr)) (fun i _=> n - (intOf i).toNat)
 case atStart=> exact ⟨0,Nat.zero_le _,rfl,Lib.hid (by simpa [toksLp,txts]using PW.out),FW⟩
 case round=>
  clear PW FW
  obtain ⟨k,hk,rfl,PW,FW⟩:=hrel
  have hbl:=HW.out.trans (FW.out.below (Nat.le_of_lt hlt))
  have hlen:=toksLp_len b.list k
  by_cases hlt2:k < n
  ·have hlk:k < b.list.length:=by rw [HN.out];exact hlt2
   have hki:(k:Int) < (n:Int):=by omega
   obtain ⟨b1,off,A1,c1,B1,d1,E1,f1,p1,q1,r1,⟨rfl,hb1⟩,hc1,ga,gb,ge⟩:=H1.out.at_ HS.out hlk
   have hst:=toksLp_step hlk
   have hlen1:=toksLp_len b.list (k+1)
   rw [hst,List.length_append]at hlen1
   have HST:=Lib.hid hst
   have RU:=Lib.hid (HIH.out _ (List.getElem_mem hlk) (HOK.out _ (List.getElem_mem hlk)) A1 c1 B1 d1 E1 f1 p1 q1 r1 g S w ga gb ge HS.out hg)
   unfold stV at hc1
   clear hst ga gb ge
   generalize b.list[k]=x at *
   have hbw1:b1 < wr.heap.size:=by have:=hbl.size;omega
   have hcell: ∀j,j < 11→wr.cell? ⟨b1,off+k * 11+j,none⟩=_:=fun j hj=> (hbl.cell (p:=⟨b1,off+k * 11+j,none⟩) hb1).trans (hc1 j hj)
   generalize stK x=xk at *
   generalize stN x=xn at *
   generalize stT x=xt at *
   generalize stC x=xc at *
   generalize stI x=xi at *
   generalize (stA x).length=ma at *
   generalize (stB x).len=mb at *
   generalize (stE x).len=me at *
   have y0:wr.cell? ⟨b1,off+k * 11,none⟩=some (nv xk):=hcell 0 (by omega)
   have y1:wr.cell? ⟨b1,off+k * 11+1,none⟩=some (sv xn):=hcell 1 (by omega)
   have y2:wr.cell? ⟨b1,off+k * 11+2,none⟩=some (sv xt):=hcell 2 (by omega)
   have y3:wr.cell? ⟨b1,off+k * 11+3,none⟩=some (sv xc):=hcell 3 (by omega)
   have y4:wr.cell? ⟨b1,off+k * 11+4,none⟩=some (nv xi):=hcell 4 (by omega)
   have y5:wr.cell? ⟨b1,off+k * 11+5,none⟩=some (.slice A1 ma c1):=hcell 5 (by omega)
   have y6:wr.cell? ⟨b1,off+k * 11+6,none⟩=some (.slice B1 mb d1):=hcell 6 (by omega)
   have y7:wr.cell? ⟨b1,off+k * 11+7,none⟩=some (.slice E1 me f1):=hcell 7 (by omega)
   have y8:wr.cell? ⟨b1,off+k * 11+8,none⟩=some (nv p1):=hcell 8 (by omega)
   have y9:wr.cell? ⟨b1,off+k * 11+9,none⟩=some (nv q1):=hcell 9 (by omega)
   have y10:wr.cell? ⟨b1,off+k * 11+10,none⟩=some (nv r1):=hcell 10 (by omega)
   clear hc1 hcell hbl
   go_upto_region 4 with fail
   have BX:Hid ((wr.alloc (smO xk xn xt xc xi (.slice A1 ma c1) (.slice B1 mb d1) (.slice E1 me f1) p1 q1 r1)).heap[wr.heap.size]? =some (smB xk xn xt xc xi (.slice A1 ma c1) (.slice B1 mb d1) (.slice E1 me f1) p1 q1 r1)):=Lib.hid (alloc_at rfl)
   replace PW:=Lib.hid (PW.out.next (one_new (o:=smO xk xn xt xc xi (.slice A1 ma c1) (.slice B1 mb d1) (.slice E1 me f1) p1 q1 r1)))
   replace FW:=Lib.hid (FW.out.then (one_new (o:=smO xk xn xt xc xi (.slice A1 ma c1) (.slice B1 mb d1) (.slice E1 me f1) p1 q1 r1)))
   obtain ⟨w3,hw3⟩: ∃W,wr.alloc (smO xk xn xt xc xi (.slice A1 ma c1) (.slice B1 mb d1) (.slice E1 me f1) p1 q1 r1)=W:=⟨_,rfl⟩
   rw [hw3]at BX PW FW⊢
   clear hw3 y0 y1 y2 y3 y4 y5 y6 y7 y8 y9 y10
   obtain ⟨⟨⟨⟨x0,x1⟩,x2,x3⟩,⟨x4,x5⟩,x6,x7⟩,⟨x8,x9⟩,x10⟩:=cells11 BX.out
   go_wp2_with fail
   refine (RU.out _ _ (HW.out.trans (FW.out.below (Nat.le_of_lt hlt))) PW.out (by have:=HL.out;simp;omega)).mono ?_;rintro e w4 ⟨rfl,p4,f4⟩
   have FW4:=Lib.hid (FW.out.trans f4)
   have PW4:=Lib.hid p4
   clear p4 f4 x0 x1 x2 x3 x4 x5 x6 x7 x8 x9 x10 BX
   go_wp2_with fail
   go_roundw
   case rel=> exact ⟨k+1,by omega,by go_num,Lib.hid (by rw [HST.out,← List.append_assoc];exact PW4.out),FW4⟩
   case measure=> simp [intOf];omega
  ·have hkn:k=n:=by omega
   have e:b.list.take k=b.list:=by rw [List.take_of_length_le (by rw [HN.out];omega)]
   rw [e]at PW
   have hki: ¬(k:Int) < (n:Int):=by omega
   clear e hbl
   go_wp2_with fail
   refine (put_any g _ _ _ [[125]] _ _ (PW.out.next one_new) (Rd.made _ _ rfl (by first | rfl | simp)) (by have:=HL.out;simp;omega)).mono ?_;rintro e w5 ⟨rfl,p5,f5⟩
   have FW5:=Lib.hid ((FW.out.then one_new).trans f5)
   have PW5:=Lib.hid p5
   clear p5 f5
   go_wp2_with fail
   first | go_end0 | refine bodyPost_ret (results_none rfl _ _ _) rfl ?_
   exact ⟨rfl,by simpa only [List.append_assoc,List.cons_append,List.nil_append]using PW5.out,FW5.out⟩
theorem pb_any: ∀b:Sts,PB b:=
 fun b=> (Sts.indM (P:=fun s=> PS s) (Q:=fun b=> PB b∧∀x ∈ b.list,PS x) (fun s h1 h2=> ps_step s h1.1 h2.1)
  ⟨pb_step .nil (fun x hx=> by cases hx),fun x hx=> by cases hx⟩
  (fun s r hs hr=> by
   have: ∀x ∈ (Sts.cons s r).list,PS x:=fun x hx=> by
    rw [Sts.list]at hx
    rcases List.mem_cons.1 hx with rfl | hx
    ·exact hs
    ·exact hr.2 x hx
   exact ⟨pb_step _ this,this⟩) b).1
end Go.Proofs.YtnbmpfdffoidaaaGreatDoor.Y
namespace Go.Proofs
open Go.Shelf
def Tryz.lays143_ren:Go.Shelf.Ren:=⟨fun | 143=> 92 | 219=> 134 | 217=> 157 | 225=> 158 | 224=> 159 | 267=> 160 | 266=> 173 | 314=> 174 | n=> n,fun | 9=> 9 | 3=> 3 | 4=> 4 | 5=> 5 | 46=> 182 | 146=> 165 | 51=> 164 | n=> n,fun | 1=> 0 | n=> n⟩
theorem Tryz.lays143:Go.Proofs.Lays.n143 Tryz.prog Tryz.lays143_ren:= {
 mixed:=by kernel_rfl
 f143:=Tryz.func92.trans (congrArg some (by kernel_rfl))
 f217:=Tryz.func157.trans (congrArg some (by kernel_rfl))
 f219:=Tryz.func134.trans (congrArg some (by kernel_rfl))
 f224:=Tryz.func159.trans (congrArg some (by kernel_rfl))
 f225:=Tryz.func158.trans (congrArg some (by kernel_rfl))
 f266:=Tryz.func173.trans (congrArg some (by kernel_rfl))
 f267:=Tryz.func160.trans (congrArg some (by kernel_rfl))
 f314:=Tryz.func174.trans (congrArg some (by kernel_rfl))
 t3:=Tryz.underlying3
 a3:=Tryz.isAgg3
 z3:=Tryz.sizeOf3
 v3:=Tryz.zeroValue3
 t4:=Tryz.underlying4
 a4:=Tryz.isAgg4
 z4:=Tryz.sizeOf4
 v4:=Tryz.zeroValue4
 t5:=Tryz.underlying5
 a5:=Tryz.isAgg5
 z5:=Tryz.sizeOf5
 v5:=Tryz.zeroValue5
 t9:=Tryz.underlying9
 a9:=Tryz.isAgg9
 z9:=Tryz.sizeOf9
 v9:=Tryz.zeroValue9
 t46:=Tryz.underlying182
 a46:=Tryz.isAgg182
 z46:=Tryz.sizeOf182
 v46:=Tryz.zeroValue182
 t51:=Tryz.underlying164
 a51:=Tryz.isAgg164
 z51:=Tryz.sizeOf164
 v51:=Tryz.zeroValue164
 t146:=Tryz.underlying165
 a146:=Tryz.isAgg165
 z146:=Tryz.sizeOf165
 v146:=Tryz.zeroValue165
 g1:=by kernel_rfl }
open Go.RowKit Go.Lib in
theorem Tryz.strings_Index_one (s:ByteArray)(c:UInt8)(w:World):
  Calls Tryz.prog 92 #[.string s,.string ⟨#[c]⟩] w fun e w'=> e= .returned (.int .i64 (Lib.indexByte s.data.toList c))∧w'=w:=Any.strings_Index_one Tryz.lays143 s c w
def Tryz.lays221_ren:Go.Shelf.Ren:=⟨fun | 221=> 112 | 268=> 145 | 138=> 43 | 143=> 92 | 195=> 90 | 197=> 170 | 218=> 91 | 219=> 134 | 260=> 178 | 217=> 157 | 225=> 158 | 224=> 159 | 267=> 160 | 266=> 173 | 314=> 174 | n=> n,fun | 9=> 9 | 3=> 3 | 31=> 62 | 4=> 4 | 0=> 0 | 105=> 184 | 21=> 21 | 5=> 5 | 46=> 182 | 119=> 187 | 139=> 190 | 138=> 189 | 146=> 165 | 51=> 164 | n=> n,fun | 1=> 0 | 3=> 1 | 4=> 2 | n=> n⟩
theorem Tryz.lays221:Go.Proofs.Lays.n221 Tryz.prog Tryz.lays221_ren:= {
 mixed:=by kernel_rfl
 f138:=Tryz.func43.trans (congrArg some (by kernel_rfl))
 f143:=Tryz.func92.trans (congrArg some (by kernel_rfl))
 f195:=Tryz.func90.trans (congrArg some (by kernel_rfl))
 f197:=Tryz.func170.trans (congrArg some (by kernel_rfl))
 f217:=Tryz.func157.trans (congrArg some (by kernel_rfl))
 f218:=Tryz.func91.trans (congrArg some (by kernel_rfl))
 f219:=Tryz.func134.trans (congrArg some (by kernel_rfl))
 f221:=Tryz.func112.trans (congrArg some (by kernel_rfl))
 f224:=Tryz.func159.trans (congrArg some (by kernel_rfl))
 f225:=Tryz.func158.trans (congrArg some (by kernel_rfl))
 f260:=Tryz.func178.trans (congrArg some (by kernel_rfl))
 f266:=Tryz.func173.trans (congrArg some (by kernel_rfl))
 f267:=Tryz.func160.trans (congrArg some (by kernel_rfl))
 f268:=Tryz.func145.trans (congrArg some (by kernel_rfl))
 f314:=Tryz.func174.trans (congrArg some (by kernel_rfl))
 t0:=Tryz.underlying0
 a0:=Tryz.isAgg0
 z0:=Tryz.sizeOf0
 v0:=Tryz.zeroValue0
 t3:=Tryz.underlying3
 a3:=Tryz.isAgg3
 z3:=Tryz.sizeOf3
 v3:=Tryz.zeroValue3
 t4:=Tryz.underlying4
 a4:=Tryz.isAgg4
 z4:=Tryz.sizeOf4
 v4:=Tryz.zeroValue4
 t5:=Tryz.underlying5
 a5:=Tryz.isAgg5
 z5:=Tryz.sizeOf5
 v5:=Tryz.zeroValue5
 t9:=Tryz.underlying9
 a9:=Tryz.isAgg9
 z9:=Tryz.sizeOf9
 v9:=Tryz.zeroValue9
 t21:=Tryz.underlying21
 a21:=Tryz.isAgg21
 z21:=Tryz.sizeOf21
 v21:=Tryz.zeroValue21
 t31:=Tryz.underlying62
 a31:=Tryz.isAgg62
 z31:=Tryz.sizeOf62
 v31:=Tryz.zeroValue62
 t46:=Tryz.underlying182
 a46:=Tryz.isAgg182
 z46:=Tryz.sizeOf182
 v46:=Tryz.zeroValue182
 t51:=Tryz.underlying164
 a51:=Tryz.isAgg164
 z51:=Tryz.sizeOf164
 v51:=Tryz.zeroValue164
 t105:=Tryz.underlying184
 a105:=Tryz.isAgg184
 z105:=Tryz.sizeOf184
 v105:=Tryz.zeroValue184
 t119:=Tryz.underlying187
 a119:=Tryz.isAgg187
 z119:=Tryz.sizeOf187
 t138:=Tryz.underlying189
 a138:=Tryz.isAgg189
 z138:=Tryz.sizeOf189
 v138:=Tryz.zeroValue189
 t139:=Tryz.underlying190
 a139:=Tryz.isAgg190
 z139:=Tryz.sizeOf190
 v139:=Tryz.zeroValue190
 t146:=Tryz.underlying165
 a146:=Tryz.isAgg165
 z146:=Tryz.sizeOf165
 v146:=Tryz.zeroValue165
 g1:=by kernel_rfl
 g3:=by kernel_rfl
 g4:=by kernel_rfl }
end Go.Proofs
namespace Go.Proofs.YtnbmpfdffoidaaaGreatDoor.Y
open Go.RowKit O V S
theorem yidxB_one (x:ByteArray)(c:UInt8):Lib.indexB x ⟨#[c]⟩=Lib.indexByte x.data.toList c:=Lib.index_one _ _
theorem ycntB_one (x:ByteArray)(c:UInt8):Lib.countB x ⟨#[c]⟩=x.data.toList.count c:=Lib.count_one _ _
theorem ysplit_len (c:UInt8)(s:List UInt8):(Lib.split s [c]).length=s.count c+1:=by
 have h2:=Lib.splitB_all ⟨#[c]⟩ (Nat.le_refl 1) 0 _ ⟨s.toArray⟩ rfl
 rw [ycntB_one]at h2
 have h3:=Lib.splitB_data ⟨#[c]⟩ 0 (s.count c) ⟨s.toArray⟩
 rw [Lib.split,Lib.count_one]
 have h4:=congrArg List.length h3
 rw [List.length_map,h2]at h4
 exact h4.symm
theorem ysplit_bytes (c:UInt8)(s:List UInt8):(Lib.splitB ⟨#[c]⟩ 0 (s.count c) ⟨s.toArray⟩).map Value.string=(Lib.split s [c]).map sv:=by
 have h3:=Lib.splitB_data ⟨#[c]⟩ 0 (s.count c) ⟨s.toArray⟩
 rw [Lib.split,Lib.count_one]
 have h4:Lib.splitK [c] 0 (s.count c) s=(Lib.splitB ⟨#[c]⟩ 0 (s.count c) ⟨s.toArray⟩).map (·.data.toList):=h3.symm
 rw [h4,List.map_map]
 exact List.map_congr_left fun x _=> rfl
theorem ygsplit_any (s:List UInt8)(c:UInt8)(w:World)(hs:s.length≤1000000):Calls Tryz.prog 112 #[.string ⟨s.toArray⟩,.string ⟨#[c]⟩,.int .i64 0,.int .i64 (-1)] w fun e w'=> e= .returned (.slice (some ⟨w.heap.size,0,none⟩) (s.count c+1) (s.count c+1))∧w'=w.alloc (.cells ((Lib.split s [c]).map sv).toArray 9):=by
 have hsz:(ByteArray.mk s.toArray).size=s.length:=by simp [ByteArray.size]
 have hcl:s.count c≤s.length:=List.count_le_length
 have h:=Any.strings_genSplit_core (P:=Tryz.prog) Tryz.lays221 (by kernel_rfl) ⟨s.toArray⟩ ⟨#[c]⟩ 0 (-1) (s.count c+1) w (by omega) (Nat.le_refl 1) (Nat.zero_le _)
  (fun x cs hx=> by rw [yidxB_one];exact Tryz.strings_Index_one x c _)
  (by rw [ycntB_one];exact Tryz.strings_Count_one ⟨s.toArray⟩ c w) (by decide) (by decide) (by rw [if_pos (by decide),ycntB_one,hsz];show ((s.count c+1:Nat):Int)=min ((s.count c:Int)+1) ((s.length:Int)+1);omega)
 rw [Nat.add_sub_cancel]at h
 have hl:=Lib.splitB_all ⟨#[c]⟩ (Nat.le_refl 1) 0 _ ⟨s.toArray⟩ rfl
 rw [ycntB_one]at hl
 have hl':(Lib.splitB ⟨#[c]⟩ 0 (s.count c) ⟨s.toArray⟩).length=s.count c+1:=hl
 rw [hl']at h
 have hc:Lib.cellsOf (Lib.splitB ⟨#[c]⟩ 0 (s.count c) ⟨s.toArray⟩) (s.count c+1)=((Lib.split s [c]).map sv).toArray:=by
  have:=Lib.cellsOf_full (Lib.splitB ⟨#[c]⟩ 0 (s.count c) ⟨s.toArray⟩)
  rw [hl']at this
  rw [this,ysplit_bytes]
 rw [hc]at h
 exact h
theorem ysplit_any (s:List UInt8)(c:UInt8)(w:World)(hs:s.length≤1000000):Calls Tryz.prog 53 #[.string ⟨s.toArray⟩,.string ⟨#[c]⟩] w fun e w'=> e= .returned (.slice (some ⟨w.heap.size,0,none⟩) (s.count c+1) (s.count c+1))∧w'=w.alloc (.cells ((Lib.split s [c]).map sv).toArray 9):=by
 go_enter Tryz.func53,Tryz.ntmps53
 go_wp2_with fail
 refine (ygsplit_any s c _ hs).mono ?_;rintro e w1 ⟨rfl,rfl⟩
 go_wp2_with fail
 go_ret
 exact ⟨rfl,rfl⟩
theorem yindex_one {c:UInt8}(r:List UInt8): ∀{l:List UInt8},c ∉ l→Lib.index (l ++c::r) [c]=(l.length:Int)
 | [],_=> by simp [Lib.index]
 | b::l,h=> by
  simp only [List.mem_cons,not_or]at h
  have ih:=yindex_one r h.2
  have hb:(c==b)=false:=by simpa using h.1
  rw [List.cons_append,Lib.index,ih]
  simp [List.isPrefixOf,hb]
  try omega
theorem ysplit_no {c:UInt8}{t:List UInt8}(ht:c ∉ t):Lib.split t [c]=[t]:=by
 unfold Lib.split
 have:Lib.count t [c]=0:=by rw [Lib.count_one];exact List.count_eq_zero.2 ht
 rw [this];simp [Lib.splitK]
theorem ysplit_two {c:UInt8}{l t:List UInt8}(hl:c ∉ l)(ht:c ∉ t):Lib.split (l ++c::t) [c]=[l,t]:=by
 have ih:=ysplit_no ht
 unfold Lib.split at ih⊢
 have hc:Lib.count (l ++c::t) [c]=Lib.count t [c]+1:=by
  rw [Lib.count_one,Lib.count_one,List.count_append,List.count_eq_zero.2 hl,List.count_cons_self];omega
 have hi:(Lib.index (l ++c::t) [c]==-1)=false:=by rw [yindex_one _ hl,beq_eq_false_iff_ne];omega
 rw [hc,Lib.splitK,hi,yindex_one _ hl]
 simp only [Bool.false_eq_true,if_false,Int.toNat_natCast,Nat.add_zero,List.length_singleton]
 rw [List.take_left' rfl,show l ++c::t=(l ++ [c]) ++t by simp,List.drop_left' (by simp),ih]
end Go.Proofs.YtnbmpfdffoidaaaGreatDoor.Y
namespace Go.Proofs.YtnbmpfdffoidaaaGreatDoor.Y
open Go.RowKit O V S X
abbrev TyOk' (k m:Int):Prop:=(k=1∧m=0)∨(k=2∧m=0)∨(k=3∧1≤m∧m≤32)
theorem dec_no32 {m:Int}(h:0≤m):(32:UInt8) ∉ decL m:=by
 unfold decL
 rw [if_neg (by omega)]
 intro hm
 have:=digN_mem m.natAbs _ hm
 simp at this
theorem dec_len21 {m:Int}(h:1≤m∧m≤32):(decL m).length≤21:=by
 unfold decL
 have:=digN_len20 m.natAbs (by omega)
 rw [if_neg (by omega)]
 omega
theorem typ_split {k m:Int}(h:TyOk' k m):Lib.split (printT k m) [32]=txts (toksT k m)∧(printT k m).length≤100∧(txts (toksT k m)).length=(printT k m).count 32+1:=by
 have hs:Lib.split (printT k m) [32]=txts (toksT k m)∧(printT k m).length≤100:=by
  rcases h with ⟨rfl,rfl⟩ | ⟨rfl,rfl⟩ | ⟨rfl,h⟩
  ·exact ⟨by rw [show printT 1 0=w_int from rfl,ysplit_no (by decide)];rfl,by decide⟩
  ·exact ⟨by rw [show printT 2 0=w_bool from rfl,ysplit_no (by decide)];rfl,by decide⟩
  ·have e:printT 3 m=w_text ++32::decL m:=by
    unfold printT
    rw [if_pos (by unfold rightT;simp;omega)]
    rfl
   have:=dec_len21 h
   exact ⟨by rw [e,ysplit_two (by decide) (dec_no32 (by omega))];rfl,by rw [e];simp [w_text];omega⟩
 refine ⟨hs.1,hs.2,?_⟩
 rw [← hs.1,ysplit_len]
theorem ptyp_raw (k m:Int)(h:TyOk' k m)(g:Nat)(w:World):Run 21 #[.pointer (some ⟨g,0,none⟩),.agg #[nv k,nv m]] g (txts (toksT k m)) w:=by
 obtain ⟨h1,h2,h3⟩:=typ_split h
 obtain ⟨T,hT⟩: ∃T,txts (toksT k m)=T:=⟨_,rfl⟩
 rw [hT]at h1 h3⊢
 clear hT h
 intro w' L hbw hpr hlim
 have hlt:=hpr.lt
 try simp only [List.length_cons,List.length_append,List.length_nil]at hlim
 have HL:=Lib.hid hlim
 have HW:=Lib.hid hbw
 clear hlim hbw
 have PW:=Lib.hid hpr
 have FW:Hid (PF g w' w'):=Lib.hid (.refl _ _)
 clear hpr
 have hpt:=fun w=> printType_any k m w
 unfold V.tv at hpt
 have HPT:=Lib.hid hpt
 clear hpt
 generalize printT k m=s at *
 have hcl:s.count 32≤s.length:=List.count_le_length
 go_enter Tryz.func21,Tryz.ntmps21
 go_wp2_with fail
 refine (HPT.out _).mono ?_;rintro e w2 ⟨rfl,b2⟩
 replace PW:=Lib.hid ((PW.out.next one_new).next b2)
 replace FW:=Lib.hid ((FW.out.then one_new).then b2)
 clear b2
 go_wp2_with fail
 refine (ysplit_any s 32 _ (by omega)).mono ?_;rintro e w3 ⟨rfl,rfl⟩
 rw [h1]
 go_wp2_with fail
 refine (put_any g _ _ _ T _ _ (PW.out.next one_new) (Rd.made _ _ (by simp [h3]) (by first | rfl | simp [h3])) (by have:=HL.out;omega)).mono ?_;rintro e w4 ⟨rfl,p4,f4⟩
 have FW4:=Lib.hid ((FW.out.then one_new).trans f4)
 have PW4:=Lib.hid p4
 clear p4 f4
 go_wp2_with fail
 first | go_end0 | refine bodyPost_ret (results_none rfl _ _ _) rfl ?_
 exact ⟨rfl,PW4.out,FW4.out⟩
theorem tPs_first {l:List Cl}(h:0 < l.length):toksPs (l.take (0+1))=toksC l[0]:=by
 cases l with
 | nil=> simp at h
 | cons c r=>
  rw [List.take_succ_cons,List.take_zero]
  show toksC c ++ []=_
  rw [List.append_nil];rfl
theorem tPs_next {l:List Cl}{k:Nat}(h:k < l.length)(hk:0 < k):toksPs (l.take (k+1))=toksPs (l.take k) ++(tg [44]::toksC l[k]):=by
 cases l with
 | nil=> simp at h
 | cons c r=>
  cases k with
  | zero=> simp at hk
  | succ j=>
   have hj:j < r.length:=by simpa using h
   rw [List.take_succ_cons,List.take_succ_cons]
   show toksC c ++((r.take (j+1)).flatMap fun x=> tg [44]::toksC x)=(toksC c ++((r.take j).flatMap fun x=> tg [44]::toksC x)) ++_
   rw [List.take_succ_eq_append_getElem hj,List.flatMap_append,← List.append_assoc,List.flatMap_cons,List.flatMap_nil,List.append_nil,List.getElem_cons_succ]
theorem tPs_len (l:List Cl)(k:Nat):(txts (toksPs (l.take k))).length≤(txts (toksPs l)).length:=by
 cases l with
 | nil=> simp [toksPs,txts]
 | cons c r=>
  cases k with
  | zero=> rw [List.take_zero];exact Nat.zero_le _
  | succ j=>
   rw [List.take_succ_cons]
   show (txts (toksC c ++((r.take j).flatMap fun x=> tg [44]::toksC x))).length≤(txts (toksC c ++(r.flatMap fun x=> tg [44]::toksC x))).length
   conv=> rhs;rw [← List.take_append_drop j r]
   rw [List.flatMap_append,txts_app,txts_app,txts_app,List.length_append,List.length_append,List.length_append]
   omega
theorem txts_C (c:Cl):txts (toksC c)=c.name::txts (toksT c.k c.m):=rfl
theorem flat_step {α:Type}(f:α→List Tok){l:List α}{k:Nat}(h:k < l.length):txts ((l.take (k+1)).flatMap f)=txts ((l.take k).flatMap f) ++txts (f l[k]):=by
 rw [List.take_succ_eq_append_getElem h,List.flatMap_append,txts_app,List.flatMap_cons,List.flatMap_nil,List.append_nil]
theorem flat_len {α:Type}(f:α→List Tok)(l:List α)(k:Nat):(txts ((l.take k).flatMap f)).length≤(txts (l.flatMap f)).length:=by
 conv=> rhs;rw [← List.take_append_drop k l]
 rw [List.flatMap_append,txts_app,List.length_append]
 omega
abbrev pcV (nm:List UInt8)(a b:Value)(p q r:Int):Value:= .agg #[sv nm,a,b,nv p,nv q,nv r]
abbrev pcOp (nm:List UInt8)(a b:Value)(p q r:Int):Obj:= .cells #[sv nm,a,b,nv p,nv q,nv r] 41
abbrev pcB (nm:List UInt8)(a b:Value)(p q r:Int):Obj:= .cells #[sv nm,a,b,nv p,nv q,nv r] 41 (0,0)
abbrev clO (nm:List UInt8)(k m:Int):Obj:= .cells #[sv nm,nv k,nv m] 72
abbrev clB (nm:List UInt8)(k m:Int):Obj:= .cells #[sv nm,nv k,nv m] 72 (0,0)
theorem cells3p {W:World}{g:Nat}{a b c:Value}{T:TypeId}(h:W.heap[g]? =some (.cells #[a,b,c] T (0,0))):
  (W.cell? ⟨g,0,none⟩=some a∧W.cell? ⟨g,1,none⟩=some b)∧W.cell? ⟨g,2,none⟩=some c:=by
 refine ⟨⟨?_,?_⟩,?_⟩ <;> (rw [Lib.cell_of_heap h];rfl)
theorem pproc_raw (tn:List UInt8)(tp:List Cl)(tb:Sts)(hty: ∀c ∈ tp,TyOk' c.k c.m)(okb:okB tb)(A:Option Addr)(c:Nat)(B:Option Addr)(d:Nat)(p q r:Int)(g:Nat)(S:Nat→Prop)(w:World)(hA:RC w S A c tp)(hB:RS w S B d tb)(hS: ∀b,S b→b < g)(hg:g≤w.heap.size):
  Run 22 #[.pointer (some ⟨g,0,none⟩),pcV tn (.slice A tp.length c) (.slice B tb.len d) p q r] g (txts (toksP ⟨tn,tp,tb⟩)) w:=by
 have e:txts (toksP ⟨tn,tp,tb⟩)=[w_proc,tn,[40]] ++(txts (toksPs tp) ++([41]::([123]::(txts (toksB tb) ++ [[125]])))):=by
  unfold toksP
  simp [txts,tw,tg]
 rw [e]
 clear e
 have hcap:=hA.cap
 have RB:=Lib.hid (pb_any tb okb B d g S w hB hS hg)
 obtain ⟨np,hnp⟩: ∃z,tp.length=z:=⟨_,rfl⟩
 have HNC:=Lib.hid hnp
 have RC1:=Lib.hid hA
 have HS:=Lib.hid hS
 have HTYS:=Lib.hid hty
 have hcl:=tPs_len tp
 rw [hnp]at hcap⊢
 generalize tb.len=mb at *
 clear hnp hA hB hS okb hty
 intro w' L hbw hpr hlim
 have hlt:=hpr.lt
 try simp only [List.length_cons,List.length_append,List.length_nil]at hlim
 have HL:=Lib.hid hlim
 have HW:=Lib.hid hbw
 clear hlim hbw
 have PW:=Lib.hid hpr
 have FW:Hid (PF g w' w'):=Lib.hid (.refl _ _)
 clear hpr
 go_enter Tryz.func22,Tryz.ntmps22
 go_upto_region 1 with fail
 have BX:Hid ((w'.alloc (pcOp tn (.slice A np c) (.slice B mb d) p q r)).heap[w'.heap.size]? =some (pcB tn (.slice A np c) (.slice B mb d) p q r)):=Lib.hid (alloc_at rfl)
 replace PW:=Lib.hid (PW.out.next (one_new (o:=pcOp tn (.slice A np c) (.slice B mb d) p q r)))
 replace FW:=Lib.hid (FW.out.then (one_new (o:=pcOp tn (.slice A np c) (.slice B mb d) p q r)))
 obtain ⟨w1,hw1⟩: ∃W,w'.alloc (pcOp tn (.slice A np c) (.slice B mb d) p q r)=W:=⟨_,rfl⟩
 rw [hw1]at BX PW FW⊢
 clear hw1
 have hltB:g < w'.heap.size:=hlt
 obtain ⟨⟨⟨x0,x1⟩,x2,x3⟩,x4,x5⟩:=box6 BX.out
 go_wp2_with fail
 refine (put_any g _ _ _ [w_proc,tn,[40]] _ _ (PW.out.next one_new) (Rd.made _ _ rfl (by first | rfl | simp)) (by have:=HL.out;simp;omega)).mono ?_;rintro e w3 ⟨rfl,p3,f3⟩
 replace BX:=Lib.hid (f3.keep hltB (box_next BX.out one_new) (by decide))
 replace FW:=Lib.hid ((FW.out.then one_new).trans f3)
 replace PW:=Lib.hid p3
 clear p3 f3 x0 x1 x2 x3 x4 x5
 obtain ⟨⟨⟨x0,x1⟩,x2,x3⟩,x4,x5⟩:=box6 BX.out
 go_wp2_with fail
 clear x0 x1 x2 x3 x4 x5
 go_loopw [14] (fun i wr=> ∃z:Nat,z≤np∧i= .int .i64 z∧Hid (Pr wr g (L ++ [w_proc,tn,[40]] ++txts (toksPs (tp.take z))))∧Hid (PF g w' wr)∧Hid (wr.heap[w'.heap.size]? =some (pcB tn (.slice A np c) (.slice B mb d) p q r))) (fun i _=> np - (intOf i).toNat)
 case atStart=> exact ⟨0,Nat.zero_le _,rfl,Lib.hid (by rw [List.take_zero,show txts (toksPs [])=[] from rfl,List.append_nil];exact PW.out),FW,BX⟩
 case round=>
  clear PW FW BX
  obtain ⟨z,hz,rfl,PW,FW,BX⟩:=hrel
  have hbl:=HW.out.trans (FW.out.below (Nat.le_of_lt hlt))
  have hclz:=hcl z
  have hwr:w'.heap.size < wr.heap.size:=(Array.getElem?_eq_some_iff.1 BX.out).1
  by_cases hzl:z < np
  ·have hzl':z < tp.length:=by rw [HNC.out];exact hzl
   have hzi:(z:Int) < (np:Int):=by omega
   obtain ⟨b3,off3,⟨rfl,hb3⟩,hc3⟩:=RC1.out.at_ HS.out hzl'
   have HST1:=Lib.hid (fun h0:0 < tp.length=> tPs_first h0)
   have HST2:=Lib.hid (fun h0:0 < z=> tPs_next hzl' h0)
   have hcl1:=hcl (z+1)
   have HTY1:=Lib.hid (HTYS.out _ (List.getElem_mem hzl'))
   have HZ0:Hid (∀h0:z=0,tp[z]=tp[0]'(by omega)):=Lib.hid fun h0=> by subst h0;rfl
   obtain ⟨⟨y0,y1⟩,y2⟩:=hc3 wr (fun b hB=> hbl.block b (HS.out b hB))
   generalize tp[z]=cl at *
   obtain ⟨cn,ck,cm⟩:=cl
   try dsimp only at y0 y1 y2
   have HTY:=Lib.hid (ptyp_raw ck cm HTY1.out g w)
   have hb3w:b3 < wr.heap.size:=by have:=hbl.size;omega
   have hltC:g < wr.heap.size:=by omega
   clear hc3 HTY1 hbl
   by_cases h0:z=0
   ·subst h0
    have HST:Hid (txts (toksPs (tp.take (0+1)))=cn::txts (toksT ck cm)):=Lib.hid (by rw [HST1.out hzl',← HZ0.out rfl];rfl)
    have hcl2:=hcl1
    rw [HST.out]at hcl2
    simp only [List.length_cons]at hcl2
    rw [List.take_zero,show txts (toksPs [])=[] from rfl,List.append_nil]at PW
    simp only [Nat.zero_mul,Nat.add_zero]at y0 y1 y2
    clear HST1 HST2 HZ0 hcl1 hclz
    generalize txts (toksT ck cm)=Y at *
    go_upto_region 5 with fail
    have CX:Hid ((wr.alloc (clO cn ck cm)).heap[wr.heap.size]? =some (clB cn ck cm)):=Lib.hid (alloc_at rfl)
    replace PW:=Lib.hid (PW.out.next (one_new (o:=clO cn ck cm)))
    replace FW:=Lib.hid (FW.out.then (one_new (o:=clO cn ck cm)))
    replace BX:=Lib.hid (box_next BX.out (one_new (o:=clO cn ck cm)))
    obtain ⟨w5,hw5⟩: ∃W,wr.alloc (clO cn ck cm)=W:=⟨_,rfl⟩
    rw [hw5]at BX CX PW FW⊢
    clear hw5 y0 y1 y2
    obtain ⟨⟨z0,z1⟩,z2⟩:=cells3p CX.out
    go_wp2_with fail
    refine (put_any g _ _ _ [cn] _ _ (PW.out.next one_new) (Rd.made _ _ rfl (by first | rfl | simp)) (by have:=HL.out;simp;omega)).mono ?_;rintro e w6 ⟨rfl,p6,f6⟩
    replace BX:=Lib.hid (f6.keep hltB (box_next BX.out one_new) (by decide))
    replace FW:=Lib.hid ((FW.out.then one_new).trans f6)
    replace PW:=Lib.hid p6
    have CX6:=Lib.hid (f6.keep hltC (box_next CX.out one_new) (by decide))
    clear p6 f6 z0 z1 z2
    obtain ⟨⟨z0,z1⟩,z2⟩:=cells3p CX6.out
    go_wp2_with fail
    refine (HTY.out _ _ (HW.out.trans (FW.out.below (Nat.le_of_lt hlt))) PW.out (by have:=HL.out;simp;omega)).mono ?_;rintro e w7 ⟨rfl,p7,f7⟩
    replace BX:=Lib.hid (f7.keep hltB BX.out (by decide))
    replace FW:=Lib.hid (FW.out.trans f7)
    replace PW:=Lib.hid p7
    clear p7 f7 z0 z1 z2 CX CX6
    go_wp2_with fail
    go_roundw
    case rel=> exact ⟨0+1,by omega,by go_num,Lib.hid (by rw [HST.out];simpa only [List.append_assoc,List.cons_append,List.nil_append]using PW.out),FW,BX⟩
    case measure=> simp [intOf];omega
   ·have h0':0 < z:=by omega
    have HST:Hid (txts (toksPs (tp.take (z+1)))=txts (toksPs (tp.take z)) ++([44]::cn::txts (toksT ck cm))):=Lib.hid (by rw [HST2.out h0',txts_app];rfl)
    have hcl2:=hcl1
    rw [HST.out]at hcl2
    simp only [List.length_append,List.length_cons]at hcl2
    clear HST1 HST2 HZ0 hcl1
    generalize txts (toksT ck cm)=Y at *
    have hz0i:(0:Int) < (z:Int):=by omega
    go_upto_region 5 with fail
    have CX:Hid ((wr.alloc (clO cn ck cm)).heap[wr.heap.size]? =some (clB cn ck cm)):=Lib.hid (alloc_at rfl)
    replace PW:=Lib.hid (PW.out.next (one_new (o:=clO cn ck cm)))
    replace FW:=Lib.hid (FW.out.then (one_new (o:=clO cn ck cm)))
    replace BX:=Lib.hid (box_next BX.out (one_new (o:=clO cn ck cm)))
    obtain ⟨w5,hw5⟩: ∃W,wr.alloc (clO cn ck cm)=W:=⟨_,rfl⟩
    rw [hw5]at BX CX PW FW⊢
    clear hw5 y0 y1 y2
    go_wp2_with fail
    refine (put_any g _ _ _ [[44]] _ _ (PW.out.next one_new) (Rd.made _ _ rfl (by first | rfl | simp)) (by have:=HL.out;simp;omega)).mono ?_;rintro e w8 ⟨rfl,p8,f8⟩
    replace BX:=Lib.hid (f8.keep hltB (box_next BX.out one_new) (by decide))
    replace FW:=Lib.hid ((FW.out.then one_new).trans f8)
    replace PW:=Lib.hid p8
    replace CX:=Lib.hid (f8.keep hltC (box_next CX.out one_new) (by decide))
    clear p8 f8
    obtain ⟨⟨z0,z1⟩,z2⟩:=cells3p CX.out
    go_wp2_with fail
    refine (put_any g _ _ _ [cn] _ _ (PW.out.next one_new) (Rd.made _ _ rfl (by first | rfl | simp)) (by have:=HL.out;simp;omega)).mono ?_;rintro e w6 ⟨rfl,p6,f6⟩
    replace BX:=Lib.hid (f6.keep hltB (box_next BX.out one_new) (by decide))
    replace FW:=Lib.hid ((FW.out.then one_new).trans f6)
    replace PW:=Lib.hid p6
    have CX6:=Lib.hid (f6.keep hltC (box_next CX.out one_new) (by decide))
    clear p6 f6 z0 z1 z2
    obtain ⟨⟨z0,z1⟩,z2⟩:=cells3p CX6.out
    go_wp2_with fail
    refine (HTY.out _ _ (HW.out.trans (FW.out.below (Nat.le_of_lt hlt))) PW.out (by have:=HL.out;simp;omega)).mono ?_;rintro e w7 ⟨rfl,p7,f7⟩
    replace BX:=Lib.hid (f7.keep hltB BX.out (by decide))
    replace FW:=Lib.hid (FW.out.trans f7)
    replace PW:=Lib.hid p7
    clear p7 f7 z0 z1 z2 CX CX6
    go_wp2_with fail
    go_roundw
    case rel=> exact ⟨z+1,by omega,by go_num,Lib.hid (by rw [HST.out];simpa only [List.append_assoc,List.cons_append,List.nil_append]using PW.out),FW,BX⟩
    case measure=> simp [intOf];omega
  ·obtain rfl:z=np:=by omega
   rw [List.take_of_length_le (by rw [HNC.out];exact Nat.le_refl _)]at PW
   clear hbl hclz
   have hzi: ¬(z:Int) < (z:Int):=by omega
   go_wp2_with fail
   go_wp2_with fail
   refine (put_any g _ _ _ [[41]] _ _ (PW.out.next one_new) (Rd.made _ _ rfl (by first | rfl | simp)) (by have:=HL.out;simp;omega)).mono ?_;rintro e w6 ⟨rfl,p6,f6⟩
   replace BX:=Lib.hid (f6.keep hltB (box_next BX.out one_new) (by decide))
   replace FW:=Lib.hid ((FW.out.then one_new).trans f6)
   replace PW:=Lib.hid p6
   clear p6 f6
   obtain ⟨⟨⟨x0,x1⟩,x2,x3⟩,x4,x5⟩:=box6 BX.out
   go_wp2_with fail
   refine (RB.out _ _ (HW.out.trans (FW.out.below (Nat.le_of_lt hlt))) PW.out (by have:=HL.out;simp;omega)).mono ?_;rintro e w7 ⟨rfl,p7,f7⟩
   replace BX:=Lib.hid (f7.keep hltB BX.out (by decide))
   replace FW:=Lib.hid (FW.out.trans f7)
   replace PW:=Lib.hid p7
   clear p7 f7 x0 x1 x2 x3 x4 x5
   go_wp2_with fail
   first | go_end0 | refine bodyPost_ret (results_none rfl _ _ _) rfl ?_
   exact ⟨rfl,by simpa only [List.append_assoc,List.cons_append,List.nil_append]using PW.out,FW.out⟩
end Go.Proofs.YtnbmpfdffoidaaaGreatDoor.Y
namespace Go.Proofs.YtnbmpfdffoidaaaGreatDoor.Y
open Go.RowKit O V S X
def colK (c:Cl):List Tok:=toksC c ++ [tg [59]]
theorem txts_tb (n:List UInt8)(r:Int)(l:List Cl):txts (toksTb ⟨n,r,l⟩)=[w_table,n,w_rows] ++([decL r] ++([[123]] ++(txts (l.flatMap colK) ++ [[125]]))):=by
 unfold toksTb colK
 simp [txts,tw,tg,tn]
theorem txts_colK (n:List UInt8)(k m:Int):txts (colK ⟨n,k,m⟩)=[n] ++(txts (toksT k m) ++ [[59]]):=by
 unfold colK
 rw [txts_app,txts_C];rfl
abbrev tbOp (n:List UInt8)(r:Int)(a:Value):Obj:= .cells #[sv n,nv r,a] 66
abbrev tbBp (n:List UInt8)(r:Int)(a:Value):Obj:= .cells #[sv n,nv r,a] 66 (0,0)
theorem printW_any (k:Wk)(hk:okWw k)(hlim:(toksW k).length≤1000000)(hlen:(textOf (toksW k)).length≤140737488355328)(v:Value)(S:Nat→Prop)(w:World)(h:WkR w S k v)(hS: ∀b,S b→b < w.heap.size):
  Calls Tryz.prog 8 #[v] w fun e w'=> e= .returned (sv (textOf (toksW k)))∧Below w.heap.size w w':=by
 obtain ⟨A,c,es,B,d,fs,rfl,ha,hb,hc⟩:=h
 have hT1:RT w S A c k.tables:=⟨_,ha⟩
 have hP1:RP w S B d k.procs:=⟨_,hb,hc⟩
 have k1:=hT1.cap
 have k3:=hP1.cap
 have hall:txts (toksW k)=txts (k.tables.flatMap toksTb) ++txts (k.procs.flatMap toksP):=by
  show txts (k.tables.flatMap toksTb ++k.procs.flatMap toksP)=_
  rw [txts_app]
 have hl0:(txts (k.tables.flatMap toksTb)).length+(txts (k.procs.flatMap toksP)).length≤1000000:=by
  rw [← List.length_append,← hall,txts_len];exact hlim
 have HALL:=Lib.hid hall
 have HLEN:=Lib.hid hlen
 have HK:=Lib.hid hk
 obtain ⟨n,hn⟩: ∃n,k.tables.length=n:=⟨_,rfl⟩
 obtain ⟨m,hm⟩: ∃m,k.procs.length=m:=⟨_,rfl⟩
 have HN:=Lib.hid hn
 have HM:=Lib.hid hm
 rw [hn]at k1⊢
 rw [hm]at k3⊢
 have D0:Below w.heap.size w ((w.alloc (.cells #[.slice A n c,.slice B m d] 25)).alloc (.cells #[.slice none 0 0] 64)):=((Below.refl _ _).alloc (Nat.le_refl _) _).alloc (by simp) _
 have hX1:((w.alloc (.cells #[.slice A n c,.slice B m d] 25)).alloc (.cells #[.slice none 0 0] 64)).heap[w.heap.size]? =some (.cells #[.slice A n c,.slice B m d] 25 (0,0)):=alloc_old' (alloc_at rfl)
 have hPr:Pr ((w.alloc (.cells #[.slice A n c,.slice B m d] 25)).alloc (.cells #[.slice none 0 0] 64)) (w.heap.size+1) []:=⟨none,0,0,alloc_at (by simp),World.ownsRow_nil _ _ _ _⟩
 have hz0:((w.alloc (.cells #[.slice A n c,.slice B m d] 25)).alloc (.cells #[.slice none 0 0] 64)).heap.size=w.heap.size+1+1:=by simp
 obtain ⟨R,hR⟩: ∃R,textOf (toksW k)=R:=⟨_,rfl⟩
 have HR:=Lib.hid hR
 rw [hR]
 clear ha hb hc hk hlim hlen hn hm hR hall
 go_enter Tryz.func8,Tryz.ntmps8
 go_upto_region 2 with fail
 obtain ⟨w2,hw2⟩: ∃W,(w.alloc (.cells #[.slice A n c,.slice B m d] 25)).alloc (.cells #[.slice none 0 0] 64)=W:=⟨_,rfl⟩
 rw [hw2]at D0 hX1 hPr hz0⊢
 have T1:Hid (RT w2 S A c k.tables):=Lib.hid (hT1.keep fun b hB=> D0.block b (hS b hB))
 have P1:Hid (RP w2 S B d k.procs):=Lib.hid (hP1.keep fun b hB=> D0.block b (hS b hB))
 have X1:=Lib.hid hX1
 obtain ⟨g,hg⟩: ∃g,w.heap.size+1=g:=⟨_,rfl⟩
 rw [hg]at hPr⊢
 have hwg:w.heap.size < g:=by omega
 have hg2:g≤w2.heap.size:=by omega
 have HS:Hid (∀b,S b→b < g):=Lib.hid fun b hB=> by have:=hS b hB;omega
 have PW:=Lib.hid hPr
 have FW:Hid (PF g w2 w2):=Lib.hid (.refl _ _)
 have D02:=Lib.hid D0
 clear hw2 hT1 hP1 hX1 hPr hS D0
 obtain ⟨u0,u1⟩:=box2 X1.out
 go_wp2_with fail
 clear u0 u1
 go_loopw [15] (fun i wr=> ∃j:Nat,j≤n∧i= .int .i64 j∧Hid (Pr wr g (txts ((k.tables.take j).flatMap toksTb)))∧Hid (PF g w2 wr)) (fun i _=> n - (intOf i).toNat)
 case atStart=> exact ⟨0,by omega,rfl,Lib.hid (by rw [List.take_zero];exact PW.out),FW⟩
 case round=>
  clear PW FW
  obtain ⟨j,hj,rfl,PW,FW⟩:=hrel
  have hzr:=FW.out.size
  have hX:=(((FW.out.below hg2).block _ hwg).trans X1.out)
  by_cases hlt:j < n
  ·have hlt':j < k.tables.length:=by rw [HN.out];exact hlt
   have hji:(j:Int) < (n:Int):=by omega
   obtain ⟨b1,off1,A1,c1,⟨rfl,hb1⟩,rc1,hc1⟩:=T1.out.at_ HS.out hlt'
   have hst:=flat_step toksTb hlt'
   have hle:=flat_len toksTb k.tables (j+1)
   rw [hst,List.length_append]at hle
   have HST:=Lib.hid hst
   have HOT:=Lib.hid (HK.out.t.2 _ (List.getElem_mem hlt'))
   have RC1:=Lib.hid rc1
   obtain ⟨⟨x0,x1⟩,x2⟩:=hc1 wr (fun b hB=> (FW.out.below hg2).block b (HS.out b hB))
   clear rc1 hst hc1
   generalize k.tables[j]=t at *
   obtain ⟨tn,tr,tc⟩:=t
   obtain ⟨F,hF⟩: ∃F,txts ((k.tables.take j).flatMap toksTb)=F:=⟨_,rfl⟩
   rw [hF]at hle HST PW
   rw [txts_tb]at hle HST
   simp only [List.length_append,List.length_cons,List.length_nil]at hle
   have HOK:=Lib.hid (HOT.out.c.2)
   have hRo:=HOT.out.r
   try dsimp only at HOK
   try dsimp only at hRo
   try dsimp only at RC1
   try dsimp only at x0
   try dsimp only at x1
   try dsimp only at x2
   have hnb:-9223372036854775808≤tr∧tr≤9223372036854775807:=by unfold okNum at hRo;omega
   have RN:=Lib.hid (pnum_raw tr g w2 hnb.1 hnb.2)
   have hcl:=flat_len colK tc
   have kc:=RC1.out.cap
   obtain ⟨nc,hnc⟩: ∃z,tc.length=z:=⟨_,rfl⟩
   have HNC:=Lib.hid hnc
   rw [hnc]at x2 kc
   have hbw:b1 < wr.heap.size:=by omega
   clear hF hRo hnb HOT hnc hX
   go_upto_region 5 with fail
   have TX:Hid ((wr.alloc (tbOp tn tr (.slice A1 nc c1))).heap[wr.heap.size]? =some (tbBp tn tr (.slice A1 nc c1))):=Lib.hid (alloc_at rfl)
   replace PW:=Lib.hid (PW.out.next (one_new (o:=tbOp tn tr (.slice A1 nc c1))))
   replace FW:=Lib.hid (FW.out.then (one_new (o:=tbOp tn tr (.slice A1 nc c1))))
   have hltT:g < wr.heap.size:=by omega
   obtain ⟨w4,hw4⟩: ∃W,wr.alloc (tbOp tn tr (.slice A1 nc c1))=W:=⟨_,rfl⟩
   rw [hw4]at TX PW FW⊢
   clear hw4 x0 x1 x2
   obtain ⟨⟨x0,x1⟩,x2⟩:=cells3p TX.out
   go_wp2_with fail
   refine (put_any g _ _ _ [w_table,tn,w_rows] _ _ (PW.out.next one_new) (Rd.made _ _ rfl (by first | rfl | simp)) (by simp;omega)).mono ?_;rintro e w5 ⟨rfl,p5,f5⟩
   replace FW:=Lib.hid ((FW.out.then one_new).trans f5)
   replace PW:=Lib.hid p5
   clear p5
   replace TX:=Lib.hid (f5.keep hltT (box_next TX.out one_new) (by decide))
   clear f5 x0 x1 x2
   obtain ⟨⟨x0,x1⟩,x2⟩:=cells3p TX.out
   go_wp2_with fail
   refine (RN.out _ _ (FW.out.below hg2) PW.out (by simp;omega)).mono ?_;rintro e w6 ⟨rfl,p6,f6⟩
   replace FW:=Lib.hid (FW.out.trans f6)
   replace PW:=Lib.hid p6
   clear p6
   replace TX:=Lib.hid (f6.keep hltT TX.out (by decide))
   clear f6 x0 x1 x2
   go_wp2_with fail
   refine (put_any g _ _ _ [[123]] _ _ (PW.out.next one_new) (Rd.made _ _ rfl (by first | rfl | simp)) (by simp;omega)).mono ?_;rintro e w7 ⟨rfl,p7,f7⟩
   replace FW:=Lib.hid ((FW.out.then one_new).trans f7)
   replace PW:=Lib.hid p7
   clear p7
   replace TX:=Lib.hid (f7.keep hltT (box_next TX.out one_new) (by decide))
   clear f7
   obtain ⟨⟨x0,x1⟩,x2⟩:=cells3p TX.out
   go_wp2_with fail
   clear x0 x1 x2 TX
   obtain ⟨F2,hF2⟩: ∃F2,F ++ [w_table,tn,w_rows] ++ [decL tr] ++ [[123]]=F2:=⟨_,rfl⟩
   have hF2l:F2.length+(txts (tc.flatMap colK)).length+1≤1000000:=by rw [← hF2];simp only [List.length_append,List.length_cons,List.length_nil];omega
   rw [hF2]at PW
   have HF2:=Lib.hid hF2
   clear hF2 hle
   go_loopw [34] (fun i wr=> ∃z:Nat,z≤nc∧i= .int .i64 z∧Hid (Pr wr g (F2 ++txts ((tc.take z).flatMap colK)))∧Hid (PF g w2 wr)) (fun i _=> nc - (intOf i).toNat)
   case atStart=> exact ⟨0,by omega,rfl,Lib.hid (by rw [List.take_zero,show txts (List.flatMap colK [])=[] from rfl,List.append_nil];exact PW.out),FW⟩
   case round=>
    clear PW FW
    obtain ⟨z,hz,rfl,PW,FW⟩:=hrel
    have hzz:=FW.out.size
    have hclz:=hcl z
    by_cases hzl:z < nc
    ·have hzl':z < tc.length:=by rw [HNC.out];exact hzl
     have hzi:(z:Int) < (nc:Int):=by omega
     obtain ⟨b3,off3,⟨rfl,hb3⟩,hc3⟩:=RC1.out.at_ HS.out hzl'
     have hst:=flat_step colK hzl'
     have hcl1:=hcl (z+1)
     rw [hst,List.length_append]at hcl1
     have HSC:=Lib.hid hst
     have HTY1:=Lib.hid (HOK.out _ (List.getElem_mem hzl')).t
     obtain ⟨⟨y0,y1⟩,y2⟩:=hc3 wr (fun b hB=> (FW.out.below hg2).block b (HS.out b hB))
     clear hst hc3
     generalize tc[z]=cl at *
     obtain ⟨cn,ck,cm⟩:=cl
     try dsimp only at y0
     try dsimp only at y1
     try dsimp only at y2
     rw [txts_colK]at HSC hcl1
     simp only [List.length_append,List.length_cons,List.length_nil]at hcl1
     have HTY:=Lib.hid (ptyp_raw ck cm HTY1.out g w2)
     have hb3w:b3 < wr.heap.size:=by omega
     have hltC:g < wr.heap.size:=by omega
     clear HTY1
     generalize txts (toksT ck cm)=Y at *
     go_upto_region 11 with fail
     have CX:Hid ((wr.alloc (clO cn ck cm)).heap[wr.heap.size]? =some (clB cn ck cm)):=Lib.hid (alloc_at rfl)
     replace PW:=Lib.hid (PW.out.next (one_new (o:=clO cn ck cm)))
     replace FW:=Lib.hid (FW.out.then (one_new (o:=clO cn ck cm)))
     obtain ⟨w8,hw8⟩: ∃W,wr.alloc (clO cn ck cm)=W:=⟨_,rfl⟩
     rw [hw8]at CX PW FW⊢
     clear hw8 y0 y1 y2
     obtain ⟨⟨z0,z1⟩,z2⟩:=cells3p CX.out
     go_wp2_with fail
     refine (put_any g _ _ _ [cn] _ _ (PW.out.next one_new) (Rd.made _ _ rfl (by first | rfl | simp)) (by simp;omega)).mono ?_;rintro e w9 ⟨rfl,p9,f9⟩
     replace FW:=Lib.hid ((FW.out.then one_new).trans f9)
     replace PW:=Lib.hid p9
     clear p9
     replace CX:=Lib.hid (f9.keep hltC (box_next CX.out one_new) (by decide))
     clear f9 z0 z1 z2
     obtain ⟨⟨z0,z1⟩,z2⟩:=cells3p CX.out
     go_wp2_with fail
     refine (HTY.out _ _ (FW.out.below hg2) PW.out (by simp;omega)).mono ?_;rintro e w10 ⟨rfl,p10,f10⟩
     replace FW:=Lib.hid (FW.out.trans f10)
     replace PW:=Lib.hid p10
     clear p10
     clear f10 z0 z1 z2 CX
     go_wp2_with fail
     refine (put_any g _ _ _ [[59]] _ _ (PW.out.next one_new) (Rd.made _ _ rfl (by first | rfl | simp)) (by simp;omega)).mono ?_;rintro e w11 ⟨rfl,p11,f11⟩
     replace FW:=Lib.hid ((FW.out.then one_new).trans f11)
     replace PW:=Lib.hid p11
     clear p11
     clear f11
     go_wp2_with fail
     go_roundw
     case rel=> exact ⟨z+1,by omega,by go_num,Lib.hid (by rw [HSC.out];simpa only [List.append_assoc,List.cons_append,List.nil_append]using PW.out),FW⟩
     case measure=> simp [intOf];omega
    ·obtain rfl:z=nc:=by omega
     rw [List.take_of_length_le (by rw [HNC.out];exact Nat.le_refl _)]at PW
     have hzi: ¬(z:Int) < (z:Int):=by omega
     clear hclz
     go_wp2_with fail
     go_wp2_with fail
     refine (put_any g _ _ _ [[125]] _ _ (PW.out.next one_new) (Rd.made _ _ rfl (by first | rfl | simp)) (by simp;omega)).mono ?_;rintro e w9 ⟨rfl,p9,f9⟩
     replace FW:=Lib.hid ((FW.out.then one_new).trans f9)
     replace PW:=Lib.hid p9
     clear p9
     clear f9
     go_wp2_with fail
     go_roundw
     case rel=> exact ⟨j+1,by omega,by go_num,Lib.hid (by rw [HST.out];have:=PW.out;rw [← HF2.out]at this;simpa only [List.append_assoc,List.cons_append,List.nil_append]using this),FW⟩
     case measure=> simp [intOf];omega
  ·obtain rfl:j=n:=by omega
   rw [List.take_of_length_le (by rw [HN.out];exact Nat.le_refl _)]at PW
   obtain ⟨F0,hF0⟩: ∃F0,txts (k.tables.flatMap toksTb)=F0:=⟨_,rfl⟩
   rw [hF0]at hl0 PW
   have HF0:=Lib.hid hF0
   have hji: ¬(j:Int) < (j:Int):=by omega
   obtain ⟨u0,u1⟩:=box2 hX
   clear hF0 hX
   go_wp2_with fail
   clear u0 u1
   go_loopw [58] (fun i wr=> ∃j:Nat,j≤m∧i= .int .i64 j∧Hid (Pr wr g (F0 ++txts ((k.procs.take j).flatMap toksP)))∧Hid (PF g w2 wr)) (fun i _=> m - (intOf i).toNat)
   case atStart=> exact ⟨0,by omega,rfl,Lib.hid (by rw [List.take_zero,show txts (List.flatMap toksP [])=[] from rfl,List.append_nil];exact PW.out),FW⟩
   case round=>
    clear PW FW
    obtain ⟨j,hj,rfl,PW,FW⟩:=hrel
    have hzr:=FW.out.size
    by_cases hlt:j < m
    ·have hlt':j < k.procs.length:=by rw [HM.out];exact hlt
     have hji:(j:Int) < (m:Int):=by omega
     obtain ⟨b1,off1,A1,c1,B1,d1,p1,q1,r1,⟨rfl,hb1⟩,⟨rc1,rs1⟩,hc1⟩:=P1.out.at_ HS.out hlt'
     have hst:=flat_step toksP hlt'
     have hle:=flat_len toksP k.procs (j+1)
     rw [hst,List.length_append]at hle
     have HST:=Lib.hid hst
     have HOT:=Lib.hid (HK.out.p.2 _ (List.getElem_mem hlt'))
     have hcell: ∀i,i < 6→wr.cell? ⟨b1,off1+j * 6+i,none⟩=_:=fun i hi=> ((FW.out.below hg2).cell (p:=⟨b1,off1+j * 6+i,none⟩) hb1).trans (hc1 i hi)
     clear hst hc1
     generalize k.procs[j]=t at *
     obtain ⟨tn,tp,tb⟩:=t
     have HPR:=Lib.hid (pproc_raw tn tp tb (fun c hc=> (HOT.out.c.2 c hc).t) HOT.out.b.1.1 A1 c1 B1 d1 p1 q1 r1 g S w2 rc1 rs1 HS.out hg2)
     generalize txts (toksP ⟨tn,tp,tb⟩)=Y at *
     have y0:wr.cell? ⟨b1,off1+j * 6,none⟩=some (sv tn):=hcell 0 (by omega)
     have y1:wr.cell? ⟨b1,off1+j * 6+1,none⟩=some (.slice A1 tp.length c1):=hcell 1 (by omega)
     have y2:wr.cell? ⟨b1,off1+j * 6+2,none⟩=some (.slice B1 tb.len d1):=hcell 2 (by omega)
     have y3:wr.cell? ⟨b1,off1+j * 6+3,none⟩=some (nv p1):=hcell 3 (by omega)
     have y4:wr.cell? ⟨b1,off1+j * 6+4,none⟩=some (nv q1):=hcell 4 (by omega)
     have y5:wr.cell? ⟨b1,off1+j * 6+5,none⟩=some (nv r1):=hcell 5 (by omega)
     clear hcell HOT rc1 rs1
     generalize tp.length=np at *
     generalize tb.len=mb at *
     have hbw:b1 < wr.heap.size:=by omega
     go_upto_region 20 with fail
     have BX:Hid ((wr.alloc (pcOp tn (.slice A1 np c1) (.slice B1 mb d1) p1 q1 r1)).heap[wr.heap.size]? =some (pcB tn (.slice A1 np c1) (.slice B1 mb d1) p1 q1 r1)):=Lib.hid (alloc_at rfl)
     replace PW:=Lib.hid (PW.out.next (one_new (o:=pcOp tn (.slice A1 np c1) (.slice B1 mb d1) p1 q1 r1)))
     replace FW:=Lib.hid (FW.out.then (one_new (o:=pcOp tn (.slice A1 np c1) (.slice B1 mb d1) p1 q1 r1)))
     obtain ⟨w4,hw4⟩: ∃W,wr.alloc (pcOp tn (.slice A1 np c1) (.slice B1 mb d1) p1 q1 r1)=W:=⟨_,rfl⟩
     rw [hw4]at BX PW FW⊢
     clear hw4 y0 y1 y2 y3 y4 y5
     obtain ⟨⟨⟨x0,x1⟩,x2,x3⟩,x4,x5⟩:=box6 BX.out
     go_wp2_with fail
     refine (HPR.out _ _ (FW.out.below hg2) PW.out (by simp;omega)).mono ?_;rintro e w5 ⟨rfl,p5,f5⟩
     replace FW:=Lib.hid (FW.out.trans f5)
     replace PW:=Lib.hid p5
     clear p5
     clear f5 x0 x1 x2 x3 x4 x5 BX
     go_wp2_with fail
     go_roundw
     case rel=> exact ⟨j+1,by omega,by go_num,Lib.hid (by rw [HST.out,← List.append_assoc];exact PW.out),FW⟩
     case measure=> simp [intOf];omega
    ·obtain rfl:j=m:=by omega
     rw [List.take_of_length_le (by rw [HM.out];exact Nat.le_refl _)]at PW
     have hji: ¬(j:Int) < (j:Int):=by omega
     have hp:=PW.out
     rw [← HF0.out,← HALL.out]at hp
     obtain ⟨A2,n2,c2,h2,o2⟩:=hp
     have y0:wr.cell? ⟨g,0,none⟩=some (.slice A2 n2 c2):=by rw [Lib.cell_of_heap h2];rfl
     have hn2:n2≤1000000:=by have:=o2.1;rw [List.length_map,HALL.out,List.length_append,HF0.out]at this;omega
     have hj:=joinB_eq (txts (toksW k))
     have O2:=Lib.hid o2
     clear o2 h2 PW
     go_wp2_with fail
     refine (join_rd (c:=c2) (txts (toksW k)) [32] (Rd.of_own O2.out) (own_cap O2.out) (by omega) (by rw [hj];exact HLEN.out)).mono ?_;rintro e w3 ⟨rfl,b3⟩
     rw [hj,show joinB (txts (toksW k))=R from HR.out]
     go_wp2_with fail
     go_ret
     refine ⟨rfl,D02.out.trans ?_⟩
     have:=FW.out.below hg2
     exact (this.mono (by omega)).trans (b3.mono (by omega))
end Go.Proofs.YtnbmpfdffoidaaaGreatDoor.Y
