/- Texts of the proof, joined: LvOpd, LvEx, LvSt. -/
import Derived.Test.YtnbmpfdffoidaaaGreatDoorPr12
import Derived.Test.YtnbmpfdffoidaaaGreatDoorPr27
set_option linter.unusedVariables false
set_option linter.unusedSimpArgs false
set_option maxHeartbeats 8000000
set_option maxRecDepth 100000
namespace Go.Proofs.YtnbmpfdffoidaaaGreatDoor.Y
open Go.RowKit O V S X
theorem zopdN (g d:Nat)(tt:List UInt8)(v:Val)(l:List Tok)(w:World)(h:Pz w g d ((2,tt,v)::l)):Calls Tryz.prog 180 #[.pointer (some ⟨g,0,none⟩)] w (Zut [g] g d w l (ExG w.heap.size (.val v))):=by
 have hmf: ∀(fn:Fn) (first cap:Array Value) (w:World),(Instr.makeFunc fn first cap).run Tryz.prog w= .ok (.func fn first cap) w:=fun _ _ _ _=> rfl
 have HS:=Lib.hid h
 have hlt:=h.lt
 clear h
 have HA:Hid (Below w.heap.size w ((w.alloc (.cells #[.pointer (some ⟨g,0,none⟩)] 51)).alloc (.cells #[nv 0,nv 0,nv 0,sv [],sv [],sv [],nv 0,.slice none 0 0,nv 0,nv 0,nv 0] 59))):=Lib.hid (by repeat (first | exact Below.refl _ _ | refine Below.alloc ?_ (by simp <;> omega) _))
 have HB0:Hid (((w.alloc (.cells #[.pointer (some ⟨g,0,none⟩)] 51)).alloc (.cells #[nv 0,nv 0,nv 0,sv [],sv [],sv [],nv 0,.slice none 0 0,nv 0,nv 0,nv 0] 59)).heap[w.heap.size]? =some (.cells #[.pointer (some ⟨g,0,none⟩)] 51 (0,0))):=Lib.hid (alloc_old' (alloc_at rfl))
 have HB1:Hid (((w.alloc (.cells #[.pointer (some ⟨g,0,none⟩)] 51)).alloc (.cells #[nv 0,nv 0,nv 0,sv [],sv [],sv [],nv 0,.slice none 0 0,nv 0,nv 0,nv 0] 59)).heap[w.heap.size+1]? =some (.cells #[nv 0,nv 0,nv 0,sv [],sv [],sv [],nv 0,.slice none 0 0,nv 0,nv 0,nv 0] 59 (0,0))):=Lib.hid (alloc_at (by simp))
 have hz2:((w.alloc (.cells #[.pointer (some ⟨g,0,none⟩)] 51)).alloc (.cells #[nv 0,nv 0,nv 0,sv [],sv [],sv [],nv 0,.slice none 0 0,nv 0,nv 0,nv 0] 59)).heap.size=w.heap.size+2:=by simp
 go_enter Tryz.func180,Tryz.ntmps180
 go_wp2_with fail
 have HP2:=Lib.hid (HS.out.next HA.out)
 obtain ⟨w2,hw2⟩: ∃w2,((w.alloc (.cells #[.pointer (some ⟨g,0,none⟩)] 51)).alloc (.cells #[nv 0,nv 0,nv 0,sv [],sv [],sv [],nv 0,.slice none 0 0,nv 0,nv 0,nv 0] 59))=w2:=⟨_,rfl⟩
 rw [hw2]at HA HB0 HB1 hz2 HP2⊢
 clear hw2
 refine (zhere g d (2,tt,v) l _ HP2.out).mono ?_;rintro e w3 ⟨⟨p,q,z,rfl⟩,b3⟩
 have hb1:=box_next HB1.out b3
 obtain ⟨⟨⟨⟨y0,y1⟩,y2,y3⟩,⟨y4,y5⟩,y6,y7⟩,⟨y8,y9⟩,y10⟩:=cells11 hb1
 obtain ⟨⟨⟨⟨fr0,fr1⟩,fr2,fr3⟩,⟨fr4,fr5⟩,fr6,fr7⟩,⟨fr8,fr9⟩,fr10⟩:=frozen11 hb1
 have q0:w3.cell? ⟨w.heap.size,0,none⟩=some (.pointer (some ⟨g,0,none⟩)):=by rw [Lib.cell_of_heap (box_next HB0.out b3)];rfl
 have hs3:=b3.size
 go_wp2_with fail
 have HB4:Hid ((((w3.setCell ⟨w.heap.size+1,8,none⟩ (.int .i64 p)).setCell ⟨w.heap.size+1,9,none⟩ (.int .i64 q)).setCell ⟨w.heap.size+1,10,none⟩ (.int .i64 z)).heap[w.heap.size+1]? =some (.cells #[nv 0,nv 0,nv 0,sv [],sv [],sv [],nv 0,.slice none 0 0,nv p,nv q,nv z] 59 (0,0))):=Lib.hid (heap_set' (heap_set' (heap_set' hb1 _ 8 rfl) _ 9 rfl) _ 10 rfl)
 have HM4:Hid (Mod [g] w (((w3.setCell ⟨w.heap.size+1,8,none⟩ (.int .i64 p)).setCell ⟨w.heap.size+1,9,none⟩ (.int .i64 q)).setCell ⟨w.heap.size+1,10,none⟩ (.int .i64 z))):=Lib.hid (((((Mod.of_below HA.out).then (.of_below b3)).set (.inr (by omega)) _).set (.inr (by omega)) _).set (.inr (by omega)) _)
 have HP4:=Lib.hid ((((HP2.out.next b3).set (b:=w.heap.size+1) (i:=8) (by omega) (.int .i64 p)).set (b:=w.heap.size+1) (i:=9) (by omega) (.int .i64 q)).set (b:=w.heap.size+1) (i:=10) (by omega) (.int .i64 z))
 have HB04:Hid ((((w3.setCell ⟨w.heap.size+1,8,none⟩ (.int .i64 p)).setCell ⟨w.heap.size+1,9,none⟩ (.int .i64 q)).setCell ⟨w.heap.size+1,10,none⟩ (.int .i64 z)).heap[w.heap.size]? =some (.cells #[.pointer (some ⟨g,0,none⟩)] 51 (0,0))):=Lib.hid (by
  rw [Below.heap_setCell _ _ _ _ (by simp only;omega),Below.heap_setCell _ _ _ _ (by simp only;omega),Below.heap_setCell _ _ _ _ (by simp only;omega)]
  exact box_next HB0.out b3)
 have hz4:(((w3.setCell ⟨w.heap.size+1,8,none⟩ (.int .i64 p)).setCell ⟨w.heap.size+1,9,none⟩ (.int .i64 q)).setCell ⟨w.heap.size+1,10,none⟩ (.int .i64 z)).heap.size=w3.heap.size:=by simp
 obtain ⟨w4,hw4⟩: ∃w4,(((w3.setCell ⟨w.heap.size+1,8,none⟩ (.int .i64 p)).setCell ⟨w.heap.size+1,9,none⟩ (.int .i64 q)).setCell ⟨w.heap.size+1,10,none⟩ (.int .i64 z))=w4:=⟨_,rfl⟩
 rw [hw4]at HB4 HM4 HP4 HB04 hz4⊢
 clear hw4 b3 hb1 HB0 HB1 HA HP2 q0
 clear y0 y1 y2 y3 y4 y5 y6 y7 y8 y9 y10 fr0 fr1 fr2 fr3 fr4 fr5 fr6 fr7 fr8 fr9 fr10
 refine (zlitN g d tt v l _ HP4.out).mono ?_;rintro e w5 ⟨m5,p5,v5,rfl,hv5⟩
 have HB5:=Lib.hid (m5.box HB4.out (by simp;omega))
 have HB05:=Lib.hid (m5.box HB04.out (by simp;omega))
 have HM5:=Lib.hid (HM4.out.then m5)
 have hs5:=m5.size
 have P5:=Lib.hid p5
 clear m5 p5 HB4 HB04 HM4 HP4
 subst hv5
 obtain ⟨⟨⟨⟨y0,y1⟩,y2,y3⟩,⟨y4,y5⟩,y6,y7⟩,⟨y8,y9⟩,y10⟩:=cells11 HB5.out
 obtain ⟨⟨⟨⟨fr0,fr1⟩,fr2,fr3⟩,⟨fr4,fr5⟩,fr6,fr7⟩,⟨fr8,fr9⟩,fr10⟩:=frozen11 HB5.out
 unfold vv
 go_wp2_with fail
 have HB6:=Lib.hid (alloc_old' (o:= .cells #[nv v.k,nv v.n,sv v.s] 57) HB5.out)
 have HV6:Hid ((w5.alloc (.cells #[nv v.k,nv v.n,sv v.s] 57)).heap[w5.heap.size]? =some (.cells #[nv v.k,nv v.n,sv v.s] 57 (0,0))):=Lib.hid (alloc_at rfl)
 have HM6:=Lib.hid (HM5.out.alloc (.cells #[nv v.k,nv v.n,sv v.s] 57))
 have P6:=Lib.hid (P5.out.alloc (.cells #[nv v.k,nv v.n,sv v.s] 57))
 have hz6:(w5.alloc (.cells #[nv v.k,nv v.n,sv v.s] 57)).heap.size=w5.heap.size+1:=by simp
 clear y0 y1 y2 y3 y4 y5 y6 y7 y8 y9 y10 fr0 fr1 fr2 fr3 fr4 fr5 fr6 fr7 fr8 fr9 fr10
 clear HB5 HM5 P5
 generalize (w5.alloc (.cells #[nv v.k,nv v.n,sv v.s] 57))=w6 at *
 obtain ⟨⟨⟨⟨y0,y1⟩,y2,y3⟩,⟨y4,y5⟩,y6,y7⟩,⟨y8,y9⟩,y10⟩:=cells11 HB6.out
 obtain ⟨⟨⟨⟨fr0,fr1⟩,fr2,fr3⟩,⟨fr4,fr5⟩,fr6,fr7⟩,⟨fr8,fr9⟩,fr10⟩:=frozen11 HB6.out
 obtain ⟨v0,v1,v2⟩:=cells3 HV6.out
 have hbv:w.heap.size+1≠w5.heap.size:=by omega
 go_region
 obtain ⟨w7,hw7⟩: ∃w7,w7=((((w6.setCell ⟨w.heap.size+1,0,none⟩ (nv 1)).setCell ⟨w.heap.size+1,1,none⟩ (nv v.k)).setCell ⟨w.heap.size+1,2,none⟩ (nv v.n)).setCell ⟨w.heap.size+1,3,none⟩ (sv v.s)).drew:=⟨_,rfl⟩
 have HB7:Hid (w7.heap[w.heap.size+1]? =some (.cells #[nv 1,nv v.k,nv v.n,sv v.s,sv [],sv [],nv 0,.slice none 0 0,nv p,nv q,nv z] 59 (0,0))):=Lib.hid (by
  rw [hw7]
  exact heap_set' (heap_set' (heap_set' (heap_set' HB6.out _ 0 rfl) _ 1 rfl) _ 2 rfl) _ 3 rfl)
 have M7:Hid (Mod [g] w w7):=Lib.hid (by
  rw [hw7]
  exact ((((HM6.out.set (.inr (by omega)) _).set (.inr (by omega)) _).set (.inr (by omega)) _).set (.inr (by omega)) _).drew)
 have P7:Hid (Pz w7 g d l):=Lib.hid (by
  rw [hw7]
  exact ((((P6.out.set (by omega) _).set (by omega) _).set (by omega) _).set (by omega) _).next (Below.refl _ _).drew)
 clear y0 y1 y2 y3 y4 y5 y6 y7 y8 y9 y10 fr0 fr1 fr2 fr3 fr4 fr5 fr6 fr7 fr8 fr9 fr10
 unfold nv sv at hw7
 rw [← hw7]
 clear hw7 HB6 HM6 P6 HV6 v0 v1 v2
 obtain ⟨⟨⟨⟨y0,y1⟩,y2,y3⟩,⟨y4,y5⟩,y6,y7⟩,⟨y8,y9⟩,y10⟩:=cells11 HB7.out
 obtain ⟨⟨⟨⟨fr0,fr1⟩,fr2,fr3⟩,⟨fr4,fr5⟩,fr6,fr7⟩,⟨fr8,fr9⟩,fr10⟩:=frozen11 HB7.out
 go_wp2_with fail
 refine bodyPost_ret (v:= .agg #[nv 1,nv v.k,nv v.n,sv v.s,sv [],sv [],nv 0,.slice none 0 0,nv p,nv q,nv z]) (by simp [results,Tryz.results180,go_sem,y0,y1,y2,y3,y4,y5,y6,y7,y8,y9,y10]) rfl ?_
 refine ⟨?_,?_,_,rfl,exC (.val v) (.slice none 0 0) p q z,fun _=> False,rfl,ExR.leaf rfl (Nat.zero_le _) rfl,fun b hb=> hb.elim⟩
 ·repeat (first | (with_reducible exact M7.out) | refine Mod.set ?_ (.inr (Nat.le_succ _)) _)
 ·repeat (first | (with_reducible exact P7.out) | refine Pz.set ?_ (Nat.lt_succ_of_lt hlt) _)
def OpdW (tt:List UInt8):Prop:=isNameL tt=true∧tt.length≤1000000∧tt≠w_true∧tt≠w_false∧tt≠w_has∧tt≠w_sum∧tt≠w_count∧tt≠[40]
theorem isT_no {tt s:List UInt8}(h:tt≠s)(v:Val)(l:List Tok):isT ((1,tt,v)::l) s=false:=by
 unfold isT;simp [h]
theorem zopdW (g d:Nat)(tt:List UInt8)(tv:Val)(l:List Tok)(w:World)(h:Pz w g d ((1,tt,tv)::l))(hk:OpdW tt)(h91:isT l [91]=false):Calls Tryz.prog 180 #[.pointer (some ⟨g,0,none⟩)] w (Zut [g] g d w l (ExG w.heap.size (.var tt))):=by
 have hmf: ∀(fn:Fn) (first cap:Array Value) (w:World),(Instr.makeFunc fn first cap).run Tryz.prog w= .ok (.func fn first cap) w:=fun _ _ _ _=> rfl
 have HS:=Lib.hid h
 have hlt:=h.lt
 obtain ⟨k1,k2,k3,k4,k5,k6,k7,k8⟩:=hk
 have h40:=isT_no k8 tv l
 have hh:=isT_no k5 tv l
 have hs:=isT_no k6 tv l
 have hc:=isT_no k7 tv l
 have K1:=Lib.hid k1
 have K3:=Lib.hid k3
 have K4:=Lib.hid k4
 clear h k1 k3 k4 k5 k6 k7 k8
 have HA:Hid (Below w.heap.size w ((w.alloc (.cells #[.pointer (some ⟨g,0,none⟩)] 51)).alloc (.cells #[nv 0,nv 0,nv 0,sv [],sv [],sv [],nv 0,.slice none 0 0,nv 0,nv 0,nv 0] 59))):=Lib.hid (by repeat (first | exact Below.refl _ _ | refine Below.alloc ?_ (by simp <;> omega) _))
 have HB0:Hid (((w.alloc (.cells #[.pointer (some ⟨g,0,none⟩)] 51)).alloc (.cells #[nv 0,nv 0,nv 0,sv [],sv [],sv [],nv 0,.slice none 0 0,nv 0,nv 0,nv 0] 59)).heap[w.heap.size]? =some (.cells #[.pointer (some ⟨g,0,none⟩)] 51 (0,0))):=Lib.hid (alloc_old' (alloc_at rfl))
 have HB1:Hid (((w.alloc (.cells #[.pointer (some ⟨g,0,none⟩)] 51)).alloc (.cells #[nv 0,nv 0,nv 0,sv [],sv [],sv [],nv 0,.slice none 0 0,nv 0,nv 0,nv 0] 59)).heap[w.heap.size+1]? =some (.cells #[nv 0,nv 0,nv 0,sv [],sv [],sv [],nv 0,.slice none 0 0,nv 0,nv 0,nv 0] 59 (0,0))):=Lib.hid (alloc_at (by simp))
 have hz2:((w.alloc (.cells #[.pointer (some ⟨g,0,none⟩)] 51)).alloc (.cells #[nv 0,nv 0,nv 0,sv [],sv [],sv [],nv 0,.slice none 0 0,nv 0,nv 0,nv 0] 59)).heap.size=w.heap.size+2:=by simp
 go_enter Tryz.func180,Tryz.ntmps180
 go_wp2_with fail
 have HP2:=Lib.hid (HS.out.next HA.out)
 obtain ⟨w2,hw2⟩: ∃w2,((w.alloc (.cells #[.pointer (some ⟨g,0,none⟩)] 51)).alloc (.cells #[nv 0,nv 0,nv 0,sv [],sv [],sv [],nv 0,.slice none 0 0,nv 0,nv 0,nv 0] 59))=w2:=⟨_,rfl⟩
 rw [hw2]at HA HB0 HB1 hz2 HP2⊢
 clear hw2
 refine (zhere g d (1,tt,tv) l _ HP2.out).mono ?_;rintro e w3 ⟨⟨p,q,z,rfl⟩,b3⟩
 have hb1:=box_next HB1.out b3
 obtain ⟨⟨⟨⟨y0,y1⟩,y2,y3⟩,⟨y4,y5⟩,y6,y7⟩,⟨y8,y9⟩,y10⟩:=cells11 hb1
 obtain ⟨⟨⟨⟨fr0,fr1⟩,fr2,fr3⟩,⟨fr4,fr5⟩,fr6,fr7⟩,⟨fr8,fr9⟩,fr10⟩:=frozen11 hb1
 have q0:w3.cell? ⟨w.heap.size,0,none⟩=some (.pointer (some ⟨g,0,none⟩)):=by rw [Lib.cell_of_heap (box_next HB0.out b3)];rfl
 have hs3:=b3.size
 go_wp2_with fail
 have HB4:Hid ((((w3.setCell ⟨w.heap.size+1,8,none⟩ (.int .i64 p)).setCell ⟨w.heap.size+1,9,none⟩ (.int .i64 q)).setCell ⟨w.heap.size+1,10,none⟩ (.int .i64 z)).heap[w.heap.size+1]? =some (.cells #[nv 0,nv 0,nv 0,sv [],sv [],sv [],nv 0,.slice none 0 0,nv p,nv q,nv z] 59 (0,0))):=Lib.hid (heap_set' (heap_set' (heap_set' hb1 _ 8 rfl) _ 9 rfl) _ 10 rfl)
 have HM4:Hid (Mod [g] w (((w3.setCell ⟨w.heap.size+1,8,none⟩ (.int .i64 p)).setCell ⟨w.heap.size+1,9,none⟩ (.int .i64 q)).setCell ⟨w.heap.size+1,10,none⟩ (.int .i64 z))):=Lib.hid (((((Mod.of_below HA.out).then (.of_below b3)).set (.inr (by omega)) _).set (.inr (by omega)) _).set (.inr (by omega)) _)
 have HP4:=Lib.hid ((((HP2.out.next b3).set (b:=w.heap.size+1) (i:=8) (by omega) (.int .i64 p)).set (b:=w.heap.size+1) (i:=9) (by omega) (.int .i64 q)).set (b:=w.heap.size+1) (i:=10) (by omega) (.int .i64 z))
 have HB04:Hid ((((w3.setCell ⟨w.heap.size+1,8,none⟩ (.int .i64 p)).setCell ⟨w.heap.size+1,9,none⟩ (.int .i64 q)).setCell ⟨w.heap.size+1,10,none⟩ (.int .i64 z)).heap[w.heap.size]? =some (.cells #[.pointer (some ⟨g,0,none⟩)] 51 (0,0))):=Lib.hid (by
  rw [Below.heap_setCell _ _ _ _ (by simp only;omega),Below.heap_setCell _ _ _ _ (by simp only;omega),Below.heap_setCell _ _ _ _ (by simp only;omega)]
  exact box_next HB0.out b3)
 have hz4:(((w3.setCell ⟨w.heap.size+1,8,none⟩ (.int .i64 p)).setCell ⟨w.heap.size+1,9,none⟩ (.int .i64 q)).setCell ⟨w.heap.size+1,10,none⟩ (.int .i64 z)).heap.size=w3.heap.size:=by simp
 obtain ⟨w4,hw4⟩: ∃w4,(((w3.setCell ⟨w.heap.size+1,8,none⟩ (.int .i64 p)).setCell ⟨w.heap.size+1,9,none⟩ (.int .i64 q)).setCell ⟨w.heap.size+1,10,none⟩ (.int .i64 z))=w4:=⟨_,rfl⟩
 rw [hw4]at HB4 HM4 HP4 HB04 hz4⊢
 clear hw4 b3 hb1 HB0 HB1 HA HP2 q0
 clear y0 y1 y2 y3 y4 y5 y6 y7 y8 y9 y10 fr0 fr1 fr2 fr3 fr4 fr5 fr6 fr7 fr8 fr9 fr10
 refine (zlitW g d tt tv l _ HP4.out K3.out K4.out).mono ?_;rintro e w5 ⟨m5,p5,v5,rfl,hv5⟩
 have HB5:=Lib.hid (m5.box HB4.out (by simp;omega))
 have HB05:=Lib.hid (m5.box HB04.out (by simp;omega))
 have HM5:=Lib.hid (HM4.out.then m5)
 have hs5:=m5.size
 have P5:=Lib.hid p5
 clear m5 p5 HB4 HB04 HM4 HP4
 obtain ⟨a0,a1,a2,rfl⟩:=hv5
 have q0:w5.cell? ⟨w.heap.size,0,none⟩=some (.pointer (some ⟨g,0,none⟩)):=by rw [Lib.cell_of_heap HB05.out];rfl
 have hs05:w.heap.size < w5.heap.size:=by omega
 go_wp2_with fail
 have HB6:=Lib.hid (alloc_old' (o:= .cells #[nv a0,nv a1,sv a2] 57) HB5.out)
 have HB06:=Lib.hid (alloc_old' (o:= .cells #[nv a0,nv a1,sv a2] 57) HB05.out)
 have HM6:=Lib.hid (HM5.out.alloc (.cells #[nv a0,nv a1,sv a2] 57))
 have P6:=Lib.hid (P5.out.alloc (.cells #[nv a0,nv a1,sv a2] 57))
 have hz6:(w5.alloc (.cells #[nv a0,nv a1,sv a2] 57)).heap.size=w5.heap.size+1:=by simp
 clear HB5 HB05 HM5 P5 q0
 generalize (w5.alloc (.cells #[nv a0,nv a1,sv a2] 57))=w6 at *
 have q6:w6.cell? ⟨w.heap.size,0,none⟩=some (.pointer (some ⟨g,0,none⟩)):=by rw [Lib.cell_of_heap HB06.out];rfl
 refine (zis g d _ [40] _ P6.out).mono ?_;rintro e w7 ⟨rfl,rfl⟩
 rw [h40]
 go_wp2_with fail
 refine (ztake g d ((1,tt,tv)::l) w_has w7 P6.out).mono ?_;rintro e w9 ⟨rfl,mt,pt⟩
 rw [hh]at pt⊢
 simp only [if_false,Bool.false_eq_true]at pt
 replace HB6:=Lib.hid (mt.box HB6.out (by simp;omega))
 replace HB06:=Lib.hid (mt.box HB06.out (by simp;omega))
 replace HM6:=Lib.hid (HM6.out.then mt)
 have P6':=Lib.hid pt
 have hst9:=mt.size
 clear mt pt P6
 have P6:=P6'
 clear P6'
 have qt9:w9.cell? ⟨w.heap.size,0,none⟩=some (.pointer (some ⟨g,0,none⟩)):=by rw [Lib.cell_of_heap HB06.out];rfl
 go_wp2_with fail
 refine (ztake g d ((1,tt,tv)::l) w_sum w9 P6.out).mono ?_;rintro e w10 ⟨rfl,mt,pt⟩
 rw [hs]at pt⊢
 simp only [if_false,Bool.false_eq_true]at pt
 replace HB6:=Lib.hid (mt.box HB6.out (by simp;omega))
 replace HB06:=Lib.hid (mt.box HB06.out (by simp;omega))
 replace HM6:=Lib.hid (HM6.out.then mt)
 have P6':=Lib.hid pt
 have hst10:=mt.size
 clear mt pt P6
 have P6:=P6'
 clear P6'
 have qt10:w10.cell? ⟨w.heap.size,0,none⟩=some (.pointer (some ⟨g,0,none⟩)):=by rw [Lib.cell_of_heap HB06.out];rfl
 go_wp2_with fail
 refine (ztake g d ((1,tt,tv)::l) w_count w10 P6.out).mono ?_;rintro e w11 ⟨rfl,mt,pt⟩
 rw [hc]at pt⊢
 simp only [if_false,Bool.false_eq_true]at pt
 replace HB6:=Lib.hid (mt.box HB6.out (by simp;omega))
 replace HB06:=Lib.hid (mt.box HB06.out (by simp;omega))
 replace HM6:=Lib.hid (HM6.out.then mt)
 have P6':=Lib.hid pt
 have hst11:=mt.size
 clear mt pt P6
 have P6:=P6'
 clear P6'
 have qt11:w11.cell? ⟨w.heap.size,0,none⟩=some (.pointer (some ⟨g,0,none⟩)):=by rw [Lib.cell_of_heap HB06.out];rfl
 go_wp2_with fail
 refine (zname g d tt tv l w11 P6.out k2 K1.out).mono ?_;rintro e w12 ⟨m12,p12,v,rfl,rfl⟩
 have HB12:=Lib.hid (m12.box HB6.out (by simp;omega))
 have HB012:=Lib.hid (m12.box HB06.out (by simp;omega))
 have HM12:=Lib.hid (HM6.out.then m12)
 have hs12:=m12.size
 have P12:=Lib.hid p12
 have q12:w12.cell? ⟨w.heap.size,0,none⟩=some (.pointer (some ⟨g,0,none⟩)):=by rw [Lib.cell_of_heap HB012.out];rfl
 clear m12 p12 HB6 HB06 HM6 P6
 obtain ⟨⟨⟨⟨y0,y1⟩,y2,y3⟩,⟨y4,y5⟩,y6,y7⟩,⟨y8,y9⟩,y10⟩:=cells11 HB12.out
 obtain ⟨⟨⟨⟨fr0,fr1⟩,fr2,fr3⟩,⟨fr4,fr5⟩,fr6,fr7⟩,⟨fr8,fr9⟩,fr10⟩:=frozen11 HB12.out
 go_wp2_with fail
 clear y0 y1 y2 y3 y4 y5 y6 y7 y8 y9 y10 fr0 fr1 fr2 fr3 fr4 fr5 fr6 fr7 fr8 fr9 fr10
 have HB13:Hid (((w12.setCell ⟨w.heap.size+1,0,none⟩ (nv 2)).setCell ⟨w.heap.size+1,4,none⟩ (sv tt)).heap[w.heap.size+1]? =some (.cells #[nv 2,nv 0,nv 0,sv [],sv tt,sv [],nv 0,.slice none 0 0,nv p,nv q,nv z] 59 (0,0))):=Lib.hid (heap_set' (heap_set' HB12.out _ 0 rfl) _ 4 rfl)
 have q13:((w12.setCell ⟨w.heap.size+1,0,none⟩ (nv 2)).setCell ⟨w.heap.size+1,4,none⟩ (sv tt)).cell? ⟨w.heap.size,0,none⟩=some (.pointer (some ⟨g,0,none⟩)):=by
  rw [Lib.cell_of_heap ((Below.heap_setCell _ _ _ _ (by simp only;omega)).trans ((Below.heap_setCell _ _ _ _ (by simp only;omega)).trans HB012.out))];rfl
 have HM13:=Lib.hid ((HM12.out.set (b:=w.heap.size+1) (i:=0) (.inr (by omega)) (nv 2)).set (b:=w.heap.size+1) (i:=4) (.inr (by omega)) (sv tt))
 have P13:=Lib.hid ((P12.out.set (b:=w.heap.size+1) (i:=0) (by omega) (nv 2)).set (b:=w.heap.size+1) (i:=4) (by omega) (sv tt))
 clear HB12 HB012 HM12 P12 q12
 unfold nv sv at *
 obtain ⟨w13,hw13⟩: ∃w13,((w12.setCell ⟨w.heap.size+1,0,none⟩ (.int .i64 2)).setCell ⟨w.heap.size+1,4,none⟩ (.string ⟨tt.toArray⟩))=w13:=⟨_,rfl⟩
 rw [hw13]at HB13 HM13 P13 q13⊢
 clear hw13
 refine (zis g d l [91] _ P13.out).mono ?_;rintro e w14 ⟨rfl,rfl⟩
 rw [h91]
 obtain ⟨⟨⟨⟨y0,y1⟩,y2,y3⟩,⟨y4,y5⟩,y6,y7⟩,⟨y8,y9⟩,y10⟩:=cells11 HB13.out
 obtain ⟨⟨⟨⟨fr0,fr1⟩,fr2,fr3⟩,⟨fr4,fr5⟩,fr6,fr7⟩,⟨fr8,fr9⟩,fr10⟩:=frozen11 HB13.out
 go_wp2_with fail
 refine bodyPost_ret (v:= .agg #[nv 2,nv 0,nv 0,sv [],sv tt,sv [],nv 0,.slice none 0 0,nv p,nv q,nv z]) (by simp [results,Tryz.results180,go_sem,y0,y1,y2,y3,y4,y5,y6,y7,y8,y9,y10]) rfl ?_
 refine ⟨?_,?_,_,rfl,exC (.var tt) (.slice none 0 0) p q z,fun _=> False,rfl,ExR.leaf rfl (Nat.zero_le _) rfl,fun b hb=> hb.elim⟩
 ·repeat (first | (with_reducible exact HM13.out) | refine Mod.set ?_ (.inr (Nat.le_succ _)) _)
 ·repeat (first | (with_reducible exact P13.out) | refine Pz.set ?_ (Nat.lt_succ_of_lt hlt) _)
end Go.Proofs.YtnbmpfdffoidaaaGreatDoor.Y
namespace Go.Proofs.YtnbmpfdffoidaaaGreatDoor.Y
open Go.RowKit O V S X
theorem exr_set {w:World}{S:Nat→Prop}{x:Ex}{vs:List Value}{b i:Nat}(h:ExR w S x vs)(hb: ¬S b)(v:Value):ExR (w.setCell ⟨b,i,none⟩ v) S x vs:=
 ExR.keep (fun k hk=> Below.heap_setCell _ _ _ _ (fun e=> hb (by rw [← show k=b from e];exact hk))) _ _ h
inductive QO:List Tok→Ex→List Tok→Prop
 | num {tt:List UInt8} {v:Val} {l:List Tok} (h:tt≠[33]∧tt≠[45]):QO ((2,tt,v)::l) (.val v) l
 | name {tt:List UInt8} {v:Val} {l:List Tok} (h:tt≠[33]∧tt≠[45]) (hk:OpdW tt) (h91:isT l [91]=false):QO ((1,tt,v)::l) (.var tt) l
inductive QL:Nat→Nat→Ex→List Tok→Ex→List Tok→Prop
 | stop {f lvl:Nat} {y:Ex} {tt:List UInt8} {v:Val} {l:List Tok} (h:(binS tt).2≤lvl):QL f lvl y ((4,tt,v)::l) y ((4,tt,v)::l)
 | step {f lvl:Nat} {y y1 z x:Ex} {tt:List UInt8} {v:Val} {l r1 l2 r:List Tok} (h:lvl < (binS tt).2) (ho:QO l y1 r1) (hz:QL f (binS tt).2 y1 r1 z l2) (hl:l2.length≤l.length) (hx:QL f lvl (.bin (binS tt).1 y z) l2 x r):QL (f+1) lvl y ((4,tt,v)::l) x r
theorem QL.inv {f lvl:Nat}{y x:Ex}{tt:List UInt8}{v:Val}{l r:List Tok}(h:QL f lvl y ((4,tt,v)::l) x r):((binS tt).2≤lvl∧x=y∧r=(4,tt,v)::l)∨(lvl < (binS tt).2∧∃f2 y1 z r3 r2,f2 < f∧QO l y1 r3∧QL f2 (binS tt).2 y1 r3 z r2∧r2.length≤l.length∧QL f2 lvl (.bin (binS tt).1 y z) r2 x r):=by
 cases h with
 | stop h=> exact .inl ⟨h,rfl,rfl⟩
 | step h ho hz hl hx=> exact .inr ⟨h,_,_,_,_,_,Nat.lt_succ_self _,ho,hz,hl,hx⟩
def EZ (f:Nat):Prop:= ∀(g d lvl:Nat) (l r1 r:List Tok) (y x:Ex) (w:World),Pz w g d l→QO l y r1→QL f lvl y r1 x r→Calls Tryz.prog 167 #[.pointer (some ⟨g,0,none⟩),nv lvl] w (Zut [g] g d w r (ExG w.heap.size x))
def lenZ (w:World)(g:Nat):Nat:=match w.cell? ⟨g,0,none⟩with
 | some (.slice _ n _)=> n
 | _=> 0
theorem Pz.len {w:World}{g d:Nat}{l:List Tok}(h:Pz w g d l):lenZ w g=l.length:=by
 obtain ⟨A,n,c,a,b,e,h⟩:=h
 unfold lenZ
 rw [h.cells.1.1,h.row.len]
theorem zopd (g d:Nat)(l r:List Tok)(x:Ex)(w:World)(h:Pz w g d l)(hq:QO l x r):isT l [33]=false∧isT l [45]=false∧Calls Tryz.prog 180 #[.pointer (some ⟨g,0,none⟩)] w (Zut [g] g d w r (ExG w.heap.size x)):=by
 cases hq with
 | num hs=> exact ⟨by unfold isT;simp [hs.1],by unfold isT;simp [hs.2],zopdN g d _ _ _ w h⟩
 | name hs hk h91=> exact ⟨by unfold isT;simp [hs.1],by unfold isT;simp [hs.2],zopdW g d _ _ _ w h hk h91⟩
theorem zun (g d:Nat)(l r:List Tok)(x:Ex)(w:World)(h:Pz w g d l)(hq:QO l x r):Calls Tryz.prog 176 #[.pointer (some ⟨g,0,none⟩)] w (Zut [g] g d w r (ExG w.heap.size x)):=by
 have hmf: ∀(fn:Fn) (first cap:Array Value) (w:World),(Instr.makeFunc fn first cap).run Tryz.prog w= .ok (.func fn first cap) w:=fun _ _ _ _=> rfl
 have HS:=Lib.hid h
 have HQ:=Lib.hid hq
 have hlt:=h.lt
 obtain ⟨h33,h45,_⟩:=zopd g d l r x w h hq
 clear h hq
 have HA:Hid (Below w.heap.size w ((w.alloc (.cells #[.pointer (some ⟨g,0,none⟩)] 51)).alloc (.cells #[nv 0,nv 0,nv 0,sv [],sv [],sv [],nv 0,.slice none 0 0,nv 0,nv 0,nv 0] 59))):=Lib.hid (by repeat (first | exact Below.refl _ _ | refine Below.alloc ?_ (by simp <;> omega) _))
 have HB0:Hid (((w.alloc (.cells #[.pointer (some ⟨g,0,none⟩)] 51)).alloc (.cells #[nv 0,nv 0,nv 0,sv [],sv [],sv [],nv 0,.slice none 0 0,nv 0,nv 0,nv 0] 59)).heap[w.heap.size]? =some (.cells #[.pointer (some ⟨g,0,none⟩)] 51 (0,0))):=Lib.hid (alloc_old' (alloc_at rfl))
 have HB1:Hid (((w.alloc (.cells #[.pointer (some ⟨g,0,none⟩)] 51)).alloc (.cells #[nv 0,nv 0,nv 0,sv [],sv [],sv [],nv 0,.slice none 0 0,nv 0,nv 0,nv 0] 59)).heap[w.heap.size+1]? =some (.cells #[nv 0,nv 0,nv 0,sv [],sv [],sv [],nv 0,.slice none 0 0,nv 0,nv 0,nv 0] 59 (0,0))):=Lib.hid (alloc_at (by simp))
 have hz2:((w.alloc (.cells #[.pointer (some ⟨g,0,none⟩)] 51)).alloc (.cells #[nv 0,nv 0,nv 0,sv [],sv [],sv [],nv 0,.slice none 0 0,nv 0,nv 0,nv 0] 59)).heap.size=w.heap.size+2:=by simp
 go_enter Tryz.func176,Tryz.ntmps176
 go_wp2_with fail
 have HP2:=Lib.hid (HS.out.next HA.out)
 obtain ⟨w2,hw2⟩: ∃w2,((w.alloc (.cells #[.pointer (some ⟨g,0,none⟩)] 51)).alloc (.cells #[nv 0,nv 0,nv 0,sv [],sv [],sv [],nv 0,.slice none 0 0,nv 0,nv 0,nv 0] 59))=w2:=⟨_,rfl⟩
 rw [hw2]at HA HB0 HB1 hz2 HP2⊢
 clear hw2
 have q0:w2.cell? ⟨w.heap.size,0,none⟩=some (.pointer (some ⟨g,0,none⟩)):=by rw [Lib.cell_of_heap HB0.out];rfl
 refine (zis g d l [33] _ HP2.out).mono ?_;rintro e w3 ⟨rfl,rfl⟩
 rw [h33]
 go_wp2_with fail
 refine (zis g d l [45] _ HP2.out).mono ?_;rintro e w4 ⟨rfl,rfl⟩
 rw [h45]
 go_wp2_with fail
 refine (zopd g d l r x _ HP2.out HQ.out).2.2.mono ?_;rintro e w5 ⟨m5,p5,v,rfl,vs,S,rfl,hx,hS⟩
 have hb1:=m5.box HB1.out (by simp;omega)
 obtain ⟨⟨⟨⟨y0,y1⟩,y2,y3⟩,⟨y4,y5⟩,y6,y7⟩,⟨y8,y9⟩,y10⟩:=cells11 hb1
 obtain ⟨⟨⟨⟨fr0,fr1⟩,fr2,fr3⟩,⟨fr4,fr5⟩,fr6,fr7⟩,⟨fr8,fr9⟩,fr10⟩:=frozen11 hb1
 have M5:Hid (Mod [g] w w5):=Lib.hid ((Mod.of_below HA.out).then m5)
 obtain ⟨A,n,c,p,q,z,rfl⟩:=hx.form
 have P5:=Lib.hid p5
 have X:=Lib.hid hx
 have S5:=Lib.hid hS
 have hv:Value.agg (exC x (.slice A n c) p q z).toArray= .agg #[nv (hdK x),nv (hdV x).k,nv (hdV x).n,sv (hdV x).s,sv (hdN x),sv (hdC x),nv (hdO x:Nat),.slice A n c,nv p,nv q,nv z]:=rfl
 rw [hv]
 clear m5 hv p5 hx hS hb1
 go_wp2_with fail
 refine bodyPost_ret (v:= .agg #[nv (hdK x),nv (hdV x).k,nv (hdV x).n,sv (hdV x).s,sv (hdN x),sv (hdC x),nv (hdO x:Nat),.slice A n c,nv p,nv q,nv z]) (by simp [results,Tryz.results176,go_sem,y0,y1,y2,y3,y4,y5,y6,y7,y8,y9,y10]) rfl ?_
 have hns: ¬S (w.heap.size+1):=fun hh=> by have:=S5.out _ hh;omega
 refine ⟨?_,?_,_,rfl,exC x (.slice A n c) p q z,S,rfl,?_,?_⟩
 ·repeat (first | (with_reducible exact M5.out) | refine Mod.set ?_ (.inr (Nat.le_succ _)) _)
 ·repeat (first | (with_reducible exact P5.out) | refine Pz.set ?_ (Nat.lt_succ_of_lt hlt) _)
 ·repeat (first | (with_reducible exact X.out) | refine exr_set ?_ hns _)
 ·intro b hb
  have:=S5.out b hb
  simp
  omega
theorem expr_stepZ (f:Nat)(hE: ∀f',f' < f→EZ f'):EZ f:=by
 intro g d lvl l r1 r y0 x w h hq hl
 have HE:=Lib.hid hE
 have HS:=Lib.hid h
 have HQ:=Lib.hid hq
 have HR1:=Lib.hid hl
 have hlt:=h.lt
 clear hE h hq hl
 go_enter Tryz.func167,Tryz.ntmps167
 go_wp2_with fail
 refine (zun g d l r1 y0 (w.alloc (.cells #[nv 0,nv 0,nv 0,sv [],sv [],sv [],nv 0,.slice none 0 0,nv 0,nv 0,nv 0] 59)) (HS.out.alloc _) HQ.out).mono ?_;rintro e w1 ⟨m1,p1,v,rfl,vs,S,rfl,hx,hS⟩
 have M1:Hid (Mod [g] w w1):=Lib.hid (((Mod.refl _ _).alloc _).then m1)
 have Z1:Hid (w1.heap[w.heap.size]? =some (.cells #[nv 0,nv 0,nv 0,sv [],sv [],sv [],nv 0,.slice none 0 0,nv 0,nv 0,nv 0] 59 (0,0))):=Lib.hid (m1.box (alloc_at rfl) (by simp;omega))
 clear m1 HQ
 obtain ⟨A,n,c,p,q,z,rfl⟩:=hx.form
 have P1:=Lib.hid p1
 have X1:=Lib.hid hx
 have S1:=Lib.hid hS
 have hv:Value.agg (exC y0 (.slice A n c) p q z).toArray= .agg #[nv (hdK y0),nv (hdV y0).k,nv (hdV y0).n,sv (hdV y0).s,sv (hdN y0),sv (hdC y0),nv (hdO y0:Nat),.slice A n c,nv p,nv q,nv z]:=rfl
 rw [hv]
 clear hv p1 hx hS
 go_wp2_with fail
 have hs1:=M1.out.size
 have hlo:w.heap.size < w1.heap.size:=(Array.getElem?_eq_some_iff.1 Z1.out).1
 have D0:=Lib.hid (P1.out.alloc (.cells #[nv (hdK y0),nv (hdV y0).k,nv (hdV y0).n,sv (hdV y0).s,sv (hdN y0),sv (hdC y0),nv (hdO y0:Nat),.slice A n c,nv p,nv q,nv z] 59))
 go_loopw [6,7,8] (fun _ _ _ wr=> ∃(f':Nat) (x2:Ex) (l':List Tok) (vs:List Value) (S:Nat→Prop),f'≤f∧Hid (QL f' lvl x2 l' x r)∧Hid (wr.heap[w1.heap.size]? =some (.cells vs.toArray 59 (0,0)))∧Hid (ExR wr S x2 vs)∧Hid (∀b,S b→w.heap.size < b∧b < wr.heap.size∧b≠w1.heap.size)∧Hid (Pz wr g d l')∧Hid (Mod [g] w wr)∧Hid (wr.heap[w.heap.size]? =some (.cells #[nv 0,nv 0,nv 0,sv [],sv [],sv [],nv 0,.slice none 0 0,nv 0,nv 0,nv 0] 59 (0,0)))) (fun _ _ _ wr=> lenZ wr g)
 case atStart=>
  refine ⟨f,y0,r1,exC y0 (.slice A n c) p q z,S,Nat.le_refl _,HR1,Lib.hid (alloc_at rfl),Lib.hid (ExR.keep (fun b hb=> ?_) _ _ X1.out),Lib.hid (fun b hb=> ?_),D0,Lib.hid (M1.out.alloc _),Lib.hid (alloc_old' Z1.out)⟩
  ·exact Below.heap_alloc _ _ _ (S1.out b hb).2
  ·have:=S1.out b hb
   simp at this
   refine ⟨by omega,by simp;omega,by omega⟩
 case round=>
  obtain ⟨f',x',l',vs,S',hf',HR,HX,HT,HSS,HP,HM,HZ⟩:=hrel
  clear D0 P1 X1 S1 HR1
  generalize w1.heap.size=bx at *
  go_wp2_with fail
  have hR2:=HR.out
  have hex: ∃tt tv l4,l'=(4,tt,tv)::l4:=by
   cases hR2 with
   | stop _=> exact ⟨_,_,_,rfl⟩
   | step _ _ _ _ _=> exact ⟨_,_,_,rfl⟩
  obtain ⟨tt,tv,l4,rfl⟩:=hex
  refine (zop g d tt tv l4 _ HP.out).mono ?_;rintro e w2 ⟨rfl,rfl⟩
  obtain ⟨o1,ho1⟩: ∃o,(binS tt).1=o:=⟨_,rfl⟩
  obtain ⟨o2,ho2⟩: ∃o,(binS tt).2=o:=⟨_,rfl⟩
  rw [ho1,ho2]
  obtain ⟨A,n,c,p,q,z,rfl⟩:=HT.out.form
  have hb0:Hid (w2.heap[bx]? =some (.cells #[nv (hdK x'),nv (hdV x').k,nv (hdV x').n,sv (hdV x').s,sv (hdN x'),sv (hdC x'),nv (hdO x':Nat),.slice A n c,nv p,nv q,nv z] 59 (0,0))):=HX
  rcases hR2.inv with ⟨hle,hxe,hre⟩ | ⟨hle,f2,y1,y,r3,r2,hff,hqo,hqz,hll,hqx⟩
  ·rw [ho2]at hle
   have HXE:=Lib.hid (And.intro hxe hre)
   have d1:decide ((o2:Int)≤(lvl:Int))=true:=by simp;omega
   have d2:decide (o2≤lvl)=true:=by simp;omega
   obtain ⟨⟨⟨⟨y0,y1⟩,y2,y3⟩,⟨y4,y5⟩,y6,y7⟩,⟨y8,y9⟩,y10⟩:=cells11 hb0.out
   obtain ⟨⟨⟨⟨z0,z1⟩,z2,z3⟩,⟨z4,z5⟩,z6,z7⟩,⟨z8,z9⟩,z10⟩:=cells11 HZ.out
   obtain ⟨⟨⟨⟨fr0,fr1⟩,fr2,fr3⟩,⟨fr4,fr5⟩,fr6,fr7⟩,⟨fr8,fr9⟩,fr10⟩:=frozen11 HZ.out
   clear hR2 hxe hre hle ho1 ho2
   go_wp2_with fail
   refine bodyPost_ret (v:= .agg #[nv (hdK x'),nv (hdV x').k,nv (hdV x').n,sv (hdV x').s,sv (hdN x'),sv (hdC x'),nv (hdO x':Nat),.slice A n c,nv p,nv q,nv z]) (by simp [results,Tryz.results167,go_sem,z0,z1,z2,z3,z4,z5,z6,z7,z8,z9,z10]) rfl ?_
   rw [HXE.out.1,HXE.out.2]
   have hns: ¬S' w.heap.size:=fun hh=> by have:=HSS.out _ hh;omega
   refine ⟨?_,?_,_,rfl,exC x' (.slice A n c) p q z,S',rfl,?_,?_⟩
   ·repeat (first | (with_reducible exact HM.out) | refine Mod.set ?_ (.inr (Nat.le_refl _)) _)
   ·repeat (first | (with_reducible exact HP.out) | refine Pz.set ?_ hlt _)
   ·repeat (first | (with_reducible exact HT.out) | refine exr_set ?_ hns _)
   ·intro b hb
    have:=HSS.out b hb
    simp
    omega
  ·rw [ho2]at hle hqz
   rw [ho1]at hqx
   have HQO:=Lib.hid hqo
   have HQZ:=Lib.hid hqz
   have HQX:=Lib.hid hqx
   have d1:decide ((o2:Int)≤(lvl:Int))=false:=by simp;omega
   have d2:decide (o2≤lvl)=false:=by simp;omega
   clear hR2 hqo hqz hqx hle ho1 ho2
   go_wp2_with fail
   refine (znext g d (4,tt,tv) l4 _ HP.out).mono ?_;rintro e w3 ⟨m3,p3,v,rfl,tp,tq,tz,rfl⟩
   have f3:=tok_f3 4 tv.k tv.n tp tq tz tt tv.s w3
   unfold tokV
   go_wp2_with fail
   have M4:Hid (Mod [g] w (w3.alloc (.cells #[nv tp,nv tq,nv tz] 28))):=Lib.hid ((HM.out.then m3).alloc _)
   have hbx0:bx < w2.heap.size:=(Array.getElem?_eq_some_iff.1 hb0.out).1
   have hgx:g≠bx:=by omega
   have X4:Hid ((w3.alloc (.cells #[nv tp,nv tq,nv tz] 28)).heap[bx]? =some (.cells #[nv (hdK x'),nv (hdV x').k,nv (hdV x').n,sv (hdV x').s,sv (hdN x'),sv (hdC x'),nv (hdO x':Nat),.slice A n c,nv p,nv q,nv z] 59 (0,0))):=Lib.hid (alloc_old' (m3.box hb0.out (by simp;omega)))
   have Z4:Hid ((w3.alloc (.cells #[nv tp,nv tq,nv tz] 28)).heap[w.heap.size]? =some (.cells #[nv 0,nv 0,nv 0,sv [],sv [],sv [],nv 0,.slice none 0 0,nv 0,nv 0,nv 0] 59 (0,0))):=Lib.hid (alloc_old' (m3.box HZ.out (by simp;omega)))
   have A4:Hid ((w3.alloc (.cells #[nv tp,nv tq,nv tz] 28)).heap[w3.heap.size]? =some (.cells #[nv tp,nv tq,nv tz] 28 (0,0))):=Lib.hid (alloc_at rfl)
   have P4:=Lib.hid (p3.alloc (.cells #[nv tp,nv tq,nv tz] 28))
   have T4:Hid (ExR (w3.alloc (.cells #[nv tp,nv tq,nv tz] 28)) S' x' (exC x' (.slice A n c) p q z)):=Lib.hid (ExR.keep (fun b hb=> by
    have h1:=HSS.out b hb
    rw [Below.heap_alloc _ _ _ (Nat.lt_of_lt_of_le h1.2.1 m3.size)]
    exact m3.block b h1.2.1 (by simp;omega)) _ _ HT.out)
   have S4:Hid (∀b,S' b→w.heap.size < b∧b < w3.heap.size∧b≠bx):=Lib.hid (fun b hb=> by
    have h1:=HSS.out b hb
    have:=m3.size
    exact ⟨h1.1,by omega,h1.2.2⟩)
   have hl3:Hid (lenZ w2 g=l4.length+1):=Lib.hid (by rw [HP.out.len];rfl)
   have hb3:bx < w3.heap.size:=Nat.lt_of_lt_of_le hbx0 m3.size
   clear m3 p3 HM HX HZ HT HSS HP hb0
   generalize hW4:w3.alloc (.cells #[nv tp,nv tq,nv tz] 28)=w4 at *
   have h34:w4.heap.size=w3.heap.size+1:=by rw [← hW4];simp
   clear hW4
   obtain ⟨n4,hn4e⟩: ∃n4,w4.heap.size=n4:=⟨_,rfl⟩
   refine wp_region_last (l:=[_,_,_,_,_,_,_,_]) [bx,w3.heap.size] (.read 0 (.read 1 (.read 2 (.read 3 (.read 6 (.call 4 (.call 5 (.read 7 .done)))))))) (by kernel_rfl) (by kernel_rfl) (by kernel_rfl) (fun _ _ d _ _ h=> by cases d <;> exact h) ?_
   refine pwith (fun W hW=> (cells11 ((hW bx (by simp)).trans X4.out))) (fun k1=> ?_)
   refine pwith (fun W hW=> (cells3 ((hW w3.heap.size (by simp)).trans A4.out))) (fun k2=> ?_)
   repeat (first | (refine prE ?_;simp only [Act.put,sA,sB,sC]) | (refine pkE ?_;simp only [Act.put,sA,sB,sC]))
   refine pcall rfl rfl (fun K hK=> ?_)
   go_simp
   refine (HE.out f2 (by omega) g d o2 l4 r3 r2 y1 y w4.drew (P4.out.next (Below.refl _ _).drew) HQO.out HQZ.out).mono ?_;rintro e w5 ⟨m5,p5,v,rfl,vs5,S5,rfl,hx5,hS5⟩
   have M5:Hid (Mod [g] w4 w5):=Lib.hid ((Mod.refl _ _).drew.then m5)
   have KB5:Hid (KB [bx,w3.heap.size] w4.drew w5):=Lib.hid (fun b hb=> m5.block b (by simp at hb;show b < w4.heap.size;omega) (by simp at hb⊢;omega))
   clear m5
   obtain ⟨A5,n5,c5,a5,b5,e5,rfl⟩:=hx5.form
   have hv:Value.agg (exC y (.slice A5 n5 c5) a5 b5 e5).toArray= .agg #[nv (hdK y),nv (hdV y).k,nv (hdV y).n,sv (hdV y).s,sv (hdN y),sv (hdC y),nv (hdO y:Nat),.slice A5 n5 c5,nv a5,nv b5,nv e5]:=rfl
   rw [hv]
   clear hv
   go_wp2_with fail
   refine hK.out _ _ KB5.out ?_
   clear hK K
   try simp only [Act.put,sA,sB,sC]
   refine pcall rfl rfl (fun K hK=> ?_)
   go_simp
   have hs5:=M5.out.size
   have X5:=M5.out.box X4.out (by simp;omega)
   have Z5:=M5.out.box Z4.out (by simp;omega)
   refine hK.out _ _ (fun b hb=> Below.heap_alloc _ _ _ (by simp at hb;omega)) ?_
   clear hK K
   try simp only [Act.put,sA,sB,sC]
   have R6:Hid ((w5.alloc (.cells (exC x' (.slice A n c) p q z ++exC y (.slice A5 n5 c5) a5 b5 e5).toArray 59)).heap[w5.heap.size]? =some (.cells (exC x' (.slice A n c) p q z ++exC y (.slice A5 n5 c5) a5 b5 e5).toArray 59 (0,0))):=Lib.hid (alloc_at rfl)
   have X6:Hid ((w5.alloc (.cells (exC x' (.slice A n c) p q z ++exC y (.slice A5 n5 c5) a5 b5 e5).toArray 59)).heap[bx]? =_):=Lib.hid (alloc_old' X5)
   have Z6:Hid ((w5.alloc (.cells (exC x' (.slice A n c) p q z ++exC y (.slice A5 n5 c5) a5 b5 e5).toArray 59)).heap[w.heap.size]? =_):=Lib.hid (alloc_old' Z5)
   have P6:=Lib.hid (p5.alloc (.cells (exC x' (.slice A n c) p q z ++exC y (.slice A5 n5 c5) a5 b5 e5).toArray 59))
   have M6:Hid (Mod [g] w (w5.alloc (.cells (exC x' (.slice A n c) p q z ++exC y (.slice A5 n5 c5) a5 b5 e5).toArray 59))):=Lib.hid ((M4.out.then M5.out).alloc _)
   have TX6:Hid (ExR (w5.alloc (.cells (exC x' (.slice A n c) p q z ++exC y (.slice A5 n5 c5) a5 b5 e5).toArray 59)) S' x' (exC x' (.slice A n c) p q z)):=Lib.hid (ExR.keep (fun b hb=> by
    have h1:=S4.out b hb
    rw [Below.heap_alloc _ _ _ (by omega)]
    exact M5.out.block b (by omega) (by simp;omega)) _ _ T4.out)
   have TY6:Hid (ExR (w5.alloc (.cells (exC x' (.slice A n c) p q z ++exC y (.slice A5 n5 c5) a5 b5 e5).toArray 59)) S5 y (exC y (.slice A5 n5 c5) a5 b5 e5)):=Lib.hid (ExR.keep (fun b hb=> Below.heap_alloc _ _ _ (hS5 b hb).2) _ _ hx5)
   have S6:=Lib.hid hS5
   have hz6:(w5.alloc (.cells (exC x' (.slice A n c) p q z ++exC y (.slice A5 n5 c5) a5 b5 e5).toArray 59)).heap.size=w5.heap.size+1:=by simp
   have he6:(Obj.cells (exC x' (.slice A n c) p q z ++exC y (.slice A5 n5 c5) a5 b5 e5).toArray 59)=Obj.cells #[nv (hdK x'),nv (hdV x').k,nv (hdV x').n,sv (hdV x').s,sv (hdN x'),sv (hdC x'),nv (hdO x':Nat),.slice A n c,nv p,nv q,nv z,nv (hdK y),nv (hdV y).k,nv (hdV y).n,sv (hdV y).s,sv (hdN y),sv (hdC y),nv (hdO y:Nat),.slice A5 n5 c5,nv a5,nv b5,nv e5] 59:=rfl
   rw [← he6]
   clear he6 p5 hS5 hx5 X5 Z5 KB5
   generalize w5.alloc (.cells (exC x' (.slice A n c) p q z ++exC y (.slice A5 n5 c5) a5 b5 e5).toArray 59)=w6 at *
   repeat (first | (refine prE ?_;simp only [Act.put,sA,sB,sC]) | (refine pkE ?_;simp only [Act.put,sA,sB,sC]))
   refine pdone ?_
   refine last_step rfl (fun K hK=> ?_)
   obtain ⟨⟨⟨⟨fr0,fr1⟩,fr2,fr3⟩,⟨fr4,fr5⟩,fr6,fr7⟩,⟨fr8,fr9⟩,fr10⟩:=frozen11 X6.out
   obtain ⟨⟨⟨⟨y0,y1⟩,y2,y3⟩,⟨y4,y5⟩,y6,y7⟩,⟨y8,y9⟩,y10⟩:=cells11 X6.out
   go_simp
   refine hK.out _ _ ?_
   clear hK K
   have hSx: ¬((S' bx∨S5 bx)∨bx=w5.heap.size):=by
    rintro ((hh | hh) | hh)
    ·exact (S4.out _ hh).2.2 rfl
    ·have:=(S6.out _ hh).1
     have h8:w4.drew.heap.size=w4.heap.size:=rfl
     omega
    ·omega
   obtain ⟨w7,hw7⟩: ∃w7,w7=set11 w6 bx (nv 8) (nv 0) (nv 0) (sv []) (sv []) (sv []) (nv (o1:Nat)) (.slice (some ⟨w5.heap.size,0,none⟩) 2 2) (nv tp) (nv tq) (nv tz):=⟨_,rfl⟩
   have B7:Hid (w7.heap[bx]? =some (.cells (exC (.bin o1 x' y) (.slice (some ⟨w5.heap.size,0,none⟩) 2 2) tp tq tz).toArray 59 (0,0))):=Lib.hid (by
    rw [hw7]
    exact set11_box (vs:=exC x' (.slice A n c) p q z) X6.out rfl)
   have hk7: ∀k,k≠bx→w7.heap[k]? =w6.heap[k]? :=fun k hk=> by
    rw [hw7]
    exact set11_other hk
   have hz7:w7.heap.size=w6.heap.size:=by rw [hw7];exact set11_size
   have P7:Hid (Pz w7 g d r2):=Lib.hid (P6.out.keep fun b hb=> hk7 b (by omega))
   have M7:Hid (Mod [g] w w7):=Lib.hid (M6.out.trans (cs:=[bx]) (by rw [hw7];exact set11_mod) (fun x hx=> .inr (by simp at hx;omega)))
   have Z7:Hid (w7.heap[w.heap.size]? =_):=Lib.hid ((hk7 _ (by omega)).trans Z6.out)
   have TX7:=Lib.hid (ExR.mono (S':=fun b=> (S' b∨S5 b)∨b=w5.heap.size) (fun b hb=> .inl (.inl hb)) _ _ (ExR.keep (w':=w7) (fun b hb=> hk7 b (S4.out b hb).2.2) _ _ TX6.out))
   have TY7:=Lib.hid (ExR.mono (S':=fun b=> (S' b∨S5 b)∨b=w5.heap.size) (fun b hb=> .inl (.inr hb)) _ _ (ExR.keep (w':=w7) (fun b hb=> hk7 b (fun e=> hSx (by rw [← e];exact .inl (.inr hb)))) _ _ TY6.out))
   have T7:Hid (ExR w7 (fun b=> (S' b∨S5 b)∨b=w5.heap.size) (.bin o1 x' y) (exC (.bin o1 x' y) (.slice (some ⟨w5.heap.size,0,none⟩) 2 2) tp tq tz)):=Lib.hid (ExR.two rfl rfl (Row.of_block ((hk7 _ (by omega)).trans R6.out) (.inr rfl) rfl (by omega) (by omega)) TX7.out TY7.out)
   have S7:Hid (∀b,((S' b∨S5 b)∨b=w5.heap.size)→w.heap.size < b∧b < w7.heap.size∧b≠bx):=Lib.hid (fun b hb=> by
    refine ⟨?_,?_,fun e=> hSx (by rw [← e];exact hb)⟩
    ·rcases hb with (hb | hb) | hb
     ·exact (S4.out b hb).1
     ·have:=(S6.out b hb).1
      have h8:w4.drew.heap.size=w4.heap.size:=rfl
      omega
     ·omega
    ·rcases hb with (hb | hb) | hb
     ·have:=(S4.out b hb).2.1;omega
     ·have:=(S6.out b hb).2;omega
     ·omega)
   have hl7:=P7.out.len
   have hl3':=hl3.out
   clear X6 Z6 R6 TX6 TY6 S6 M6 P6 TX7 TY7 fr0 fr1 fr2 fr3 fr4 fr5 fr6 fr7 fr8 fr9 fr10 y0 y1 y2 y3 y4 y5 y6 y7 y8 y9 y10
   unfold set11 nv sv at hw7
   rw [← hw7]
   clear hw7
   go_roundw
   case rel=> exact ⟨_,_,_,_,_,_,_,_,_,_,_,_,_,_,_,_,_,_,_,_,_,_,_,⟨f2,.bin o1 x' y,r2,_,_,by omega,HQX,B7,T7,S7,P7,M7,Z7⟩,rfl⟩
   case measure=> omega
theorem zexpr: ∀f,∀f',f' < f→EZ f'
 | 0,_,h=> absurd h (by omega)
 | f+1,f',h=> by
  rcases Nat.lt_or_ge f' f with h1 | h1
  ·exact zexpr f f' h1
  ·obtain rfl:f'=f:=by omega
   exact expr_stepZ f' (zexpr f')
end Go.Proofs.YtnbmpfdffoidaaaGreatDoor.Y
namespace Go.Proofs.YtnbmpfdffoidaaaGreatDoor.Y
open Go.RowKit O V S X
theorem zline (f g d:Nat)(l r1 r:List Tok)(y x:Ex)(v:Val)(w:World)(h:Pz w g d l)(hq:QO l y r1)(hl:QL f 0 y r1 x ((4,[59],v)::r)):Calls Tryz.prog 165 #[.pointer (some ⟨g,0,none⟩)] w (Zut [g] g d w r fun w' v=> ∃vs,v= .agg vs.toArray∧TreeX w' w.heap.size x vs):=by
 have HS:=Lib.hid h
 have HQ:=Lib.hid hq
 have HL:=Lib.hid hl
 have hlt:=h.lt
 clear h hq hl
 go_enter Tryz.func165,Tryz.ntmps165
 go_wp2_with fail
 refine (zexpr (f+1) f (Nat.lt_succ_self _) g d 0 l r1 _ y x _ (HS.out.alloc (.cells #[nv 0,nv 0,nv 0,sv [],sv [],sv [],nv 0,.slice none 0 0,nv 0,nv 0,nv 0] 59)) HQ.out HL.out).mono ?_;rintro e w1 ⟨m1,p1,v1,rfl,vs,S,rfl,hx,hS⟩
 have MW:Hid (Mod [g] w w1):=Lib.hid (((Mod.refl _ _).alloc _).then m1)
 have Z1:Hid (w1.heap[w.heap.size]? =some (.cells #[nv 0,nv 0,nv 0,sv [],sv [],sv [],nv 0,.slice none 0 0,nv 0,nv 0,nv 0] 59 (0,0))):=Lib.hid (m1.box (alloc_at rfl) (by simp;omega))
 have PW:=Lib.hid p1
 have hT:TreeX w1 _ x vs:=⟨S,hx,hS⟩
 obtain ⟨A,n,c,p,q,z,rfl⟩:=hT.form
 have T1:Hid (TreeX w1 (w.heap.size+1) x (exC x (.slice A n c) p q z)):=Lib.hid (hT.more (by simp))
 rw [exV]
 clear m1 p1 hx hS hT HQ HL
 go_wp2_with fail
 have hz1:w.heap.size < w1.heap.size:=(Array.getElem?_eq_some_iff.1 Z1.out).1
 obtain ⟨w2,hw2⟩: ∃w2,w2=(w1.alloc (.cells #[nv (hdK x),nv (hdV x).k,nv (hdV x).n,sv (hdV x).s,sv (hdN x),sv (hdC x),nv (hdO x:Nat),.slice A n c,nv p,nv q,nv z] 59)).alloc (.cells #[sv [59]] 9):=⟨_,rfl⟩
 have m2:Mod [g] w1 w2:=by rw [hw2];exact ((Mod.refl _ _).alloc _).alloc _
 have E2:Hid (w2.heap[w1.heap.size]? =some (.cells #[nv (hdK x),nv (hdV x).k,nv (hdV x).n,sv (hdV x).s,sv (hdN x),sv (hdC x),nv (hdO x:Nat),.slice A n c,nv p,nv q,nv z] 59 (0,0))):=Lib.hid (by rw [hw2];exact alloc_old' (alloc_at rfl))
 have D2:w2.heap[w1.heap.size+1]? =some (.cells #[sv [59]] 9 (0,0)):=by rw [hw2];exact alloc_at (by simp)
 have hz2:w2.heap.size=w1.heap.size+2:=by rw [hw2];simp
 have P2:Pz w2 g d ((4,[59],v)::r):=by rw [hw2];exact (PW.out.alloc _).alloc _
 rw [← hw2]
 clear hw2
 replace Z1:=Lib.hid (m2.box Z1.out (by simp;omega))
 replace T1:=Lib.hid (T1.out.mod m2 (fun b hb=> by simp at hb;omega))
 replace MW:=Lib.hid (MW.out.then m2)
 refine (zwant g d _ [59] (w1.heap.size+1) w2 P2 (by omega) D2 rfl).mono ?_;rintro e w3 ⟨m3,p3,v3,rfl,rfl⟩
 replace Z1:=Lib.hid (m3.box Z1.out (by simp;omega))
 replace E2:=Lib.hid (m3.box E2.out (by simp;omega))
 replace T1:=Lib.hid (T1.out.mod m3 (fun b hb=> by simp at hb;omega))
 replace MW:=Lib.hid (MW.out.then m3)
 have P3:Hid (Pz w3 g d r):=Lib.hid p3
 clear m2 D2 P2 PW m3 p3
 obtain ⟨⟨⟨⟨x0,x1⟩,x2,x3⟩,⟨x4,x5⟩,x6,x7⟩,⟨x8,x9⟩,x10⟩:=cells11 E2.out
 obtain ⟨⟨⟨⟨y0,y1⟩,y2,y3⟩,⟨y4,y5⟩,y6,y7⟩,⟨y8,y9⟩,y10⟩:=cells11 Z1.out
 obtain ⟨⟨⟨⟨fr0,fr1⟩,fr2,fr3⟩,⟨fr4,fr5⟩,fr6,fr7⟩,⟨fr8,fr9⟩,fr10⟩:=frozen11 Z1.out
 go_wp2_with fail
 refine bodyPost_ret (v:= .agg #[nv (hdK x),nv (hdV x).k,nv (hdV x).n,sv (hdV x).s,sv (hdN x),sv (hdC x),nv (hdO x:Nat),.slice A n c,nv p,nv q,nv z]) (by simp [results,Tryz.results165,go_sem,y0,y1,y2,y3,y4,y5,y6,y7,y8,y9,y10]) rfl ?_
 refine ⟨?_,?_,_,rfl,exC x (.slice A n c) p q z,rfl,?_⟩
 ·repeat (first | (with_reducible exact MW.out) | refine Mod.set ?_ (.inr (Nat.le_refl _)) _)
 ·repeat (first | (with_reducible exact P3.out) | refine Pz.set ?_ hlt _)
 ·refine ((T1.out.mod (bs:=[w.heap.size]) ?_ (fun b hb=> by simp at hb;omega))).more (Nat.le_succ _)
  repeat (first | (with_reducible exact Mod.refl _ _) | refine Mod.set ?_ (.inl (by simp)) _)
theorem zstmt (f g d:Nat)(l r1 r:List Tok)(y x:Ex)(tv v:Val)(w:World)(h:Pz w g d ((1,w_emit,tv)::l))(hq:QO l y r1)(hl:QL f 0 y r1 x ((4,[59],v)::r)):Calls Tryz.prog 141 #[.pointer (some ⟨g,0,none⟩)] w (Zut [g] g d w r fun w' v=> ∃vs,v= .agg vs.toArray∧TreeS w' w.heap.size (.emit x) vs):=by
 have HS:=Lib.hid h
 have HQ:=Lib.hid hq
 have HLL:=Lib.hid hl
 have hlt:=h.lt
 have h0:isT ((1,w_emit,tv)::l) w_let=false:=rfl
 have h1:isT ((1,w_emit,tv)::l) w_del=false:=rfl
 have h2:isT ((1,w_emit,tv)::l) w_if=false:=rfl
 have h3:isT ((1,w_emit,tv)::l) w_loop=false:=rfl
 have h4:isT ((1,w_emit,tv)::l) w_each=false:=rfl
 have h5:isT ((1,w_emit,tv)::l) w_rollback=false:=rfl
 have h6:isT ((1,w_emit,tv)::l) w_emit=true:=rfl
 clear h hq hl
 go_enter Tryz.func141,Tryz.ntmps141
 go_wp2_with fail
 refine (zhere g d (1,w_emit,tv) l _ (HS.out.alloc _)).mono ?_;rintro e w1 ⟨⟨p,q,z,rfl⟩,b1⟩
 have RX1:Hid (w1.heap[w.heap.size]? =some (.cells #[nv 0,sv [],sv [],sv [],nv 0,.slice none 0 0,.slice none 0 0,.slice none 0 0,nv 0,nv 0,nv 0] 44 (0,0))):=Lib.hid (box_next (alloc_at rfl) b1)
 have MW1:Hid (Mod [g] w w1):=Lib.hid (((Mod.refl _ _).alloc _).then (.of_below b1))
 have PW1:=Lib.hid ((HS.out.alloc (.cells #[nv 0,sv [],sv [],sv [],nv 0,.slice none 0 0,.slice none 0 0,.slice none 0 0,nv 0,nv 0,nv 0] 44)).next b1)
 clear b1
 go_wp2_with fail
 have hw1:w.heap.size < w1.heap.size:=(Array.getElem?_eq_some_iff.1 RX1.out).1
 obtain ⟨w2,hw⟩: ∃W,W=w1.alloc (.cells #[nv 0,sv [],sv [],sv [],nv 0,.slice none 0 0,.slice none 0 0,.slice none 0 0,nv p,nv q,nv z] 44):=⟨_,rfl⟩
 have RX:Hid (w2.heap[w.heap.size]? =some (.cells #[nv 0,sv [],sv [],sv [],nv 0,.slice none 0 0,.slice none 0 0,.slice none 0 0,nv 0,nv 0,nv 0] 44 (0,0))):=Lib.hid (by rw [hw];exact alloc_old' RX1.out)
 have BX1:Hid (w2.heap[w1.heap.size]? =some (.cells #[nv 0,sv [],sv [],sv [],nv 0,.slice none 0 0,.slice none 0 0,.slice none 0 0,nv p,nv q,nv z] 44 (0,0))):=Lib.hid (by rw [hw];exact alloc_at rfl)
 have MW:Hid (Mod [g] w w2):=Lib.hid (by rw [hw];exact MW1.out.alloc _)
 have PW:Hid (Pz w2 g d ((1,w_emit,tv)::l)):=Lib.hid (by rw [hw];exact PW1.out.alloc _)
 have hz2:w2.heap.size=w1.heap.size+1:=by rw [hw];simp
 have HL:Hid (w2.heap.size≤w2.heap.size):=Lib.hid (Nat.le_refl _)
 rw [← hw]
 clear hw RX1 MW1 PW1 HS
 obtain ⟨bs,hbs⟩: ∃bs,w1.heap.size=bs:=⟨_,rfl⟩
 rw [hbs]at BX1 hz2 hw1⊢
 have BX:=BX1
 clear BX1 hbs
 refine (ztake g d _ w_let w2 PW.out).mono ?_;rintro e wt0 ⟨rfl,m,pt⟩
 rw [h0]at pt⊢
 simp only [if_false,if_true,Bool.false_eq_true]at pt
 replace BX:=Lib.hid (m.box BX.out (by simp;omega))
 replace RX:=Lib.hid (m.box RX.out (by simp;omega))
 replace MW:=Lib.hid (MW.out.then m)
 replace HL:=Lib.hid (Nat.le_trans HL.out m.size)
 replace PW:=Lib.hid pt
 clear m pt
 go_wp2_with fail
 refine (ztake g d _ w_del wt0 PW.out).mono ?_;rintro e wt1 ⟨rfl,m,pt⟩
 rw [h1]at pt⊢
 simp only [if_false,if_true,Bool.false_eq_true]at pt
 replace BX:=Lib.hid (m.box BX.out (by simp;omega))
 replace RX:=Lib.hid (m.box RX.out (by simp;omega))
 replace MW:=Lib.hid (MW.out.then m)
 replace HL:=Lib.hid (Nat.le_trans HL.out m.size)
 replace PW:=Lib.hid pt
 clear m pt
 go_wp2_with fail
 refine (ztake g d _ w_if wt1 PW.out).mono ?_;rintro e wt2 ⟨rfl,m,pt⟩
 rw [h2]at pt⊢
 simp only [if_false,if_true,Bool.false_eq_true]at pt
 replace BX:=Lib.hid (m.box BX.out (by simp;omega))
 replace RX:=Lib.hid (m.box RX.out (by simp;omega))
 replace MW:=Lib.hid (MW.out.then m)
 replace HL:=Lib.hid (Nat.le_trans HL.out m.size)
 replace PW:=Lib.hid pt
 clear m pt
 go_wp2_with fail
 refine (ztake g d _ w_loop wt2 PW.out).mono ?_;rintro e wt3 ⟨rfl,m,pt⟩
 rw [h3]at pt⊢
 simp only [if_false,if_true,Bool.false_eq_true]at pt
 replace BX:=Lib.hid (m.box BX.out (by simp;omega))
 replace RX:=Lib.hid (m.box RX.out (by simp;omega))
 replace MW:=Lib.hid (MW.out.then m)
 replace HL:=Lib.hid (Nat.le_trans HL.out m.size)
 replace PW:=Lib.hid pt
 clear m pt
 go_wp2_with fail
 refine (ztake g d _ w_each wt3 PW.out).mono ?_;rintro e wt4 ⟨rfl,m,pt⟩
 rw [h4]at pt⊢
 simp only [if_false,if_true,Bool.false_eq_true]at pt
 replace BX:=Lib.hid (m.box BX.out (by simp;omega))
 replace RX:=Lib.hid (m.box RX.out (by simp;omega))
 replace MW:=Lib.hid (MW.out.then m)
 replace HL:=Lib.hid (Nat.le_trans HL.out m.size)
 replace PW:=Lib.hid pt
 clear m pt
 go_wp2_with fail
 refine (ztake g d _ w_rollback wt4 PW.out).mono ?_;rintro e wt5 ⟨rfl,m,pt⟩
 rw [h5]at pt⊢
 simp only [if_false,if_true,Bool.false_eq_true]at pt
 replace BX:=Lib.hid (m.box BX.out (by simp;omega))
 replace RX:=Lib.hid (m.box RX.out (by simp;omega))
 replace MW:=Lib.hid (MW.out.then m)
 replace HL:=Lib.hid (Nat.le_trans HL.out m.size)
 replace PW:=Lib.hid pt
 clear m pt
 go_wp2_with fail
 refine (ztake g d _ w_emit wt5 PW.out).mono ?_;rintro e wt6 ⟨rfl,m,pt⟩
 rw [h6]at pt⊢
 simp only [if_false,if_true,Bool.false_eq_true]at pt
 replace BX:=Lib.hid (m.box BX.out (by simp;omega))
 replace RX:=Lib.hid (m.box RX.out (by simp;omega))
 replace MW:=Lib.hid (MW.out.then m)
 replace HL:=Lib.hid (Nat.le_trans HL.out m.size)
 replace PW:=Lib.hid pt
 clear m pt
 go_wp2_with fail
 refine (zline f g d l r1 r y x v wt6 PW.out HQ.out HLL.out).mono ?_;rintro e w6 ⟨m,p6,v6,rfl,vs,rfl,hT⟩
 have hl0:=HL.out
 replace BX:=Lib.hid (m.box BX.out (by simp;omega))
 replace RX:=Lib.hid (m.box RX.out (by simp;omega))
 replace MW:=Lib.hid (MW.out.then m)
 replace HL:=Lib.hid (Nat.le_trans HL.out m.size)
 replace PW:=Lib.hid p6
 obtain ⟨A,n,c,p1,q1,z1,rfl⟩:=hT.form
 have TT:=Lib.hid (hT.more hl0)
 rw [exV]
 have hbb:bs < w6.heap.size:=(Array.getElem?_eq_some_iff.1 BX.out).1
 have hrr:w.heap.size < w6.heap.size:=(Array.getElem?_eq_some_iff.1 RX.out).1
 clear m p6 hT hl0
 obtain ⟨⟨⟨⟨y0,y1⟩,y2,y3⟩,⟨y4,y5⟩,y6,y7⟩,⟨y8,y9⟩,y10⟩:=cells11 BX.out
 obtain ⟨⟨⟨⟨fr0,fr1⟩,fr2,fr3⟩,⟨fr4,fr5⟩,fr6,fr7⟩,⟨fr8,fr9⟩,fr10⟩:=frozen11 BX.out
 go_upto_region 27 with fail
 clear y0 y1 y2 y3 y4 y5 y6 y7 y8 y9 y10 fr0 fr1 fr2 fr3 fr4 fr5 fr6 fr7 fr8 fr9 fr10
 obtain ⟨w7,hw⟩: ∃W,W=((w6.setCell ⟨bs,0,none⟩ (.int .i64 9)).setCell ⟨bs,5,none⟩ (.slice (some ⟨w6.heap.size,0,none⟩) 1 1)).alloc (.cells #[nv (hdK x),nv (hdV x).k,nv (hdV x).n,sv (hdV x).s,sv (hdN x),sv (hdC x),nv (hdO x:Nat),.slice A n c,nv p1,nv q1,nv z1] 59):=⟨_,rfl⟩
 have m:Mod [bs] w6 w7:=by rw [hw];exact (((Mod.refl _ _).set (.inl (by simp)) _).set (.inl (by simp)) _).alloc _
 replace BX:Hid (w7.heap[bs]? =some (.cells #[nv 9,sv [],sv [],sv [],nv 0,.slice (some ⟨w6.heap.size,0,none⟩) 1 1,.slice none 0 0,.slice none 0 0,nv p,nv q,nv z] 44 (0,0))):=Lib.hid (by rw [hw];exact alloc_old' (heap_set' (heap_set' BX.out _ 0 rfl) _ 5 rfl))
 have hr:w7.heap[w6.heap.size]? =some (.cells (exC x (.slice A n c) p1 q1 z1).toArray 59 (0,0)):=by rw [hw];exact alloc_at (by simp)
 have hl0:=HL.out
 replace RX:=Lib.hid (m.box RX.out (by simp;omega))
 replace PW:=Lib.hid (PW.out.mod m (fun x hx=> by simp at hx;omega))
 replace MW:=Lib.hid (MW.out.trans m (fun x hx=> .inr (by simp at hx;omega)))
 replace HL:=Lib.hid (Nat.le_trans HL.out m.size)
 replace TT:=Lib.hid (RowX.one (TT.out.mod m (fun b hb=> by simp at hb;omega)) hr hl0 rfl)
 have hzw7:w7.heap.size=w6.heap.size+1:=by rw [hw];simp
 rw [← hw]
 clear hw m hr hl0
 obtain ⟨⟨⟨⟨x0,x1⟩,x2,x3⟩,⟨x4,x5⟩,x6,x7⟩,⟨x8,x9⟩,x10⟩:=cells11 BX.out
 obtain ⟨⟨⟨⟨y0,y1⟩,y2,y3⟩,⟨y4,y5⟩,y6,y7⟩,⟨y8,y9⟩,y10⟩:=cells11 RX.out
 obtain ⟨⟨⟨⟨fr0,fr1⟩,fr2,fr3⟩,⟨fr4,fr5⟩,fr6,fr7⟩,⟨fr8,fr9⟩,fr10⟩:=frozen11 RX.out
 have hnb:w.heap.size≠bs:=by omega
 go_wp2_with fail
 refine bodyPost_ret (v:= .agg #[nv 9,sv [],sv [],sv [],nv 0,.slice (some ⟨w6.heap.size,0,none⟩) 1 1,.slice none 0 0,.slice none 0 0,nv p,nv q,nv z]) (by simp [results,Tryz.results141,go_sem,y0,y1,y2,y3,y4,y5,y6,y7,y8,y9,y10]) rfl ?_
 refine ⟨?_,?_,_,rfl,[nv 9,sv [],sv [],sv [],nv 0,.slice (some ⟨w6.heap.size,0,none⟩) 1 1,.slice none 0 0,.slice none 0 0,nv p,nv q,nv z],rfl,?_⟩
 ·repeat (first | (with_reducible exact MW.out) | refine Mod.set ?_ (.inr (Nat.le_refl _)) _)
 ·repeat (first | (with_reducible exact PW.out) | refine Pz.set ?_ hlt _)
 ·refine (TreeS.mod (bs:=[w.heap.size]) (TreeS.mk (s:= .emit x) TT.out rfl RowS.nil_ rfl RowS.nil_ rfl) ?_ (fun b hb=> by simp at hb;omega)).more (show w.heap.size≤w2.heap.size by omega)
  repeat (first | (with_reducible exact Mod.refl _ _) | refine Mod.set ?_ (.inl (by simp)) _)
end Go.Proofs.YtnbmpfdffoidaaaGreatDoor.Y
