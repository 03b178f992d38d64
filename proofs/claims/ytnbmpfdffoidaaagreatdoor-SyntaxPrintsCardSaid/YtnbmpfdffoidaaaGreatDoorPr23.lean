/- Texts of the proof, joined: SynPq. -/
import Derived.Test.YtnbmpfdffoidaaaGreatDoorPr02
import Derived.Test.YtnbmpfdffoidaaaGreatDoorPr08
set_option linter.unusedVariables false
set_option linter.unusedSimpArgs false
set_option maxHeartbeats 8000000
set_option maxRecDepth 100000
namespace Go.Proofs.YtnbmpfdffoidaaaGreatDoor.Y
open Go.RowKit O V S X
abbrev smV (k:Int)(nm tt cc:List UInt8)(n:Int)(a b e:Value)(p q r:Int):Value:= .agg #[nv k,sv nm,sv tt,sv cc,nv n,a,b,e,nv p,nv q,nv r]
abbrev smO (k:Int)(nm tt cc:List UInt8)(n:Int)(a b e:Value)(p q r:Int):Obj:= .cells #[nv k,sv nm,sv tt,sv cc,nv n,a,b,e,nv p,nv q,nv r] 44
abbrev smB (k:Int)(nm tt cc:List UInt8)(n:Int)(a b e:Value)(p q r:Int):Obj:= .cells #[nv k,sv nm,sv tt,sv cc,nv n,a,b,e,nv p,nv q,nv r] 44 (0,0)
theorem spart_raw (k:Int)(nm tt cc:List UInt8)(n:Int)(bv ev:Value)(p q r:Int)(b off m c i:Nat){z:Int}(hz:z=i)(hi:i < m)(hn:m≤1000)(uk uvk uvn:Int)(us un uc:List UInt8)(uo:Int)(uA:Option Addr)(um ud:Nat)(up uq ur:Int)(w:World)(hb:b < w.heap.size)
  (hc: ∀j,j < 11→w.cell? ⟨b,off+i * 11+j,none⟩=[nv uk,nv uvk,nv uvn,sv us,sv un,sv uc,nv uo,.slice uA um ud,nv up,nv uq,nv ur][j]?):
  Calls Tryz.prog 146 #[smV k nm tt cc n (.slice (some ⟨b,off,none⟩) m c) bv ev p q r,.int .i64 z] w fun e w'=> e= .returned (exVal uk uvk uvn us un uc uo (.slice uA um ud) up uq ur)∧Below w.heap.size w w':=by
 subst hz
 have HC:=Lib.hid hc
 clear hc
 have D1:Hid (Below w.heap.size w ((w.alloc (smO k nm tt cc n (.slice (some ⟨b,off,none⟩) m c) bv ev p q r)).alloc (exO 0 0 0 [] [] [] 0 (.slice none 0 0) 0 0 0))):=Lib.hid (((Below.refl _ _).alloc (Nat.le_refl _) _).alloc (by simp) _)
 go_enter Tryz.func146,Tryz.ntmps146
 go_wp2_with fail
 refine (arg_raw 0 0 0 [] [] [] 0 0 0 0 b off m c i rfl hi hn uk uvk uvn us un uc uo uA um ud up uq ur _ (by simp;omega) (fun j hj=> ?_)).mono ?_
 ·exact (D1.out.cell (p:=⟨b,off+i * 11+j,none⟩) hb).trans (HC.out j hj)
 rintro e w2 ⟨rfl,b2⟩
 have X2:Hid (w2.heap[w.heap.size+1]? =some (.cells #[nv 0,nv 0,nv 0,sv [],sv [],sv [],nv 0,.slice none 0 0,nv 0,nv 0,nv 0] 59 (0,0))):=Lib.hid (box_next (alloc_at (by simp)) b2)
 have B2:=Lib.hid (D1.out.trans (b2.mono D1.out.size))
 clear b2 D1 HC
 obtain ⟨⟨⟨⟨x0,x1⟩,x2,x3⟩,⟨x4,x5⟩,x6,x7⟩,⟨x8,x9⟩,x10⟩:=cells11 X2.out
 obtain ⟨⟨⟨⟨fr0,fr1⟩,fr2,fr3⟩,⟨fr4,fr5⟩,fr6,fr7⟩,⟨fr8,fr9⟩,fr10⟩:=frozen11 X2.out
 go_wp2_with fail
 clear x0 x1 x2 x3 x4 x5 x6 x7 x8 x9 x10 fr0 fr1 fr2 fr3 fr4 fr5 fr6 fr7 fr8 fr9 fr10
 have X3:=set11_box (u0:=nv uk) (u1:=nv uvk) (u2:=nv uvn) (u3:=sv us) (u4:=sv un) (u5:=sv uc) (u6:=nv uo) (u7:= .slice uA um ud) (u8:=nv up) (u9:=nv uq) (u10:=nv ur) (vs:=[nv 0,nv 0,nv 0,sv [],sv [],sv [],nv 0,.slice none 0 0,nv 0,nv 0,nv 0]) X2.out rfl
 have B3:=B2.out.trans ((set11_mod (w:=w2) (b:=w.heap.size+1) (u0:=nv uk) (u1:=nv uvk) (u2:=nv uvn) (u3:=sv us) (u4:=sv un) (u5:=sv uc) (u6:=nv uo) (u7:= .slice uA um ud) (u8:=nv up) (u9:=nv uq) (u10:=nv ur)).below B2.out.size (by simp))
 obtain ⟨w3,hw3⟩: ∃W,set11 w2 (w.heap.size+1) (nv uk) (nv uvk) (nv uvn) (sv us) (sv un) (sv uc) (nv uo) (.slice uA um ud) (nv up) (nv uq) (nv ur)=W:=⟨_,rfl⟩
 rw [hw3]at X3 B3
 unfold set11 at hw3
 rw [hw3]
 obtain ⟨⟨⟨⟨x0,x1⟩,x2,x3⟩,⟨x4,x5⟩,x6,x7⟩,⟨x8,x9⟩,x10⟩:=cells11 X3
 refine bodyPost_ret (v:=exVal uk uvk uvn us un uc uo (.slice uA um ud) up uq ur) (by simp [results,Tryz.results146,go_sem,x0,x1,x2,x3,x4,x5,x6,x7,x8,x9,x10]) rfl ?_
 exact ⟨rfl,B3⟩
def Prt (g:Nat)(v:Value)(i:Int)(V:Value)(w:World):Prop:= ∀w',Below g w w'→Calls Tryz.prog 146 #[v,nv i] w' fun e w''=> e= .returned V∧Below w'.heap.size w' w''
section
variable (nm tt cc:List UInt8) (n:Int) (a b e:Value) (p q r:Int) (g:Nat) (w:World)
theorem slet_raw (V:Value)(T:List (List UInt8))(h0:Prt g (smV 1 nm tt cc n a b e p q r) 0 V w)(k0:Run 50 #[.pointer (some ⟨g,0,none⟩),V,nv 0] g T w):
  Run 114 #[.pointer (some ⟨g,0,none⟩),smV 1 nm tt cc n a b e p q r] g ([108,101,116]::nm::[61]::(T ++ [[59]])) w:=by
 intro w' L hbw hpr hlim
 have hlt:=hpr.lt
 try simp only [List.length_cons,List.length_append,List.length_nil]at hlim
 have HL:=Lib.hid hlim
 have HW:=Lib.hid hbw
 clear hlim hbw
 have Hh0:=Lib.hid h0
 have Hk0:=Lib.hid k0
 clear h0 k0
 go_enter Tryz.func114,Tryz.ntmps114
 go_upto_region 1 with fail
 have BX:Hid ((w'.alloc (smO 1 nm tt cc n a b e p q r)).heap[w'.heap.size]? =some (smB 1 nm tt cc n a b e p q r)):=Lib.hid (alloc_at rfl)
 have PW:=Lib.hid (hpr.next (one_new (o:=smO 1 nm tt cc n a b e p q r)))
 have FW:Hid (PF g w' (w'.alloc (smO 1 nm tt cc n a b e p q r))):=Lib.hid (.of_below one_new)
 clear hpr
 obtain ⟨w1,hw1⟩: ∃W,w'.alloc (smO 1 nm tt cc n a b e p q r)=W:=⟨_,rfl⟩
 rw [hw1]at BX PW FW⊢
 clear hw1
 obtain ⟨⟨⟨⟨x0,x1⟩,x2,x3⟩,⟨x4,x5⟩,x6,x7⟩,⟨x8,x9⟩,x10⟩:=cells11 BX.out
 go_wp2_with fail
 refine (put_any g _ _ _ [[108,101,116],nm,[61]] _ _ (PW.out.next one_new) (Rd.made _ _ rfl (by first | rfl | simp)) (by have:=HL.out;simp;omega)).mono ?_;rintro e w3 ⟨rfl,p3,f3⟩
 replace BX:=Lib.hid (f3.keep hlt (box_next BX.out one_new) (by decide))
 replace FW:=Lib.hid ((FW.out.then one_new).trans f3)
 replace PW:=Lib.hid p3
 clear p3 f3
 clear x0 x1 x2 x3 x4 x5 x6 x7 x8 x9 x10
 obtain ⟨⟨⟨⟨x0,x1⟩,x2,x3⟩,⟨x4,x5⟩,x6,x7⟩,⟨x8,x9⟩,x10⟩:=cells11 BX.out
 go_wp2_with fail
 refine (Hh0.out _ (HW.out.trans (FW.out.below (Nat.le_of_lt hlt)))).mono ?_;rintro e w4 ⟨rfl,b4⟩
 replace BX:=Lib.hid (box_next BX.out b4)
 replace PW:=Lib.hid (PW.out.next b4)
 replace FW:=Lib.hid (FW.out.then b4)
 clear b4
 clear x0 x1 x2 x3 x4 x5 x6 x7 x8 x9 x10
 obtain ⟨⟨⟨⟨x0,x1⟩,x2,x3⟩,⟨x4,x5⟩,x6,x7⟩,⟨x8,x9⟩,x10⟩:=cells11 BX.out
 go_wp2_with fail
 refine (Hk0.out _ _ (HW.out.trans (FW.out.below (Nat.le_of_lt hlt))) PW.out (by have:=HL.out;simp;omega)).mono ?_;rintro e w5 ⟨rfl,p5,f5⟩
 replace BX:=Lib.hid (f5.keep hlt BX.out (by decide))
 replace FW:=Lib.hid (FW.out.trans f5)
 replace PW:=Lib.hid p5
 clear p5 f5
 clear x0 x1 x2 x3 x4 x5 x6 x7 x8 x9 x10
 obtain ⟨⟨⟨⟨x0,x1⟩,x2,x3⟩,⟨x4,x5⟩,x6,x7⟩,⟨x8,x9⟩,x10⟩:=cells11 BX.out
 go_wp2_with fail
 refine (put_any g _ _ _ [[59]] _ _ (PW.out.next one_new) (Rd.made _ _ rfl (by first | rfl | simp)) (by have:=HL.out;simp;omega)).mono ?_;rintro e w6 ⟨rfl,p6,f6⟩
 replace BX:=Lib.hid (f6.keep hlt (box_next BX.out one_new) (by decide))
 replace FW:=Lib.hid ((FW.out.then one_new).trans f6)
 replace PW:=Lib.hid p6
 clear p6 f6
 clear x0 x1 x2 x3 x4 x5 x6 x7 x8 x9 x10
 obtain ⟨⟨⟨⟨x0,x1⟩,x2,x3⟩,⟨x4,x5⟩,x6,x7⟩,⟨x8,x9⟩,x10⟩:=cells11 BX.out
 go_wp2_with fail
 first | go_end0 | refine bodyPost_ret (results_none rfl _ _ _) rfl ?_
 exact ⟨rfl,by simpa only [List.append_assoc,List.cons_append,List.nil_append]using PW.out,FW.out⟩
theorem sset_raw (V:Value)(T:List (List UInt8))(h0:Prt g (smV 2 nm tt cc n a b e p q r) 0 V w)(k0:Run 50 #[.pointer (some ⟨g,0,none⟩),V,nv 0] g T w):
  Run 114 #[.pointer (some ⟨g,0,none⟩),smV 2 nm tt cc n a b e p q r] g (nm::[61]::(T ++ [[59]])) w:=by
 intro w' L hbw hpr hlim
 have hlt:=hpr.lt
 try simp only [List.length_cons,List.length_append,List.length_nil]at hlim
 have HL:=Lib.hid hlim
 have HW:=Lib.hid hbw
 clear hlim hbw
 have Hh0:=Lib.hid h0
 have Hk0:=Lib.hid k0
 clear h0 k0
 go_enter Tryz.func114,Tryz.ntmps114
 go_upto_region 1 with fail
 have BX:Hid ((w'.alloc (smO 2 nm tt cc n a b e p q r)).heap[w'.heap.size]? =some (smB 2 nm tt cc n a b e p q r)):=Lib.hid (alloc_at rfl)
 have PW:=Lib.hid (hpr.next (one_new (o:=smO 2 nm tt cc n a b e p q r)))
 have FW:Hid (PF g w' (w'.alloc (smO 2 nm tt cc n a b e p q r))):=Lib.hid (.of_below one_new)
 clear hpr
 obtain ⟨w1,hw1⟩: ∃W,w'.alloc (smO 2 nm tt cc n a b e p q r)=W:=⟨_,rfl⟩
 rw [hw1]at BX PW FW⊢
 clear hw1
 obtain ⟨⟨⟨⟨x0,x1⟩,x2,x3⟩,⟨x4,x5⟩,x6,x7⟩,⟨x8,x9⟩,x10⟩:=cells11 BX.out
 go_wp2_with fail
 refine (put_any g _ _ _ [nm,[61]] _ _ (PW.out.next one_new) (Rd.made _ _ rfl (by first | rfl | simp)) (by have:=HL.out;simp;omega)).mono ?_;rintro e w3 ⟨rfl,p3,f3⟩
 replace BX:=Lib.hid (f3.keep hlt (box_next BX.out one_new) (by decide))
 replace FW:=Lib.hid ((FW.out.then one_new).trans f3)
 replace PW:=Lib.hid p3
 clear p3 f3
 clear x0 x1 x2 x3 x4 x5 x6 x7 x8 x9 x10
 obtain ⟨⟨⟨⟨x0,x1⟩,x2,x3⟩,⟨x4,x5⟩,x6,x7⟩,⟨x8,x9⟩,x10⟩:=cells11 BX.out
 go_wp2_with fail
 refine (Hh0.out _ (HW.out.trans (FW.out.below (Nat.le_of_lt hlt)))).mono ?_;rintro e w4 ⟨rfl,b4⟩
 replace BX:=Lib.hid (box_next BX.out b4)
 replace PW:=Lib.hid (PW.out.next b4)
 replace FW:=Lib.hid (FW.out.then b4)
 clear b4
 clear x0 x1 x2 x3 x4 x5 x6 x7 x8 x9 x10
 obtain ⟨⟨⟨⟨x0,x1⟩,x2,x3⟩,⟨x4,x5⟩,x6,x7⟩,⟨x8,x9⟩,x10⟩:=cells11 BX.out
 go_wp2_with fail
 refine (Hk0.out _ _ (HW.out.trans (FW.out.below (Nat.le_of_lt hlt))) PW.out (by have:=HL.out;simp;omega)).mono ?_;rintro e w5 ⟨rfl,p5,f5⟩
 replace BX:=Lib.hid (f5.keep hlt BX.out (by decide))
 replace FW:=Lib.hid (FW.out.trans f5)
 replace PW:=Lib.hid p5
 clear p5 f5
 clear x0 x1 x2 x3 x4 x5 x6 x7 x8 x9 x10
 obtain ⟨⟨⟨⟨x0,x1⟩,x2,x3⟩,⟨x4,x5⟩,x6,x7⟩,⟨x8,x9⟩,x10⟩:=cells11 BX.out
 go_wp2_with fail
 refine (put_any g _ _ _ [[59]] _ _ (PW.out.next one_new) (Rd.made _ _ rfl (by first | rfl | simp)) (by have:=HL.out;simp;omega)).mono ?_;rintro e w6 ⟨rfl,p6,f6⟩
 replace BX:=Lib.hid (f6.keep hlt (box_next BX.out one_new) (by decide))
 replace FW:=Lib.hid ((FW.out.then one_new).trans f6)
 replace PW:=Lib.hid p6
 clear p6 f6
 clear x0 x1 x2 x3 x4 x5 x6 x7 x8 x9 x10
 obtain ⟨⟨⟨⟨x0,x1⟩,x2,x3⟩,⟨x4,x5⟩,x6,x7⟩,⟨x8,x9⟩,x10⟩:=cells11 BX.out
 go_wp2_with fail
 first | go_end0 | refine bodyPost_ret (results_none rfl _ _ _) rfl ?_
 exact ⟨rfl,by simpa only [List.append_assoc,List.cons_append,List.nil_append]using PW.out,FW.out⟩
theorem sput_raw (V U:Value)(T T2:List (List UInt8))(h0:Prt g (smV 3 nm tt cc n a b e p q r) 0 V w)(k0:Run 104 #[.pointer (some ⟨g,0,none⟩),V] g T w)(h1:Prt g (smV 3 nm tt cc n a b e p q r) 1 U w)(k1:Run 50 #[.pointer (some ⟨g,0,none⟩),U,nv 0] g T2 w):
  Run 114 #[.pointer (some ⟨g,0,none⟩),smV 3 nm tt cc n a b e p q r] g (tt::(T ++ [46]::cc::[61]::(T2 ++ [[59]]))) w:=by
 intro w' L hbw hpr hlim
 have hlt:=hpr.lt
 try simp only [List.length_cons,List.length_append,List.length_nil]at hlim
 have HL:=Lib.hid hlim
 have HW:=Lib.hid hbw
 clear hlim hbw
 have Hh0:=Lib.hid h0
 have Hk0:=Lib.hid k0
 have Hh1:=Lib.hid h1
 have Hk1:=Lib.hid k1
 clear h0 k0 h1 k1
 go_enter Tryz.func114,Tryz.ntmps114
 go_upto_region 1 with fail
 have BX:Hid ((w'.alloc (smO 3 nm tt cc n a b e p q r)).heap[w'.heap.size]? =some (smB 3 nm tt cc n a b e p q r)):=Lib.hid (alloc_at rfl)
 have PW:=Lib.hid (hpr.next (one_new (o:=smO 3 nm tt cc n a b e p q r)))
 have FW:Hid (PF g w' (w'.alloc (smO 3 nm tt cc n a b e p q r))):=Lib.hid (.of_below one_new)
 clear hpr
 obtain ⟨w1,hw1⟩: ∃W,w'.alloc (smO 3 nm tt cc n a b e p q r)=W:=⟨_,rfl⟩
 rw [hw1]at BX PW FW⊢
 clear hw1
 obtain ⟨⟨⟨⟨x0,x1⟩,x2,x3⟩,⟨x4,x5⟩,x6,x7⟩,⟨x8,x9⟩,x10⟩:=cells11 BX.out
 go_wp2_with fail
 refine (put_any g _ _ _ [tt] _ _ (PW.out.next one_new) (Rd.made _ _ rfl (by first | rfl | simp)) (by have:=HL.out;simp;omega)).mono ?_;rintro e w3 ⟨rfl,p3,f3⟩
 replace BX:=Lib.hid (f3.keep hlt (box_next BX.out one_new) (by decide))
 replace FW:=Lib.hid ((FW.out.then one_new).trans f3)
 replace PW:=Lib.hid p3
 clear p3 f3
 clear x0 x1 x2 x3 x4 x5 x6 x7 x8 x9 x10
 obtain ⟨⟨⟨⟨x0,x1⟩,x2,x3⟩,⟨x4,x5⟩,x6,x7⟩,⟨x8,x9⟩,x10⟩:=cells11 BX.out
 go_wp2_with fail
 refine (Hh0.out _ (HW.out.trans (FW.out.below (Nat.le_of_lt hlt)))).mono ?_;rintro e w4 ⟨rfl,b4⟩
 replace BX:=Lib.hid (box_next BX.out b4)
 replace PW:=Lib.hid (PW.out.next b4)
 replace FW:=Lib.hid (FW.out.then b4)
 clear b4
 clear x0 x1 x2 x3 x4 x5 x6 x7 x8 x9 x10
 obtain ⟨⟨⟨⟨x0,x1⟩,x2,x3⟩,⟨x4,x5⟩,x6,x7⟩,⟨x8,x9⟩,x10⟩:=cells11 BX.out
 go_wp2_with fail
 refine (Hk0.out _ _ (HW.out.trans (FW.out.below (Nat.le_of_lt hlt))) PW.out (by have:=HL.out;simp;omega)).mono ?_;rintro e w5 ⟨rfl,p5,f5⟩
 replace BX:=Lib.hid (f5.keep hlt BX.out (by decide))
 replace FW:=Lib.hid (FW.out.trans f5)
 replace PW:=Lib.hid p5
 clear p5 f5
 clear x0 x1 x2 x3 x4 x5 x6 x7 x8 x9 x10
 obtain ⟨⟨⟨⟨x0,x1⟩,x2,x3⟩,⟨x4,x5⟩,x6,x7⟩,⟨x8,x9⟩,x10⟩:=cells11 BX.out
 go_wp2_with fail
 refine (put_any g _ _ _ [[46],cc,[61]] _ _ (PW.out.next one_new) (Rd.made _ _ rfl (by first | rfl | simp)) (by have:=HL.out;simp;omega)).mono ?_;rintro e w6 ⟨rfl,p6,f6⟩
 replace BX:=Lib.hid (f6.keep hlt (box_next BX.out one_new) (by decide))
 replace FW:=Lib.hid ((FW.out.then one_new).trans f6)
 replace PW:=Lib.hid p6
 clear p6 f6
 clear x0 x1 x2 x3 x4 x5 x6 x7 x8 x9 x10
 obtain ⟨⟨⟨⟨x0,x1⟩,x2,x3⟩,⟨x4,x5⟩,x6,x7⟩,⟨x8,x9⟩,x10⟩:=cells11 BX.out
 go_wp2_with fail
 refine (Hh1.out _ (HW.out.trans (FW.out.below (Nat.le_of_lt hlt)))).mono ?_;rintro e w7 ⟨rfl,b7⟩
 replace BX:=Lib.hid (box_next BX.out b7)
 replace PW:=Lib.hid (PW.out.next b7)
 replace FW:=Lib.hid (FW.out.then b7)
 clear b7
 clear x0 x1 x2 x3 x4 x5 x6 x7 x8 x9 x10
 obtain ⟨⟨⟨⟨x0,x1⟩,x2,x3⟩,⟨x4,x5⟩,x6,x7⟩,⟨x8,x9⟩,x10⟩:=cells11 BX.out
 go_wp2_with fail
 refine (Hk1.out _ _ (HW.out.trans (FW.out.below (Nat.le_of_lt hlt))) PW.out (by have:=HL.out;simp;omega)).mono ?_;rintro e w8 ⟨rfl,p8,f8⟩
 replace BX:=Lib.hid (f8.keep hlt BX.out (by decide))
 replace FW:=Lib.hid (FW.out.trans f8)
 replace PW:=Lib.hid p8
 clear p8 f8
 clear x0 x1 x2 x3 x4 x5 x6 x7 x8 x9 x10
 obtain ⟨⟨⟨⟨x0,x1⟩,x2,x3⟩,⟨x4,x5⟩,x6,x7⟩,⟨x8,x9⟩,x10⟩:=cells11 BX.out
 go_wp2_with fail
 refine (put_any g _ _ _ [[59]] _ _ (PW.out.next one_new) (Rd.made _ _ rfl (by first | rfl | simp)) (by have:=HL.out;simp;omega)).mono ?_;rintro e w9 ⟨rfl,p9,f9⟩
 replace BX:=Lib.hid (f9.keep hlt (box_next BX.out one_new) (by decide))
 replace FW:=Lib.hid ((FW.out.then one_new).trans f9)
 replace PW:=Lib.hid p9
 clear p9 f9
 clear x0 x1 x2 x3 x4 x5 x6 x7 x8 x9 x10
 obtain ⟨⟨⟨⟨x0,x1⟩,x2,x3⟩,⟨x4,x5⟩,x6,x7⟩,⟨x8,x9⟩,x10⟩:=cells11 BX.out
 go_wp2_with fail
 first | go_end0 | refine bodyPost_ret (results_none rfl _ _ _) rfl ?_
 exact ⟨rfl,by simpa only [List.append_assoc,List.cons_append,List.nil_append]using PW.out,FW.out⟩
theorem sdel_raw (V:Value)(T:List (List UInt8))(h0:Prt g (smV 4 nm tt cc n a b e p q r) 0 V w)(k0:Run 104 #[.pointer (some ⟨g,0,none⟩),V] g T w):
  Run 114 #[.pointer (some ⟨g,0,none⟩),smV 4 nm tt cc n a b e p q r] g ([100,101,108]::tt::(T ++ [[59]])) w:=by
 intro w' L hbw hpr hlim
 have hlt:=hpr.lt
 try simp only [List.length_cons,List.length_append,List.length_nil]at hlim
 have HL:=Lib.hid hlim
 have HW:=Lib.hid hbw
 clear hlim hbw
 have Hh0:=Lib.hid h0
 have Hk0:=Lib.hid k0
 clear h0 k0
 go_enter Tryz.func114,Tryz.ntmps114
 go_upto_region 1 with fail
 have BX:Hid ((w'.alloc (smO 4 nm tt cc n a b e p q r)).heap[w'.heap.size]? =some (smB 4 nm tt cc n a b e p q r)):=Lib.hid (alloc_at rfl)
 have PW:=Lib.hid (hpr.next (one_new (o:=smO 4 nm tt cc n a b e p q r)))
 have FW:Hid (PF g w' (w'.alloc (smO 4 nm tt cc n a b e p q r))):=Lib.hid (.of_below one_new)
 clear hpr
 obtain ⟨w1,hw1⟩: ∃W,w'.alloc (smO 4 nm tt cc n a b e p q r)=W:=⟨_,rfl⟩
 rw [hw1]at BX PW FW⊢
 clear hw1
 obtain ⟨⟨⟨⟨x0,x1⟩,x2,x3⟩,⟨x4,x5⟩,x6,x7⟩,⟨x8,x9⟩,x10⟩:=cells11 BX.out
 go_wp2_with fail
 refine (put_any g _ _ _ [[100,101,108],tt] _ _ (PW.out.next one_new) (Rd.made _ _ rfl (by first | rfl | simp)) (by have:=HL.out;simp;omega)).mono ?_;rintro e w3 ⟨rfl,p3,f3⟩
 replace BX:=Lib.hid (f3.keep hlt (box_next BX.out one_new) (by decide))
 replace FW:=Lib.hid ((FW.out.then one_new).trans f3)
 replace PW:=Lib.hid p3
 clear p3 f3
 clear x0 x1 x2 x3 x4 x5 x6 x7 x8 x9 x10
 obtain ⟨⟨⟨⟨x0,x1⟩,x2,x3⟩,⟨x4,x5⟩,x6,x7⟩,⟨x8,x9⟩,x10⟩:=cells11 BX.out
 go_wp2_with fail
 refine (Hh0.out _ (HW.out.trans (FW.out.below (Nat.le_of_lt hlt)))).mono ?_;rintro e w4 ⟨rfl,b4⟩
 replace BX:=Lib.hid (box_next BX.out b4)
 replace PW:=Lib.hid (PW.out.next b4)
 replace FW:=Lib.hid (FW.out.then b4)
 clear b4
 clear x0 x1 x2 x3 x4 x5 x6 x7 x8 x9 x10
 obtain ⟨⟨⟨⟨x0,x1⟩,x2,x3⟩,⟨x4,x5⟩,x6,x7⟩,⟨x8,x9⟩,x10⟩:=cells11 BX.out
 go_wp2_with fail
 refine (Hk0.out _ _ (HW.out.trans (FW.out.below (Nat.le_of_lt hlt))) PW.out (by have:=HL.out;simp;omega)).mono ?_;rintro e w5 ⟨rfl,p5,f5⟩
 replace BX:=Lib.hid (f5.keep hlt BX.out (by decide))
 replace FW:=Lib.hid (FW.out.trans f5)
 replace PW:=Lib.hid p5
 clear p5 f5
 clear x0 x1 x2 x3 x4 x5 x6 x7 x8 x9 x10
 obtain ⟨⟨⟨⟨x0,x1⟩,x2,x3⟩,⟨x4,x5⟩,x6,x7⟩,⟨x8,x9⟩,x10⟩:=cells11 BX.out
 go_wp2_with fail
 refine (put_any g _ _ _ [[59]] _ _ (PW.out.next one_new) (Rd.made _ _ rfl (by first | rfl | simp)) (by have:=HL.out;simp;omega)).mono ?_;rintro e w6 ⟨rfl,p6,f6⟩
 replace BX:=Lib.hid (f6.keep hlt (box_next BX.out one_new) (by decide))
 replace FW:=Lib.hid ((FW.out.then one_new).trans f6)
 replace PW:=Lib.hid p6
 clear p6 f6
 clear x0 x1 x2 x3 x4 x5 x6 x7 x8 x9 x10
 obtain ⟨⟨⟨⟨x0,x1⟩,x2,x3⟩,⟨x4,x5⟩,x6,x7⟩,⟨x8,x9⟩,x10⟩:=cells11 BX.out
 go_wp2_with fail
 first | go_end0 | refine bodyPost_ret (results_none rfl _ _ _) rfl ?_
 exact ⟨rfl,by simpa only [List.append_assoc,List.cons_append,List.nil_append]using PW.out,FW.out⟩
theorem sroll_raw:
  Run 114 #[.pointer (some ⟨g,0,none⟩),smV 8 nm tt cc n a b e p q r] g ([[114,111,108,108,98,97,99,107],[59]]) w:=by
 intro w' L hbw hpr hlim
 have hlt:=hpr.lt
 try simp only [List.length_cons,List.length_append,List.length_nil]at hlim
 have HL:=Lib.hid hlim
 have HW:=Lib.hid hbw
 clear hlim hbw
 go_enter Tryz.func114,Tryz.ntmps114
 go_upto_region 1 with fail
 have BX:Hid ((w'.alloc (smO 8 nm tt cc n a b e p q r)).heap[w'.heap.size]? =some (smB 8 nm tt cc n a b e p q r)):=Lib.hid (alloc_at rfl)
 have PW:=Lib.hid (hpr.next (one_new (o:=smO 8 nm tt cc n a b e p q r)))
 have FW:Hid (PF g w' (w'.alloc (smO 8 nm tt cc n a b e p q r))):=Lib.hid (.of_below one_new)
 clear hpr
 obtain ⟨w1,hw1⟩: ∃W,w'.alloc (smO 8 nm tt cc n a b e p q r)=W:=⟨_,rfl⟩
 rw [hw1]at BX PW FW⊢
 clear hw1
 obtain ⟨⟨⟨⟨x0,x1⟩,x2,x3⟩,⟨x4,x5⟩,x6,x7⟩,⟨x8,x9⟩,x10⟩:=cells11 BX.out
 go_wp2_with fail
 refine (put_any g _ _ _ [[114,111,108,108,98,97,99,107]] _ _ (PW.out.next one_new) (Rd.made _ _ rfl (by first | rfl | simp)) (by have:=HL.out;simp;omega)).mono ?_;rintro e w3 ⟨rfl,p3,f3⟩
 replace BX:=Lib.hid (f3.keep hlt (box_next BX.out one_new) (by decide))
 replace FW:=Lib.hid ((FW.out.then one_new).trans f3)
 replace PW:=Lib.hid p3
 clear p3 f3
 clear x0 x1 x2 x3 x4 x5 x6 x7 x8 x9 x10
 obtain ⟨⟨⟨⟨x0,x1⟩,x2,x3⟩,⟨x4,x5⟩,x6,x7⟩,⟨x8,x9⟩,x10⟩:=cells11 BX.out
 go_wp2_with fail
 refine (put_any g _ _ _ [[59]] _ _ (PW.out.next one_new) (Rd.made _ _ rfl (by first | rfl | simp)) (by have:=HL.out;simp;omega)).mono ?_;rintro e w4 ⟨rfl,p4,f4⟩
 replace BX:=Lib.hid (f4.keep hlt (box_next BX.out one_new) (by decide))
 replace FW:=Lib.hid ((FW.out.then one_new).trans f4)
 replace PW:=Lib.hid p4
 clear p4 f4
 clear x0 x1 x2 x3 x4 x5 x6 x7 x8 x9 x10
 obtain ⟨⟨⟨⟨x0,x1⟩,x2,x3⟩,⟨x4,x5⟩,x6,x7⟩,⟨x8,x9⟩,x10⟩:=cells11 BX.out
 go_wp2_with fail
 first | go_end0 | refine bodyPost_ret (results_none rfl _ _ _) rfl ?_
 exact ⟨rfl,by simpa only [List.append_assoc,List.cons_append,List.nil_append]using PW.out,FW.out⟩
theorem semit_raw (V:Value)(T:List (List UInt8))(h0:Prt g (smV 9 nm tt cc n a b e p q r) 0 V w)(k0:Run 50 #[.pointer (some ⟨g,0,none⟩),V,nv 0] g T w):
  Run 114 #[.pointer (some ⟨g,0,none⟩),smV 9 nm tt cc n a b e p q r] g ([101,109,105,116]::(T ++ [[59]])) w:=by
 intro w' L hbw hpr hlim
 have hlt:=hpr.lt
 try simp only [List.length_cons,List.length_append,List.length_nil]at hlim
 have HL:=Lib.hid hlim
 have HW:=Lib.hid hbw
 clear hlim hbw
 have Hh0:=Lib.hid h0
 have Hk0:=Lib.hid k0
 clear h0 k0
 go_enter Tryz.func114,Tryz.ntmps114
 go_upto_region 1 with fail
 have BX:Hid ((w'.alloc (smO 9 nm tt cc n a b e p q r)).heap[w'.heap.size]? =some (smB 9 nm tt cc n a b e p q r)):=Lib.hid (alloc_at rfl)
 have PW:=Lib.hid (hpr.next (one_new (o:=smO 9 nm tt cc n a b e p q r)))
 have FW:Hid (PF g w' (w'.alloc (smO 9 nm tt cc n a b e p q r))):=Lib.hid (.of_below one_new)
 clear hpr
 obtain ⟨w1,hw1⟩: ∃W,w'.alloc (smO 9 nm tt cc n a b e p q r)=W:=⟨_,rfl⟩
 rw [hw1]at BX PW FW⊢
 clear hw1
 obtain ⟨⟨⟨⟨x0,x1⟩,x2,x3⟩,⟨x4,x5⟩,x6,x7⟩,⟨x8,x9⟩,x10⟩:=cells11 BX.out
 go_wp2_with fail
 refine (put_any g _ _ _ [[101,109,105,116]] _ _ (PW.out.next one_new) (Rd.made _ _ rfl (by first | rfl | simp)) (by have:=HL.out;simp;omega)).mono ?_;rintro e w3 ⟨rfl,p3,f3⟩
 replace BX:=Lib.hid (f3.keep hlt (box_next BX.out one_new) (by decide))
 replace FW:=Lib.hid ((FW.out.then one_new).trans f3)
 replace PW:=Lib.hid p3
 clear p3 f3
 clear x0 x1 x2 x3 x4 x5 x6 x7 x8 x9 x10
 obtain ⟨⟨⟨⟨x0,x1⟩,x2,x3⟩,⟨x4,x5⟩,x6,x7⟩,⟨x8,x9⟩,x10⟩:=cells11 BX.out
 go_wp2_with fail
 refine (Hh0.out _ (HW.out.trans (FW.out.below (Nat.le_of_lt hlt)))).mono ?_;rintro e w4 ⟨rfl,b4⟩
 replace BX:=Lib.hid (box_next BX.out b4)
 replace PW:=Lib.hid (PW.out.next b4)
 replace FW:=Lib.hid (FW.out.then b4)
 clear b4
 clear x0 x1 x2 x3 x4 x5 x6 x7 x8 x9 x10
 obtain ⟨⟨⟨⟨x0,x1⟩,x2,x3⟩,⟨x4,x5⟩,x6,x7⟩,⟨x8,x9⟩,x10⟩:=cells11 BX.out
 go_wp2_with fail
 refine (Hk0.out _ _ (HW.out.trans (FW.out.below (Nat.le_of_lt hlt))) PW.out (by have:=HL.out;simp;omega)).mono ?_;rintro e w5 ⟨rfl,p5,f5⟩
 replace BX:=Lib.hid (f5.keep hlt BX.out (by decide))
 replace FW:=Lib.hid (FW.out.trans f5)
 replace PW:=Lib.hid p5
 clear p5 f5
 clear x0 x1 x2 x3 x4 x5 x6 x7 x8 x9 x10
 obtain ⟨⟨⟨⟨x0,x1⟩,x2,x3⟩,⟨x4,x5⟩,x6,x7⟩,⟨x8,x9⟩,x10⟩:=cells11 BX.out
 go_wp2_with fail
 refine (put_any g _ _ _ [[59]] _ _ (PW.out.next one_new) (Rd.made _ _ rfl (by first | rfl | simp)) (by have:=HL.out;simp;omega)).mono ?_;rintro e w6 ⟨rfl,p6,f6⟩
 replace BX:=Lib.hid (f6.keep hlt (box_next BX.out one_new) (by decide))
 replace FW:=Lib.hid ((FW.out.then one_new).trans f6)
 replace PW:=Lib.hid p6
 clear p6 f6
 clear x0 x1 x2 x3 x4 x5 x6 x7 x8 x9 x10
 obtain ⟨⟨⟨⟨x0,x1⟩,x2,x3⟩,⟨x4,x5⟩,x6,x7⟩,⟨x8,x9⟩,x10⟩:=cells11 BX.out
 go_wp2_with fail
 first | go_end0 | refine bodyPost_ret (results_none rfl _ _ _) rfl ?_
 exact ⟨rfl,by simpa only [List.append_assoc,List.cons_append,List.nil_append]using PW.out,FW.out⟩
theorem snest5_raw (T:List (List UInt8))(k0:Run 147 #[.pointer (some ⟨g,0,none⟩),smV 5 nm tt cc n a b e p q r] g T w):
  Run 114 #[.pointer (some ⟨g,0,none⟩),smV 5 nm tt cc n a b e p q r] g (T) w:=by
 intro w' L hbw hpr hlim
 have hlt:=hpr.lt
 try simp only [List.length_cons,List.length_append,List.length_nil]at hlim
 have HL:=Lib.hid hlim
 have HW:=Lib.hid hbw
 clear hlim hbw
 have Hk0:=Lib.hid k0
 clear k0
 go_enter Tryz.func114,Tryz.ntmps114
 go_upto_region 1 with fail
 have BX:Hid ((w'.alloc (smO 5 nm tt cc n a b e p q r)).heap[w'.heap.size]? =some (smB 5 nm tt cc n a b e p q r)):=Lib.hid (alloc_at rfl)
 have PW:=Lib.hid (hpr.next (one_new (o:=smO 5 nm tt cc n a b e p q r)))
 have FW:Hid (PF g w' (w'.alloc (smO 5 nm tt cc n a b e p q r))):=Lib.hid (.of_below one_new)
 clear hpr
 obtain ⟨w1,hw1⟩: ∃W,w'.alloc (smO 5 nm tt cc n a b e p q r)=W:=⟨_,rfl⟩
 rw [hw1]at BX PW FW⊢
 clear hw1
 obtain ⟨⟨⟨⟨x0,x1⟩,x2,x3⟩,⟨x4,x5⟩,x6,x7⟩,⟨x8,x9⟩,x10⟩:=cells11 BX.out
 go_wp2_with fail
 refine (Hk0.out _ _ (HW.out.trans (FW.out.below (Nat.le_of_lt hlt))) PW.out (by have:=HL.out;simp;omega)).mono ?_;rintro e w3 ⟨rfl,p3,f3⟩
 replace BX:=Lib.hid (f3.keep hlt BX.out (by decide))
 replace FW:=Lib.hid (FW.out.trans f3)
 replace PW:=Lib.hid p3
 clear p3 f3
 clear x0 x1 x2 x3 x4 x5 x6 x7 x8 x9 x10
 obtain ⟨⟨⟨⟨x0,x1⟩,x2,x3⟩,⟨x4,x5⟩,x6,x7⟩,⟨x8,x9⟩,x10⟩:=cells11 BX.out
 go_wp2_with fail
 first | go_end0 | refine bodyPost_ret (results_none rfl _ _ _) rfl ?_
 exact ⟨rfl,by simpa only [List.append_assoc,List.cons_append,List.nil_append]using PW.out,FW.out⟩
theorem snest6_raw (T:List (List UInt8))(k0:Run 147 #[.pointer (some ⟨g,0,none⟩),smV 6 nm tt cc n a b e p q r] g T w):
  Run 114 #[.pointer (some ⟨g,0,none⟩),smV 6 nm tt cc n a b e p q r] g (T) w:=by
 intro w' L hbw hpr hlim
 have hlt:=hpr.lt
 try simp only [List.length_cons,List.length_append,List.length_nil]at hlim
 have HL:=Lib.hid hlim
 have HW:=Lib.hid hbw
 clear hlim hbw
 have Hk0:=Lib.hid k0
 clear k0
 go_enter Tryz.func114,Tryz.ntmps114
 go_upto_region 1 with fail
 have BX:Hid ((w'.alloc (smO 6 nm tt cc n a b e p q r)).heap[w'.heap.size]? =some (smB 6 nm tt cc n a b e p q r)):=Lib.hid (alloc_at rfl)
 have PW:=Lib.hid (hpr.next (one_new (o:=smO 6 nm tt cc n a b e p q r)))
 have FW:Hid (PF g w' (w'.alloc (smO 6 nm tt cc n a b e p q r))):=Lib.hid (.of_below one_new)
 clear hpr
 obtain ⟨w1,hw1⟩: ∃W,w'.alloc (smO 6 nm tt cc n a b e p q r)=W:=⟨_,rfl⟩
 rw [hw1]at BX PW FW⊢
 clear hw1
 obtain ⟨⟨⟨⟨x0,x1⟩,x2,x3⟩,⟨x4,x5⟩,x6,x7⟩,⟨x8,x9⟩,x10⟩:=cells11 BX.out
 go_wp2_with fail
 refine (Hk0.out _ _ (HW.out.trans (FW.out.below (Nat.le_of_lt hlt))) PW.out (by have:=HL.out;simp;omega)).mono ?_;rintro e w3 ⟨rfl,p3,f3⟩
 replace BX:=Lib.hid (f3.keep hlt BX.out (by decide))
 replace FW:=Lib.hid (FW.out.trans f3)
 replace PW:=Lib.hid p3
 clear p3 f3
 clear x0 x1 x2 x3 x4 x5 x6 x7 x8 x9 x10
 obtain ⟨⟨⟨⟨x0,x1⟩,x2,x3⟩,⟨x4,x5⟩,x6,x7⟩,⟨x8,x9⟩,x10⟩:=cells11 BX.out
 go_wp2_with fail
 first | go_end0 | refine bodyPost_ret (results_none rfl _ _ _) rfl ?_
 exact ⟨rfl,by simpa only [List.append_assoc,List.cons_append,List.nil_append]using PW.out,FW.out⟩
theorem snest7_raw (T:List (List UInt8))(k0:Run 147 #[.pointer (some ⟨g,0,none⟩),smV 7 nm tt cc n a b e p q r] g T w):
  Run 114 #[.pointer (some ⟨g,0,none⟩),smV 7 nm tt cc n a b e p q r] g (T) w:=by
 intro w' L hbw hpr hlim
 have hlt:=hpr.lt
 try simp only [List.length_cons,List.length_append,List.length_nil]at hlim
 have HL:=Lib.hid hlim
 have HW:=Lib.hid hbw
 clear hlim hbw
 have Hk0:=Lib.hid k0
 clear k0
 go_enter Tryz.func114,Tryz.ntmps114
 go_upto_region 1 with fail
 have BX:Hid ((w'.alloc (smO 7 nm tt cc n a b e p q r)).heap[w'.heap.size]? =some (smB 7 nm tt cc n a b e p q r)):=Lib.hid (alloc_at rfl)
 have PW:=Lib.hid (hpr.next (one_new (o:=smO 7 nm tt cc n a b e p q r)))
 have FW:Hid (PF g w' (w'.alloc (smO 7 nm tt cc n a b e p q r))):=Lib.hid (.of_below one_new)
 clear hpr
 obtain ⟨w1,hw1⟩: ∃W,w'.alloc (smO 7 nm tt cc n a b e p q r)=W:=⟨_,rfl⟩
 rw [hw1]at BX PW FW⊢
 clear hw1
 obtain ⟨⟨⟨⟨x0,x1⟩,x2,x3⟩,⟨x4,x5⟩,x6,x7⟩,⟨x8,x9⟩,x10⟩:=cells11 BX.out
 go_wp2_with fail
 refine (Hk0.out _ _ (HW.out.trans (FW.out.below (Nat.le_of_lt hlt))) PW.out (by have:=HL.out;simp;omega)).mono ?_;rintro e w3 ⟨rfl,p3,f3⟩
 replace BX:=Lib.hid (f3.keep hlt BX.out (by decide))
 replace FW:=Lib.hid (FW.out.trans f3)
 replace PW:=Lib.hid p3
 clear p3 f3
 clear x0 x1 x2 x3 x4 x5 x6 x7 x8 x9 x10
 obtain ⟨⟨⟨⟨x0,x1⟩,x2,x3⟩,⟨x4,x5⟩,x6,x7⟩,⟨x8,x9⟩,x10⟩:=cells11 BX.out
 go_wp2_with fail
 first | go_end0 | refine bodyPost_ret (results_none rfl _ _ _) rfl ?_
 exact ⟨rfl,by simpa only [List.append_assoc,List.cons_append,List.nil_append]using PW.out,FW.out⟩
theorem nif0_raw (E1:Option Addr)(f1:Nat)(V:Value)(T T2:List (List UInt8))(h0:Prt g (smV 5 nm tt cc n a b (.slice E1 0 f1) p q r) 0 V w)(k0:Run 50 #[.pointer (some ⟨g,0,none⟩),V,nv 0] g T w)(k1:Run 55 #[.pointer (some ⟨g,0,none⟩),b] g T2 w):
  Run 147 #[.pointer (some ⟨g,0,none⟩),smV 5 nm tt cc n a b (.slice E1 0 f1) p q r] g ([105,102]::(T ++T2)) w:=by
 intro w' L hbw hpr hlim
 have hlt:=hpr.lt
 try simp only [List.length_cons,List.length_append,List.length_nil]at hlim
 have HL:=Lib.hid hlim
 have HW:=Lib.hid hbw
 clear hlim hbw
 have Hh0:=Lib.hid h0
 have Hk0:=Lib.hid k0
 have Hk1:=Lib.hid k1
 clear h0 k0 k1
 go_enter Tryz.func147,Tryz.ntmps147
 go_upto_region 1 with fail
 have BX:Hid ((w'.alloc (smO 5 nm tt cc n a b (.slice E1 0 f1) p q r)).heap[w'.heap.size]? =some (smB 5 nm tt cc n a b (.slice E1 0 f1) p q r)):=Lib.hid (alloc_at rfl)
 have PW:=Lib.hid (hpr.next (one_new (o:=smO 5 nm tt cc n a b (.slice E1 0 f1) p q r)))
 have FW:Hid (PF g w' (w'.alloc (smO 5 nm tt cc n a b (.slice E1 0 f1) p q r))):=Lib.hid (.of_below one_new)
 clear hpr
 obtain ⟨w1,hw1⟩: ∃W,w'.alloc (smO 5 nm tt cc n a b (.slice E1 0 f1) p q r)=W:=⟨_,rfl⟩
 rw [hw1]at BX PW FW⊢
 clear hw1
 obtain ⟨⟨⟨⟨x0,x1⟩,x2,x3⟩,⟨x4,x5⟩,x6,x7⟩,⟨x8,x9⟩,x10⟩:=cells11 BX.out
 go_wp2_with fail
 refine (put_any g _ _ _ [[105,102]] _ _ (PW.out.next one_new) (Rd.made _ _ rfl (by first | rfl | simp)) (by have:=HL.out;simp;omega)).mono ?_;rintro e w3 ⟨rfl,p3,f3⟩
 replace BX:=Lib.hid (f3.keep hlt (box_next BX.out one_new) (by decide))
 replace FW:=Lib.hid ((FW.out.then one_new).trans f3)
 replace PW:=Lib.hid p3
 clear p3 f3
 clear x0 x1 x2 x3 x4 x5 x6 x7 x8 x9 x10
 obtain ⟨⟨⟨⟨x0,x1⟩,x2,x3⟩,⟨x4,x5⟩,x6,x7⟩,⟨x8,x9⟩,x10⟩:=cells11 BX.out
 go_wp2_with fail
 refine (Hh0.out _ (HW.out.trans (FW.out.below (Nat.le_of_lt hlt)))).mono ?_;rintro e w4 ⟨rfl,b4⟩
 replace BX:=Lib.hid (box_next BX.out b4)
 replace PW:=Lib.hid (PW.out.next b4)
 replace FW:=Lib.hid (FW.out.then b4)
 clear b4
 clear x0 x1 x2 x3 x4 x5 x6 x7 x8 x9 x10
 obtain ⟨⟨⟨⟨x0,x1⟩,x2,x3⟩,⟨x4,x5⟩,x6,x7⟩,⟨x8,x9⟩,x10⟩:=cells11 BX.out
 go_wp2_with fail
 refine (Hk0.out _ _ (HW.out.trans (FW.out.below (Nat.le_of_lt hlt))) PW.out (by have:=HL.out;simp;omega)).mono ?_;rintro e w5 ⟨rfl,p5,f5⟩
 replace BX:=Lib.hid (f5.keep hlt BX.out (by decide))
 replace FW:=Lib.hid (FW.out.trans f5)
 replace PW:=Lib.hid p5
 clear p5 f5
 clear x0 x1 x2 x3 x4 x5 x6 x7 x8 x9 x10
 obtain ⟨⟨⟨⟨x0,x1⟩,x2,x3⟩,⟨x4,x5⟩,x6,x7⟩,⟨x8,x9⟩,x10⟩:=cells11 BX.out
 go_wp2_with fail
 refine (Hk1.out _ _ (HW.out.trans (FW.out.below (Nat.le_of_lt hlt))) PW.out (by have:=HL.out;simp;omega)).mono ?_;rintro e w6 ⟨rfl,p6,f6⟩
 replace BX:=Lib.hid (f6.keep hlt BX.out (by decide))
 replace FW:=Lib.hid (FW.out.trans f6)
 replace PW:=Lib.hid p6
 clear p6 f6
 clear x0 x1 x2 x3 x4 x5 x6 x7 x8 x9 x10
 obtain ⟨⟨⟨⟨x0,x1⟩,x2,x3⟩,⟨x4,x5⟩,x6,x7⟩,⟨x8,x9⟩,x10⟩:=cells11 BX.out
 go_wp2_with fail
 first | go_end0 | refine bodyPost_ret (results_none rfl _ _ _) rfl ?_
 exact ⟨rfl,by simpa only [List.append_assoc,List.cons_append,List.nil_append]using PW.out,FW.out⟩
theorem nif1_raw (E1:Option Addr)(me f1:Nat)(hme:0 < me)(V:Value)(T T2 T3:List (List UInt8))(h0:Prt g (smV 5 nm tt cc n a b (.slice E1 me f1) p q r) 0 V w)(k0:Run 50 #[.pointer (some ⟨g,0,none⟩),V,nv 0] g T w)(k1:Run 55 #[.pointer (some ⟨g,0,none⟩),b] g T2 w)(k2:Run 55 #[.pointer (some ⟨g,0,none⟩),(.slice E1 me f1)] g T3 w):
  Run 147 #[.pointer (some ⟨g,0,none⟩),smV 5 nm tt cc n a b (.slice E1 me f1) p q r] g ([105,102]::(T ++(T2 ++ [101,108,115,101]::T3))) w:=by
 have hmi:(0:Int) < (me:Int):=by omega
 intro w' L hbw hpr hlim
 have hlt:=hpr.lt
 try simp only [List.length_cons,List.length_append,List.length_nil]at hlim
 have HL:=Lib.hid hlim
 have HW:=Lib.hid hbw
 clear hlim hbw
 have Hh0:=Lib.hid h0
 have Hk0:=Lib.hid k0
 have Hk1:=Lib.hid k1
 have Hk2:=Lib.hid k2
 clear h0 k0 k1 k2
 go_enter Tryz.func147,Tryz.ntmps147
 go_upto_region 1 with fail
 have BX:Hid ((w'.alloc (smO 5 nm tt cc n a b (.slice E1 me f1) p q r)).heap[w'.heap.size]? =some (smB 5 nm tt cc n a b (.slice E1 me f1) p q r)):=Lib.hid (alloc_at rfl)
 have PW:=Lib.hid (hpr.next (one_new (o:=smO 5 nm tt cc n a b (.slice E1 me f1) p q r)))
 have FW:Hid (PF g w' (w'.alloc (smO 5 nm tt cc n a b (.slice E1 me f1) p q r))):=Lib.hid (.of_below one_new)
 clear hpr
 obtain ⟨w1,hw1⟩: ∃W,w'.alloc (smO 5 nm tt cc n a b (.slice E1 me f1) p q r)=W:=⟨_,rfl⟩
 rw [hw1]at BX PW FW⊢
 clear hw1
 obtain ⟨⟨⟨⟨x0,x1⟩,x2,x3⟩,⟨x4,x5⟩,x6,x7⟩,⟨x8,x9⟩,x10⟩:=cells11 BX.out
 go_wp2_with fail
 refine (put_any g _ _ _ [[105,102]] _ _ (PW.out.next one_new) (Rd.made _ _ rfl (by first | rfl | simp)) (by have:=HL.out;simp;omega)).mono ?_;rintro e w3 ⟨rfl,p3,f3⟩
 replace BX:=Lib.hid (f3.keep hlt (box_next BX.out one_new) (by decide))
 replace FW:=Lib.hid ((FW.out.then one_new).trans f3)
 replace PW:=Lib.hid p3
 clear p3 f3
 clear x0 x1 x2 x3 x4 x5 x6 x7 x8 x9 x10
 obtain ⟨⟨⟨⟨x0,x1⟩,x2,x3⟩,⟨x4,x5⟩,x6,x7⟩,⟨x8,x9⟩,x10⟩:=cells11 BX.out
 go_wp2_with fail
 refine (Hh0.out _ (HW.out.trans (FW.out.below (Nat.le_of_lt hlt)))).mono ?_;rintro e w4 ⟨rfl,b4⟩
 replace BX:=Lib.hid (box_next BX.out b4)
 replace PW:=Lib.hid (PW.out.next b4)
 replace FW:=Lib.hid (FW.out.then b4)
 clear b4
 clear x0 x1 x2 x3 x4 x5 x6 x7 x8 x9 x10
 obtain ⟨⟨⟨⟨x0,x1⟩,x2,x3⟩,⟨x4,x5⟩,x6,x7⟩,⟨x8,x9⟩,x10⟩:=cells11 BX.out
 go_wp2_with fail
 refine (Hk0.out _ _ (HW.out.trans (FW.out.below (Nat.le_of_lt hlt))) PW.out (by have:=HL.out;simp;omega)).mono ?_;rintro e w5 ⟨rfl,p5,f5⟩
 replace BX:=Lib.hid (f5.keep hlt BX.out (by decide))
 replace FW:=Lib.hid (FW.out.trans f5)
 replace PW:=Lib.hid p5
 clear p5 f5
 clear x0 x1 x2 x3 x4 x5 x6 x7 x8 x9 x10
 obtain ⟨⟨⟨⟨x0,x1⟩,x2,x3⟩,⟨x4,x5⟩,x6,x7⟩,⟨x8,x9⟩,x10⟩:=cells11 BX.out
 go_wp2_with fail
 refine (Hk1.out _ _ (HW.out.trans (FW.out.below (Nat.le_of_lt hlt))) PW.out (by have:=HL.out;simp;omega)).mono ?_;rintro e w6 ⟨rfl,p6,f6⟩
 replace BX:=Lib.hid (f6.keep hlt BX.out (by decide))
 replace FW:=Lib.hid (FW.out.trans f6)
 replace PW:=Lib.hid p6
 clear p6 f6
 clear x0 x1 x2 x3 x4 x5 x6 x7 x8 x9 x10
 obtain ⟨⟨⟨⟨x0,x1⟩,x2,x3⟩,⟨x4,x5⟩,x6,x7⟩,⟨x8,x9⟩,x10⟩:=cells11 BX.out
 go_wp2_with fail
 refine (put_any g _ _ _ [[101,108,115,101]] _ _ (PW.out.next one_new) (Rd.made _ _ rfl (by first | rfl | simp)) (by have:=HL.out;simp;omega)).mono ?_;rintro e w7 ⟨rfl,p7,f7⟩
 replace BX:=Lib.hid (f7.keep hlt (box_next BX.out one_new) (by decide))
 replace FW:=Lib.hid ((FW.out.then one_new).trans f7)
 replace PW:=Lib.hid p7
 clear p7 f7
 clear x0 x1 x2 x3 x4 x5 x6 x7 x8 x9 x10
 obtain ⟨⟨⟨⟨x0,x1⟩,x2,x3⟩,⟨x4,x5⟩,x6,x7⟩,⟨x8,x9⟩,x10⟩:=cells11 BX.out
 go_wp2_with fail
 refine (Hk2.out _ _ (HW.out.trans (FW.out.below (Nat.le_of_lt hlt))) PW.out (by have:=HL.out;simp;omega)).mono ?_;rintro e w8 ⟨rfl,p8,f8⟩
 replace BX:=Lib.hid (f8.keep hlt BX.out (by decide))
 replace FW:=Lib.hid (FW.out.trans f8)
 replace PW:=Lib.hid p8
 clear p8 f8
 clear x0 x1 x2 x3 x4 x5 x6 x7 x8 x9 x10
 obtain ⟨⟨⟨⟨x0,x1⟩,x2,x3⟩,⟨x4,x5⟩,x6,x7⟩,⟨x8,x9⟩,x10⟩:=cells11 BX.out
 go_wp2_with fail
 first | go_end0 | refine bodyPost_ret (results_none rfl _ _ _) rfl ?_
 exact ⟨rfl,by simpa only [List.append_assoc,List.cons_append,List.nil_append]using PW.out,FW.out⟩
theorem nloop_raw (T2:List (List UInt8))(k0:Run 20 #[.pointer (some ⟨g,0,none⟩),nv n] g [decL n] w)(k1:Run 55 #[.pointer (some ⟨g,0,none⟩),b] g T2 w):
  Run 147 #[.pointer (some ⟨g,0,none⟩),smV 6 nm tt cc n a b e p q r] g ([108,111,111,112]::decL n::nm::T2) w:=by
 intro w' L hbw hpr hlim
 have hlt:=hpr.lt
 try simp only [List.length_cons,List.length_append,List.length_nil]at hlim
 have HL:=Lib.hid hlim
 have HW:=Lib.hid hbw
 clear hlim hbw
 have Hk0:=Lib.hid k0
 have Hk1:=Lib.hid k1
 clear k0 k1
 go_enter Tryz.func147,Tryz.ntmps147
 go_upto_region 1 with fail
 have BX:Hid ((w'.alloc (smO 6 nm tt cc n a b e p q r)).heap[w'.heap.size]? =some (smB 6 nm tt cc n a b e p q r)):=Lib.hid (alloc_at rfl)
 have PW:=Lib.hid (hpr.next (one_new (o:=smO 6 nm tt cc n a b e p q r)))
 have FW:Hid (PF g w' (w'.alloc (smO 6 nm tt cc n a b e p q r))):=Lib.hid (.of_below one_new)
 clear hpr
 obtain ⟨w1,hw1⟩: ∃W,w'.alloc (smO 6 nm tt cc n a b e p q r)=W:=⟨_,rfl⟩
 rw [hw1]at BX PW FW⊢
 clear hw1
 obtain ⟨⟨⟨⟨x0,x1⟩,x2,x3⟩,⟨x4,x5⟩,x6,x7⟩,⟨x8,x9⟩,x10⟩:=cells11 BX.out
 go_wp2_with fail
 refine (put_any g _ _ _ [[108,111,111,112]] _ _ (PW.out.next one_new) (Rd.made _ _ rfl (by first | rfl | simp)) (by have:=HL.out;simp;omega)).mono ?_;rintro e w3 ⟨rfl,p3,f3⟩
 replace BX:=Lib.hid (f3.keep hlt (box_next BX.out one_new) (by decide))
 replace FW:=Lib.hid ((FW.out.then one_new).trans f3)
 replace PW:=Lib.hid p3
 clear p3 f3
 clear x0 x1 x2 x3 x4 x5 x6 x7 x8 x9 x10
 obtain ⟨⟨⟨⟨x0,x1⟩,x2,x3⟩,⟨x4,x5⟩,x6,x7⟩,⟨x8,x9⟩,x10⟩:=cells11 BX.out
 go_wp2_with fail
 refine (Hk0.out _ _ (HW.out.trans (FW.out.below (Nat.le_of_lt hlt))) PW.out (by have:=HL.out;simp;omega)).mono ?_;rintro e w4 ⟨rfl,p4,f4⟩
 replace BX:=Lib.hid (f4.keep hlt BX.out (by decide))
 replace FW:=Lib.hid (FW.out.trans f4)
 replace PW:=Lib.hid p4
 clear p4 f4
 clear x0 x1 x2 x3 x4 x5 x6 x7 x8 x9 x10
 obtain ⟨⟨⟨⟨x0,x1⟩,x2,x3⟩,⟨x4,x5⟩,x6,x7⟩,⟨x8,x9⟩,x10⟩:=cells11 BX.out
 go_wp2_with fail
 refine (put_any g _ _ _ [nm] _ _ (PW.out.next one_new) (Rd.made _ _ rfl (by first | rfl | simp)) (by have:=HL.out;simp;omega)).mono ?_;rintro e w5 ⟨rfl,p5,f5⟩
 replace BX:=Lib.hid (f5.keep hlt (box_next BX.out one_new) (by decide))
 replace FW:=Lib.hid ((FW.out.then one_new).trans f5)
 replace PW:=Lib.hid p5
 clear p5 f5
 clear x0 x1 x2 x3 x4 x5 x6 x7 x8 x9 x10
 obtain ⟨⟨⟨⟨x0,x1⟩,x2,x3⟩,⟨x4,x5⟩,x6,x7⟩,⟨x8,x9⟩,x10⟩:=cells11 BX.out
 go_wp2_with fail
 refine (Hk1.out _ _ (HW.out.trans (FW.out.below (Nat.le_of_lt hlt))) PW.out (by have:=HL.out;simp;omega)).mono ?_;rintro e w6 ⟨rfl,p6,f6⟩
 replace BX:=Lib.hid (f6.keep hlt BX.out (by decide))
 replace FW:=Lib.hid (FW.out.trans f6)
 replace PW:=Lib.hid p6
 clear p6 f6
 clear x0 x1 x2 x3 x4 x5 x6 x7 x8 x9 x10
 obtain ⟨⟨⟨⟨x0,x1⟩,x2,x3⟩,⟨x4,x5⟩,x6,x7⟩,⟨x8,x9⟩,x10⟩:=cells11 BX.out
 go_wp2_with fail
 first | go_end0 | refine bodyPost_ret (results_none rfl _ _ _) rfl ?_
 exact ⟨rfl,by simpa only [List.append_assoc,List.cons_append,List.nil_append]using PW.out,FW.out⟩
theorem neach_raw (V U:Value)(T T2 T3:List (List UInt8))(h0:Prt g (smV 7 nm tt cc n a b e p q r) 0 V w)(k0:Run 50 #[.pointer (some ⟨g,0,none⟩),V,nv 0] g T w)(h1:Prt g (smV 7 nm tt cc n a b e p q r) 1 U w)(k1:Run 50 #[.pointer (some ⟨g,0,none⟩),U,nv 0] g T2 w)(k2:Run 20 #[.pointer (some ⟨g,0,none⟩),nv n] g [decL n] w)(k3:Run 55 #[.pointer (some ⟨g,0,none⟩),b] g T3 w):
  Run 147 #[.pointer (some ⟨g,0,none⟩),smV 7 nm tt cc n a b e p q r] g ([101,97,99,104]::nm::[105,110]::tt::[102,114,111,109]::(T ++ [116,111]::(T2 ++ [109,97,120]::decL n::T3))) w:=by
 intro w' L hbw hpr hlim
 have hlt:=hpr.lt
 try simp only [List.length_cons,List.length_append,List.length_nil]at hlim
 have HL:=Lib.hid hlim
 have HW:=Lib.hid hbw
 clear hlim hbw
 have Hh0:=Lib.hid h0
 have Hk0:=Lib.hid k0
 have Hh1:=Lib.hid h1
 have Hk1:=Lib.hid k1
 have Hk2:=Lib.hid k2
 have Hk3:=Lib.hid k3
 clear h0 k0 h1 k1 k2 k3
 go_enter Tryz.func147,Tryz.ntmps147
 go_upto_region 1 with fail
 have BX:Hid ((w'.alloc (smO 7 nm tt cc n a b e p q r)).heap[w'.heap.size]? =some (smB 7 nm tt cc n a b e p q r)):=Lib.hid (alloc_at rfl)
 have PW:=Lib.hid (hpr.next (one_new (o:=smO 7 nm tt cc n a b e p q r)))
 have FW:Hid (PF g w' (w'.alloc (smO 7 nm tt cc n a b e p q r))):=Lib.hid (.of_below one_new)
 clear hpr
 obtain ⟨w1,hw1⟩: ∃W,w'.alloc (smO 7 nm tt cc n a b e p q r)=W:=⟨_,rfl⟩
 rw [hw1]at BX PW FW⊢
 clear hw1
 obtain ⟨⟨⟨⟨x0,x1⟩,x2,x3⟩,⟨x4,x5⟩,x6,x7⟩,⟨x8,x9⟩,x10⟩:=cells11 BX.out
 go_wp2_with fail
 refine (put_any g _ _ _ [[101,97,99,104],nm,[105,110],tt,[102,114,111,109]] _ _ (PW.out.next one_new) (Rd.made _ _ rfl (by first | rfl | simp)) (by have:=HL.out;simp;omega)).mono ?_;rintro e w3 ⟨rfl,p3,f3⟩
 replace BX:=Lib.hid (f3.keep hlt (box_next BX.out one_new) (by decide))
 replace FW:=Lib.hid ((FW.out.then one_new).trans f3)
 replace PW:=Lib.hid p3
 clear p3 f3
 clear x0 x1 x2 x3 x4 x5 x6 x7 x8 x9 x10
 obtain ⟨⟨⟨⟨x0,x1⟩,x2,x3⟩,⟨x4,x5⟩,x6,x7⟩,⟨x8,x9⟩,x10⟩:=cells11 BX.out
 go_wp2_with fail
 refine (Hh0.out _ (HW.out.trans (FW.out.below (Nat.le_of_lt hlt)))).mono ?_;rintro e w4 ⟨rfl,b4⟩
 replace BX:=Lib.hid (box_next BX.out b4)
 replace PW:=Lib.hid (PW.out.next b4)
 replace FW:=Lib.hid (FW.out.then b4)
 clear b4
 clear x0 x1 x2 x3 x4 x5 x6 x7 x8 x9 x10
 obtain ⟨⟨⟨⟨x0,x1⟩,x2,x3⟩,⟨x4,x5⟩,x6,x7⟩,⟨x8,x9⟩,x10⟩:=cells11 BX.out
 go_wp2_with fail
 refine (Hk0.out _ _ (HW.out.trans (FW.out.below (Nat.le_of_lt hlt))) PW.out (by have:=HL.out;simp;omega)).mono ?_;rintro e w5 ⟨rfl,p5,f5⟩
 replace BX:=Lib.hid (f5.keep hlt BX.out (by decide))
 replace FW:=Lib.hid (FW.out.trans f5)
 replace PW:=Lib.hid p5
 clear p5 f5
 clear x0 x1 x2 x3 x4 x5 x6 x7 x8 x9 x10
 obtain ⟨⟨⟨⟨x0,x1⟩,x2,x3⟩,⟨x4,x5⟩,x6,x7⟩,⟨x8,x9⟩,x10⟩:=cells11 BX.out
 go_wp2_with fail
 refine (put_any g _ _ _ [[116,111]] _ _ (PW.out.next one_new) (Rd.made _ _ rfl (by first | rfl | simp)) (by have:=HL.out;simp;omega)).mono ?_;rintro e w6 ⟨rfl,p6,f6⟩
 replace BX:=Lib.hid (f6.keep hlt (box_next BX.out one_new) (by decide))
 replace FW:=Lib.hid ((FW.out.then one_new).trans f6)
 replace PW:=Lib.hid p6
 clear p6 f6
 clear x0 x1 x2 x3 x4 x5 x6 x7 x8 x9 x10
 obtain ⟨⟨⟨⟨x0,x1⟩,x2,x3⟩,⟨x4,x5⟩,x6,x7⟩,⟨x8,x9⟩,x10⟩:=cells11 BX.out
 go_wp2_with fail
 refine (Hh1.out _ (HW.out.trans (FW.out.below (Nat.le_of_lt hlt)))).mono ?_;rintro e w7 ⟨rfl,b7⟩
 replace BX:=Lib.hid (box_next BX.out b7)
 replace PW:=Lib.hid (PW.out.next b7)
 replace FW:=Lib.hid (FW.out.then b7)
 clear b7
 clear x0 x1 x2 x3 x4 x5 x6 x7 x8 x9 x10
 obtain ⟨⟨⟨⟨x0,x1⟩,x2,x3⟩,⟨x4,x5⟩,x6,x7⟩,⟨x8,x9⟩,x10⟩:=cells11 BX.out
 go_wp2_with fail
 refine (Hk1.out _ _ (HW.out.trans (FW.out.below (Nat.le_of_lt hlt))) PW.out (by have:=HL.out;simp;omega)).mono ?_;rintro e w8 ⟨rfl,p8,f8⟩
 replace BX:=Lib.hid (f8.keep hlt BX.out (by decide))
 replace FW:=Lib.hid (FW.out.trans f8)
 replace PW:=Lib.hid p8
 clear p8 f8
 clear x0 x1 x2 x3 x4 x5 x6 x7 x8 x9 x10
 obtain ⟨⟨⟨⟨x0,x1⟩,x2,x3⟩,⟨x4,x5⟩,x6,x7⟩,⟨x8,x9⟩,x10⟩:=cells11 BX.out
 go_wp2_with fail
 refine (put_any g _ _ _ [[109,97,120]] _ _ (PW.out.next one_new) (Rd.made _ _ rfl (by first | rfl | simp)) (by have:=HL.out;simp;omega)).mono ?_;rintro e w9 ⟨rfl,p9,f9⟩
 replace BX:=Lib.hid (f9.keep hlt (box_next BX.out one_new) (by decide))
 replace FW:=Lib.hid ((FW.out.then one_new).trans f9)
 replace PW:=Lib.hid p9
 clear p9 f9
 clear x0 x1 x2 x3 x4 x5 x6 x7 x8 x9 x10
 obtain ⟨⟨⟨⟨x0,x1⟩,x2,x3⟩,⟨x4,x5⟩,x6,x7⟩,⟨x8,x9⟩,x10⟩:=cells11 BX.out
 go_wp2_with fail
 refine (Hk2.out _ _ (HW.out.trans (FW.out.below (Nat.le_of_lt hlt))) PW.out (by have:=HL.out;simp;omega)).mono ?_;rintro e w10 ⟨rfl,p10,f10⟩
 replace BX:=Lib.hid (f10.keep hlt BX.out (by decide))
 replace FW:=Lib.hid (FW.out.trans f10)
 replace PW:=Lib.hid p10
 clear p10 f10
 clear x0 x1 x2 x3 x4 x5 x6 x7 x8 x9 x10
 obtain ⟨⟨⟨⟨x0,x1⟩,x2,x3⟩,⟨x4,x5⟩,x6,x7⟩,⟨x8,x9⟩,x10⟩:=cells11 BX.out
 go_wp2_with fail
 refine (Hk3.out _ _ (HW.out.trans (FW.out.below (Nat.le_of_lt hlt))) PW.out (by have:=HL.out;simp;omega)).mono ?_;rintro e w11 ⟨rfl,p11,f11⟩
 replace BX:=Lib.hid (f11.keep hlt BX.out (by decide))
 replace FW:=Lib.hid (FW.out.trans f11)
 replace PW:=Lib.hid p11
 clear p11 f11
 clear x0 x1 x2 x3 x4 x5 x6 x7 x8 x9 x10
 obtain ⟨⟨⟨⟨x0,x1⟩,x2,x3⟩,⟨x4,x5⟩,x6,x7⟩,⟨x8,x9⟩,x10⟩:=cells11 BX.out
 go_wp2_with fail
 first | go_end0 | refine bodyPost_ret (results_none rfl _ _ _) rfl ?_
 exact ⟨rfl,by simpa only [List.append_assoc,List.cons_append,List.nil_append]using PW.out,FW.out⟩
theorem pnum_raw (h1:-9223372036854775808≤n)(h2:n≤9223372036854775807):Run 20 #[.pointer (some ⟨g,0,none⟩),nv n] g [decL n] w:=by
 intro w' L hbw hpr hlim
 have hlt:=hpr.lt
 try simp only [List.length_cons,List.length_append,List.length_nil]at hlim
 have HL:=Lib.hid hlim
 have HW:=Lib.hid hbw
 clear hlim hbw
 have PW:=Lib.hid hpr
 have FW:Hid (PF g w' w'):=Lib.hid (.refl _ _)
 clear hpr
 have hpv:printV ⟨1,n,[]⟩=decL n:=rfl
 go_enter Tryz.func20,Tryz.ntmps20
 go_wp2_with fail
 refine (int_any n _).mono ?_;rintro e w2 ⟨rfl,b2⟩
 replace PW:=Lib.hid (PW.out.next b2)
 replace FW:=Lib.hid (FW.out.then b2)
 clear b2
 unfold vv
 go_wp2_with fail
 refine (print_any ⟨1,n,[]⟩ _ (by simp) h1 h2).mono ?_;rintro e w3 ⟨rfl,b3⟩
 replace PW:=Lib.hid (PW.out.next b3)
 replace FW:=Lib.hid (FW.out.then b3)
 clear b3
 rw [hpv]
 go_wp2_with fail
 refine (put_any g _ _ _ [decL n] _ _ (PW.out.next one_new) (Rd.made _ _ rfl (by first | rfl | simp)) (by have:=HL.out;simp;omega)).mono ?_;rintro e w4 ⟨rfl,p4,f4⟩
 replace FW:=Lib.hid ((FW.out.then one_new).trans f4)
 replace PW:=Lib.hid p4
 clear p4 f4
 go_wp2_with fail
 first | go_end0 | refine bodyPost_ret (results_none rfl _ _ _) rfl ?_
 exact ⟨rfl,by simpa only [List.append_assoc,List.cons_append,List.nil_append]using PW.out,FW.out⟩
end
end Go.Proofs.YtnbmpfdffoidaaaGreatDoor.Y
