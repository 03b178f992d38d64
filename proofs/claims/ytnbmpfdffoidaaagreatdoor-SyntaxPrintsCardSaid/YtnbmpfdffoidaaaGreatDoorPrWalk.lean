/- Texts of the proof, joined: SyntaxPrintsWalk. -/
import Derived.Test.YtnbmpfdffoidaaaGreatDoorPr26
import Derived.Test.YtnbmpfdffoidaaaGreatDoorPr30
set_option linter.unusedVariables false
set_option linter.unusedSimpArgs false
set_option maxHeartbeats 8000000
set_option maxRecDepth 100000
namespace Go.Proofs.YtnbmpfdffoidaaaGreatDoor.syntaxPrints
open Go.RowKit O V S X Y
theorem cut_ba (l:List UInt8)(k m:Nat)(h:min l.length k=m):(ByteArray.mk l.toArray).extract 0 m=⟨(l.take k).toArray⟩:=by
 apply ByteArray.ext
 simp [List.extract_eq_take_drop]
 omega
theorem ycut_any (s:List UInt8)(w:World)(hs:s.length≤9223372036854775807):Calls Tryz.prog 6 #[.string ⟨s.toArray⟩] w fun e w'=> e= .returned (.string ⟨(s.take 1500).toArray⟩)∧w=w':=by
 have hsz:(ByteArray.mk s.toArray).size=s.length:=by simp [ByteArray.size]
 obtain ⟨m,hm⟩: ∃m:Nat,min s.length 1500=m:=⟨_,rfl⟩
 have ex:min (s.length:Int) 1500=(m:Int):=by omega
 have hm2:(m:Int)≤(s.length:Int):=by omega
 have hcut:=cut_ba s 1500 m hm
 clear hm
 go_enter Tryz.func6,Tryz.ntmps6
 go_wp2_with fail
 go_ret
 exact ⟨rfl,rfl⟩
theorem pcz_at {w:World}{S:Nat→Prop}{B:Option Addr}{m d:Nat}{fs:List Value}{l:List Pc}(h1:Row w S 6 B m d fs)(h2:Reps (PcZ w S) l fs){z:Nat}(hS: ∀b,S b→b < z){i:Nat}(hi:i < l.length):
  ∃b o nm A1 n1 c1 B1 m1 d1,(B=some ⟨b,o,none⟩∧b < z)∧(∀j,j < 6→w.cell? ⟨b,o+i * 6+j,none⟩=[sv nm,.slice A1 n1 c1,.slice B1 m1 d1,nv 0,nv 0,nv 0][j]?)∧
   (0 < m1→m1≤d1∧∃b2 o2,(B1=some ⟨b2,o2,none⟩∧b2 < z)∧∀j,j < 3→w.cell? ⟨b2,o2+(8+j),none⟩=some (nv 0)):=by
 obtain ⟨b,o,vs,e,hb,⟨A1,c1,B1,d1,rfl,h3,es,h4,h5⟩,hc⟩:=(h1.rd hS).elem (fun a vs h=> PcR.size a vs h.r) h2 hi (by omega)
 refine ⟨b,o,_,A1,_,c1,B1,_,d1,⟨e,hb⟩,hc,fun h=> ⟨h4.cap.1,?_⟩⟩
 obtain ⟨b2,o2,vs,e2,hb2,⟨_,h6⟩,hc2⟩:=(h4.rd hS).elem (fun a vs h=> StR.size a vs h.1) h5 (i:=0) (by rw [Sts.list_len];exact h) (by omega)
 refine ⟨b2,o2,⟨e2,hb2⟩,fun j hj=> ?_⟩
 have:=hc2 (8+j) (by omega)
 rw [Nat.zero_mul,Nat.add_zero]at this
 rw [this,← List.getElem?_drop,h6]
 match j,hj with
 | 0,_=> rfl
 | 1,_=> rfl
 | 2,_=> rfl
theorem walk (s0 t0:ByteArray)(w:World)(hs:s0.size≤maxLen)(ht:t0.size≤maxLen):
  Calls Tryz.prog 4 #[.string s0,.string t0] w fun e w'=> e= .returned (.bool true)∧Below w.heap.size w w':=by
 obtain ⟨l0,rfl⟩: ∃l0:List UInt8,s0=⟨l0.toArray⟩:=⟨s0.data.toList,by cases s0;simp⟩
 obtain ⟨m0,rfl⟩: ∃l0:List UInt8,t0=⟨l0.toArray⟩:=⟨t0.data.toList,by cases t0;simp⟩
 have hsz:(ByteArray.mk l0.toArray).size=l0.length:=by simp [ByteArray.size]
 have hsz2:(ByteArray.mk m0.toArray).size=m0.length:=by simp [ByteArray.size]
 rw [hsz]at hs
 rw [hsz2]at ht
 unfold maxLen at hs ht
 go_enter Tryz.func4,Tryz.ntmps4
 go_wp2_with fail
 refine (ycut_any l0 _ (by omega)).mono ?_;rintro e w0 ⟨rfl,rfl⟩
 go_wp2_with fail
 refine (rparse_h (l0.take 1500) _ (by simp;omega)).mono ?_;rintro e w1 ⟨⟨ka,Aa,na,ca,Ba,ma,da,er,p,q,r,Sa,rfl,hk,ok,hw⟩,b⟩
 have Ka:=Lib.hid hk
 have Oa:=Lib.hid (And.intro ok hw)
 have Bw1:=Lib.hid b
 clear hk ok hw b
 go_upto_region 2 with fail
 obtain ⟨w2,hw⟩: ∃W,(w1.alloc (.cells #[.slice Aa na ca,.slice Ba ma da] 25)).alloc (.cells #[nv p,nv q,nv r] 28)=W:=⟨_,rfl⟩
 have Dw2:Hid (Below w1.heap.size w1 w2):=Lib.hid (by rw [← hw];exact ((Below.refl _ _).alloc (Nat.le_refl _) _).alloc (by simp) _)
 have Xa:Hid (w2.heap[w1.heap.size]? =some (.cells #[.slice Aa na ca,.slice Ba ma da] 25 (0,0))):=Lib.hid (by rw [← hw];exact alloc_old' (alloc_at rfl))
 rw [hw]
 clear hw
 replace Ka:=Lib.hid (Ka.out.next Dw2.out (Nat.le_refl _))
 obtain ⟨g1,hg1⟩: ∃g,w1.heap.size=g:=⟨_,rfl⟩
 have B2:=Lib.hid (bthen Bw1.out Dw2.out)
 rw [hg1]at Xa⊢
 clear hg1 Bw1 Dw2
 go_wp2_with fail
 refine (ycut_any m0 _ (by omega)).mono ?_;rintro e w0 ⟨rfl,rfl⟩
 go_wp2_with fail
 refine (rparse_h (m0.take 1500) _ (by simp;omega)).mono ?_;rintro e w3 ⟨⟨kb,Ab,nb,cb,Bb,mb,db,er,p,q,r,Sb,rfl,hk,ok,hw⟩,b⟩
 have Kb:=Lib.hid hk
 have Ob:=Lib.hid (And.intro ok hw)
 have Bw3:=Lib.hid b
 clear hk ok hw b
 go_upto_region 3 with fail
 obtain ⟨w4,hw⟩: ∃W,(w3.alloc (.cells #[.slice Ab nb cb,.slice Bb mb db] 25)).alloc (.cells #[nv p,nv q,nv r] 28)=W:=⟨_,rfl⟩
 have Dw4:Hid (Below w3.heap.size w3 w4):=Lib.hid (by rw [← hw];exact ((Below.refl _ _).alloc (Nat.le_refl _) _).alloc (by simp) _)
 have Xb:Hid (w4.heap[w3.heap.size]? =some (.cells #[.slice Ab nb cb,.slice Bb mb db] 25 (0,0))):=Lib.hid (by rw [← hw];exact alloc_old' (alloc_at rfl))
 rw [hw]
 clear hw
 replace Kb:=Lib.hid (Kb.out.next Dw4.out (Nat.le_refl _))
 obtain ⟨g2,hg2⟩: ∃g,w3.heap.size=g:=⟨_,rfl⟩
 have D24:=Lib.hid (bthen Bw3.out Dw4.out)
 rw [hg2]at Xb⊢
 clear hg2 Bw3 Dw4
 replace Xa:=Lib.hid (box_next Xa.out D24.out)
 replace Ka:=Lib.hid (Ka.out.next D24.out (Nat.le_refl _))
 have B4:=Lib.hid (bthen B2.out D24.out)
 clear B2 D24
 obtain ⟨u0,u1⟩:=box2 Xa.out
 go_wp2_with fail
 refine (bare_h Ka.out Oa.out.1).mono ?_;rintro e w5 ⟨⟨Ac,cc,Bc,dc,Sc,rfl,hk,fs,hr,hp⟩,b⟩
 clear u0 u1
 have Kc:=Lib.hid hk
 have HR:=Lib.hid (And.intro hr hp)
 have B5:=Lib.hid (bthen B4.out b)
 replace Xa:=Lib.hid (box_next Xa.out b)
 replace Xb:=Lib.hid (box_next Xb.out b)
 replace Ka:=Lib.hid (Ka.out.next b (Nat.le_refl _))
 replace Kb:=Lib.hid (Kb.out.next b (Nat.le_refl _))
 clear hk hr hp b B4
 go_upto_region 4 with fail
 obtain ⟨w6,hw⟩: ∃W,w5.alloc (.cells #[.slice Ac na cc,.slice Bc ma dc] 25)=W:=⟨_,rfl⟩
 have b:Below w5.heap.size w5 w6:=by rw [← hw];exact (Below.refl _ _).alloc (Nat.le_refl _) _
 have Xc:Hid (w6.heap[w5.heap.size]? =some (.cells #[.slice Ac na cc,.slice Bc ma dc] 25 (0,0))):=Lib.hid (by rw [← hw];exact alloc_at rfl)
 rw [hw]
 clear hw
 replace B5:=Lib.hid (bthen B5.out b)
 replace HR:=Lib.hid (And.intro (HR.out.1.keep (w':=w6) fun x hx=> b.block x (Kc.out.lt x hx)) (HR.out.2.imp fun y us=> pcz_keep _ _ _ y us fun x hx=> b.block x (Kc.out.lt x hx)))
 replace Xa:=Lib.hid (box_next Xa.out b)
 replace Xb:=Lib.hid (box_next Xb.out b)
 replace Ka:=Lib.hid (Ka.out.next b (Nat.le_refl _))
 replace Kb:=Lib.hid (Kb.out.next b (Nat.le_refl _))
 replace Kc:=Lib.hid (Kc.out.next b (Nat.le_refl _))
 clear b
 obtain ⟨g3,hg3⟩: ∃g,w5.heap.size=g:=⟨_,rfl⟩
 rw [hg3]at Xc⊢
 clear hg3
 obtain ⟨T,hT⟩: ∃T,textOf (toksW ka)=T:=⟨_,rfl⟩
 have HT:=Lib.hid hT
 clear hT
 refine wp_region_sched [(0,true),(2,true),(1,false),(3,false),(4,true),(5,true),(6,true),(7,true),(8,false),(9,true),(10,true),(11,true),(12,true),(13,true),(15,true),(16,true),(14,false),(17,false),(18,true),(19,true),(20,true),(21,true),(22,true),(23,false),(24,true),(25,true)] (by kernel_rfl) (by kernel_rfl) (fun _ _ d _ _ h=> by cases d <;> exact h) ?_
 refine sbelow (w0:=w6) (Below.refl _ _).drew (fun B0=> ?_)
 refine swith (fun W hW=> (box2 (box_next Xa.out (bthen B0 hW.out)))) (fun qa=> ?_)
 refine swith (fun W hW=> (box2 (box_next Xb.out (bthen B0 hW.out)))) (fun qb=> ?_)
 refine swith (fun W hW=> (box2 (box_next Xc.out (bthen B0 hW.out)))) (fun qc=> ?_)
 repeat (first | (refine srE ?_;simp only [Act.put,sA,sB,sC]) | (refine skE ?_;simp only [Act.put,sA,sB,sC]))
 refine scall rfl rfl (fun K hK=> ?_)
 go_simp
 refine (print_h (Ka.out.next B0 (Nat.le_refl _)) Oa.out.1 Oa.out.2).mono ?_;rintro e w7 ⟨rfl,b7⟩;rw [HT.out]
 go_wp2_with fail
 refine hK.out _ _ (by exact b7) ?_
 clear hK K
 try simp only [Act.put,sA,sB,sC]
 replace qa:=fun (W:World) (hW:Grow w7 W)=> qa W (Grow.trans (b7) hW)
 replace qb:=fun (W:World) (hW:Grow w7 W)=> qb W (Grow.trans (b7) hW)
 replace qc:=fun (W:World) (hW:Grow w7 W)=> qc W (Grow.trans (b7) hW)
 have B7:=bthen B0 b7
 repeat (first | (refine srE ?_;simp only [Act.put,sA,sB,sC]) | (refine skE ?_;simp only [Act.put,sA,sB,sC]))
 refine scall rfl rfl (fun K hK=> ?_)
 go_simp
 refine (rprint_h (Ka.out.next B7 (Nat.le_refl _)) Oa.out.1 Oa.out.2).mono ?_;rintro e w8 ⟨rfl,b8⟩;rw [HT.out]
 go_wp2_with fail
 refine hK.out _ _ (by exact b8) ?_
 clear hK K
 try simp only [Act.put,sA,sB,sC]
 replace qa:=fun (W:World) (hW:Grow w8 W)=> qa W (Grow.trans (b8) hW)
 replace qb:=fun (W:World) (hW:Grow w8 W)=> qb W (Grow.trans (b8) hW)
 replace qc:=fun (W:World) (hW:Grow w8 W)=> qc W (Grow.trans (b8) hW)
 have B8:=bthen B7 b8
 repeat (first | (refine srE ?_;simp only [Act.put,sA,sB,sC]) | (refine skE ?_;simp only [Act.put,sA,sB,sC]))
 refine scall rfl rfl (fun K hK=> ?_)
 go_simp
 refine (rsame_h (Kc.out.next B8 (Nat.le_refl _)) (Ka.out.next B8 (Nat.le_refl _))).mono ?_;rintro e w9 ⟨⟨y1,rfl,hy1⟩,b9⟩;obtain rfl:y1=true:=hy1.2 rfl
 go_wp2_with fail
 refine hK.out _ _ (by exact b9) ?_
 clear hK K
 try simp only [Act.put,sA,sB,sC]
 replace qa:=fun (W:World) (hW:Grow w9 W)=> qa W (Grow.trans (b9) hW)
 replace qb:=fun (W:World) (hW:Grow w9 W)=> qb W (Grow.trans (b9) hW)
 replace qc:=fun (W:World) (hW:Grow w9 W)=> qc W (Grow.trans (b9) hW)
 have B9:=bthen B8 b9
 repeat (first | (refine srE ?_;simp only [Act.put,sA,sB,sC]) | (refine skE ?_;simp only [Act.put,sA,sB,sC]))
 refine scall rfl rfl (fun K hK=> ?_)
 go_simp
 refine (same_h (Ka.out.next B9 (Nat.le_refl _)) (Kb.out.next B9 (Nat.le_refl _))).mono ?_;rintro e w10 ⟨⟨y2,rfl,hy2⟩,b10⟩
 go_wp2_with fail
 refine hK.out _ _ (by exact b10) ?_
 clear hK K
 try simp only [Act.put,sA,sB,sC]
 replace qa:=fun (W:World) (hW:Grow w10 W)=> qa W (Grow.trans (b10) hW)
 replace qb:=fun (W:World) (hW:Grow w10 W)=> qb W (Grow.trans (b10) hW)
 replace qc:=fun (W:World) (hW:Grow w10 W)=> qc W (Grow.trans (b10) hW)
 have B10:=bthen B9 b10
 repeat (first | (refine srE ?_;simp only [Act.put,sA,sB,sC]) | (refine skE ?_;simp only [Act.put,sA,sB,sC]))
 refine scall rfl rfl (fun K hK=> ?_)
 go_simp
 refine (rsame_h (Ka.out.next B10 (Nat.le_refl _)) (Kb.out.next B10 (Nat.le_refl _))).mono ?_;rintro e w11 ⟨⟨y3,rfl,hy3⟩,b11⟩;obtain rfl:y3=y2:=Bool.eq_iff_iff.2 (hy3.trans hy2.symm)
 go_wp2_with fail
 refine hK.out _ _ (by exact b11) ?_
 clear hK K
 try simp only [Act.put,sA,sB,sC]
 replace qa:=fun (W:World) (hW:Grow w11 W)=> qa W (Grow.trans (b11) hW)
 replace qb:=fun (W:World) (hW:Grow w11 W)=> qb W (Grow.trans (b11) hW)
 replace qc:=fun (W:World) (hW:Grow w11 W)=> qc W (Grow.trans (b11) hW)
 have B11:=bthen B10 b11
 repeat (first | (refine srE ?_;simp only [Act.put,sA,sB,sC]) | (refine skE ?_;simp only [Act.put,sA,sB,sC]))
 refine scall rfl rfl (fun K hK=> ?_)
 go_simp
 refine (same_h (Ka.out.next B11 (Nat.le_refl _)) (Kc.out.next B11 (Nat.le_refl _))).mono ?_;rintro e w12 ⟨⟨y4,rfl,hy4⟩,b12⟩;obtain rfl:y4=true:=hy4.2 rfl
 go_wp2_with fail
 refine hK.out _ _ (by exact b12) ?_
 clear hK K
 try simp only [Act.put,sA,sB,sC]
 replace qa:=fun (W:World) (hW:Grow w12 W)=> qa W (Grow.trans (b12) hW)
 replace qb:=fun (W:World) (hW:Grow w12 W)=> qb W (Grow.trans (b12) hW)
 replace qc:=fun (W:World) (hW:Grow w12 W)=> qc W (Grow.trans (b12) hW)
 have B12:=Lib.hid (bthen B11 b12)
 repeat (first | (refine srE ?_;simp only [Act.put,sA,sB,sC]) | (refine skE ?_;simp only [Act.put,sA,sB,sC]))
 refine sdone ?_
 clear qa qb qc hy1 hy2 hy3 hy4 b7 b8 b9 b10 b11 b12 B0 B7 B8 B9 B10 B11
 have HS:Hid (∀b,Sc b→b < w6.heap.size):=Lib.hid Kc.out.lt
 have HM:=Lib.hid (Ka.out.m)
 have hmd:=HR.out.1.cap
 replace HR:=Lib.hid (And.intro (HR.out.1.keep (w':=w12) fun x hx=> B12.out.block x (HS.out x hx)) (HR.out.2.imp fun y us=> pcz_keep _ _ _ y us fun x hx=> B12.out.block x (HS.out x hx)))
 have hz12:=B12.out.size
 have BW:=Lib.hid (bthen B5.out B12.out)
 obtain ⟨u0,u1⟩:=box2 (box_next Xc.out B12.out)
 clear Xa Xb Xc Ka Kb Kc B12 B5
 go_wp2_with fail
 clear u0 u1
 go_loopw [59] (fun i wr=> ∃j:Nat,j≤ma∧i= .int .i64 j∧Hid (Below w12.heap.size w12 wr)) (fun i _=> ma - (intOf i).toNat)
 case atStart=> exact ⟨0,by omega,rfl,Lib.hid (Below.refl _ _)⟩
 case round=>
  obtain ⟨j,hj,rfl,hb⟩:=hrel
  have hzr:=hb.out.size
  by_cases hlt:j < ma
  ·have hji:(j:Int) < (ma:Int):=by omega
   have hk: ∀x,Sc x→wr.heap[x]? =w12.heap[x]? :=fun x hx=> hb.out.block x (by have:=HS.out x hx;omega)
   obtain ⟨b1,o1,nm,A1,n1,c1,B1,m1,d1,⟨rfl,hb1⟩,hc,hz⟩:=pcz_at (HR.out.1.keep hk) (HR.out.2.imp fun y us=> pcz_keep _ _ _ y us hk) HS.out (i:=j) (by rw [← HM.out];exact hlt)
   clear hk
   have hbw1:b1 < wr.heap.size:=by omega
   have x0:wr.cell? ⟨b1,o1+j * 6,none⟩=some (sv nm):=hc 0 (by omega)
   have x1:wr.cell? ⟨b1,o1+j * 6+1,none⟩=some (.slice A1 n1 c1):=hc 1 (by omega)
   have x2:wr.cell? ⟨b1,o1+j * 6+2,none⟩=some (.slice B1 m1 d1):=hc 2 (by omega)
   have x3:wr.cell? ⟨b1,o1+j * 6+3,none⟩=some (nv 0):=hc 3 (by omega)
   have x4:wr.cell? ⟨b1,o1+j * 6+4,none⟩=some (nv 0):=hc 4 (by omega)
   have x5:wr.cell? ⟨b1,o1+j * 6+5,none⟩=some (nv 0):=hc 5 (by omega)
   have HZ:=Lib.hid hz
   clear hc hz
   go_upto_region 9 with fail
   clear x0 x1 x2 x3 x4 x5
   obtain ⟨wd,hw⟩: ∃W,wr.alloc (.cells #[sv nm,.slice A1 n1 c1,.slice B1 m1 d1,nv 0,nv 0,nv 0] 41)=W:=⟨_,rfl⟩
   have b2:Below wr.heap.size wr wd:=by rw [← hw];exact (Below.refl _ _).alloc (Nat.le_refl _) _
   have X:wd.heap[wr.heap.size]? =some (.cells #[sv nm,.slice A1 n1 c1,.slice B1 m1 d1,nv 0,nv 0,nv 0] 41 (0,0)):=by rw [← hw];exact alloc_at rfl
   rw [hw]
   clear hw
   have B2:=Lib.hid (bthen hb.out b2)
   obtain ⟨⟨⟨x0,x1⟩,x2,x3⟩,x4,x5⟩:=box6 X
   by_cases hm1:0 < m1
   ·obtain ⟨hmd1,b3,o3,⟨rfl,hb3⟩,hc⟩:=HZ.out hm1
    have z0:wd.cell? ⟨b3,o3+8,none⟩=some (nv 0):=(b2.cell (p:=⟨b3,o3+8,none⟩) (show b3 < wr.heap.size by omega)).trans (hc 0 (by omega))
    have z1:wd.cell? ⟨b3,o3+8+1,none⟩=some (nv 0):=(b2.cell (p:=⟨b3,o3+9,none⟩) (show b3 < wr.heap.size by omega)).trans (hc 1 (by omega))
    have z2:wd.cell? ⟨b3,o3+8+2,none⟩=some (nv 0):=(b2.cell (p:=⟨b3,o3+10,none⟩) (show b3 < wr.heap.size by omega)).trans (hc 2 (by omega))
    have hmi:(0:Int) < (m1:Int):=by omega
    clear hc X b2
    go_wp2_with fail
    go_roundw
    case rel=> exact ⟨j+1,by omega,by go_num,B2⟩
    case measure=> simp [intOf];omega
   ·obtain rfl:m1=0:=by omega
    clear X b2
    go_wp2_with fail
    go_roundw
    case rel=> exact ⟨j+1,by omega,by go_num,B2⟩
    case measure=> simp [intOf];omega
  ·obtain rfl:j=ma:=by omega
   go_wp2_with fail
   refine (liveZ_any _).mono ?_;rintro e w13 ⟨rfl,b13⟩
   go_wp2_with fail
   go_ret
   exact ⟨rfl,bthen (bthen BW.out hb.out) b13⟩
end Go.Proofs.YtnbmpfdffoidaaaGreatDoor.syntaxPrints
