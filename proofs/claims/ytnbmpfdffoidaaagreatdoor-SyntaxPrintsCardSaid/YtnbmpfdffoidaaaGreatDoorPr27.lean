/- Texts of the proof, joined: LvTok, LvAll, LvPs, LvLit. -/
import Derived.Test.YtnbmpfdffoidaaaGreatDoorPr03
import Derived.Test.YtnbmpfdffoidaaaGreatDoorPr04
import Derived.Test.YtnbmpfdffoidaaaGreatDoorPr26
set_option linter.unusedVariables false
set_option linter.unusedSimpArgs false
set_option maxHeartbeats 8000000
set_option maxRecDepth 100000
namespace Go.Proofs.YtnbmpfdffoidaaaGreatDoor.Y
open Go.RowKit O V S X
theorem plain_line {s:List UInt8}(h:Plain s): ∀i,i≤s.length→lineOf s i=1∧startOf s i=0
 | 0,_=> ⟨rfl,rfl⟩
 | i+1,hi=> by
  have h1:=plain_line h i (by omega)
  have h2:=(h i (by omega)).1
  have e:(s.getD i 0).toNat≠10:=by rwa [List.getD_eq_getElem?_getD,List.getElem?_eq_getElem (by omega)]
  exact ⟨by rw [lineOf,if_neg e,h1.1],by rw [startOf,if_neg e,h1.2]⟩
theorem Ly.lx {w:World}{g:Nat}{s:List UInt8}{i:Nat}(h:Ly w g s i):Lx w g s i:=⟨by rw [(plain_line h.p i h.i).1,(plain_line h.p i h.i).2];exact h.box,h.i,h.n⟩
theorem znum2 (w:World):Calls Tryz.prog 86 #[sv [50]] w fun e w'=> e= .returned (.tuple #[nv 2,.bool true])∧w'=w:=by
 go_enter Tryz.func86,Tryz.ntmps86
 go_wp2_with fail
 go_loop [2,3,4,8] (fun r f v i=> (i=nv 0∧v= .int .u64 0)∨(i=nv 1∧v= .int .u64 2)) (fun _ _ _ i=> 1 - (intOf i).toNat)
 case atStart=> exact .inl ⟨rfl,rfl⟩
 case round=>
  rcases hrel with ⟨rfl,rfl⟩ | ⟨rfl,rfl⟩
  ·go_wp2_with fail
   go_round
   case rel=> exact .inr ⟨by go_num,rfl⟩
   case measure=> simp [intOf]
  ·go_wp2_with fail
   go_ret2
   exact ⟨rfl,rfl⟩
def TokY (t:List UInt8)(k:Int)(n:Nat)(v:Val):Prop:=
 (smallC (t.getD 0 0)=true∧k=1∧runLen wordC t=n∧n≤16∧v=zeroV)∨
 (smallC (t.getD 0 0)=false∧digitC (t.getD 0 0)=true∧k=2∧runLen digitC t=n∧t.take n=[50]∧v=⟨1,2,[]⟩)∨
 (smallC (t.getD 0 0)=false∧digitC (t.getD 0 0)=false∧k=4∧signL t=n∧n≠0∧v=zeroV)
def tkA (k:Int)(t:List UInt8)(v:Val)(p q r:Int):List Value:=[nv k,sv t,nv v.k,nv v.n,sv v.s,nv p,nv q,nv r]
theorem lset {w:World}{g b i j:Nat}{s:List UInt8}{v:Value}(hg:g≠b)(h:Ly w g s i):Ly (w.setCell ⟨b,j,none⟩ v) g s i:=⟨(Below.heap_setCell _ _ _ _ hg).trans h.box,h.i,h.n,h.p⟩
theorem ztoken (g:Nat)(s:List UInt8)(i:Nat)(kd:Int)(n:Nat)(v:Val)(w:World)(h:Ly w g s i)(hin:i < s.length)(hz:TokY (s.drop i) kd n v):Calls Tryz.prog 42 #[.pointer (some ⟨g,0,none⟩)] w fun e w'=> (∃p q r,e= .returned (.tuple #[.agg (tkA kd ((s.drop i).take n) v p q r).toArray,nv 0,nv 0]))∧Ly w' g s (i+n)∧Mod [g] w w':=by
 have hn:=h.n
 have hi:=h.i
 have HL:=Lib.hid h
 have hgl:=h.lt
 have hsz:(ByteArray.mk s.toArray).size=s.length:=by simp [ByteArray.size]
 obtain ⟨c,hc⟩: ∃c,s[i]=c:=⟨_,rfl⟩
 have hx:=ba_at s i hin hc
 have h34:=h.p i hin
 rw [hc]at h34
 replace h34:=h34.2.2
 have hg0:(s.drop i).getD 0 0=c:=by rw [List.drop_eq_getElem_cons hin,← hc];rfl
 unfold TokY at hz
 rw [hg0]at hz
 have HZ:=Lib.hid hz
 have e1:((c.toNat:Int)==34)=false:=by simp;omega
 clear h hc hz hg0 h34
 go_enter Tryz.func42,Tryz.ntmps42
 go_wp2_with fail
 have hgw:g≠w.heap.size:=by omega
 have B0:Below w.heap.size w (w.alloc (.cells #[nv 0,sv [],nv 0,nv 0,sv [],nv 0,nv 0,nv 0] 101)):=(Below.refl _ _).alloc (Nat.le_refl _) _
 have L0:=Lib.hid (HL.out.next B0)
 refine wp_region_schedB [g] [(0,true),(1,true),(2,true),(3,true),(5,true),(6,true),(7,true),(8,true),(9,true),(4,false),(10,true),(11,false),(12,true)] (by kernel_rfl) (by kernel_rfl) (fun _ _ d _ _ h=> by cases d <;> exact h) ?_
 refine bwith (fun W hW=> (cells4 (hW.one L0.out.box))) (fun q=> ?_)
 repeat (first | (refine brE ?_;simp only [Act.put,sA,sB,sC]) | (refine bkE ?_;simp only [Act.put,sA,sB,sC]))
 generalize hT:(w.alloc (.cells #[nv 0,sv [],nv 0,nv 0,sv [],nv 0,nv 0,nv 0] 101))=W0 at *
 have X0:W0.heap[w.heap.size]? =some (.cells #[nv 0,sv [],nv 0,nv 0,sv [],nv 0,nv 0,nv 0] 101 (0,0)):=by rw [← hT];exact heap_alloc_new _ _
 have HX0:=Lib.hid X0
 clear hT X0
 have hgW:g < W0.heap.size:=L0.out.lt
 refine bcall rfl rfl (fun K hK=> ?_)
 go_simp
 refine (X.here_any i 1 0 _ (by omega) (by omega)).mono ?_;rintro e w2 ⟨he,b2⟩;obtain ⟨cl,he⟩: ∃cl:Int,e= .returned (X.pv i 1 cl):=⟨_,he⟩;subst he
 go_wp2_with fail
 refine hK.out _ _ (by exact KB.of_below b2 (fun k hk=> by simp at hk;subst hk;exact hgW)) ?_
 clear hK K
 try simp only [Act.put,sA,sB,sC]
 have BW2:Below W0.heap.size W0 w2:=(Below.refl _ _).drew.trans b2
 have X2:=box_next HX0.out BW2
 have L2:=Lib.hid (L0.out.next BW2)
 clear q b2
 repeat (first | (refine brE ?_;simp only [Act.put,sA,sB,sC]) | (refine bkE ?_;simp only [Act.put,sA,sB,sC]))
 simp only [X.pv]
 have f5:=Lib.frozen_of_heap X2 5
 have f6:=Lib.frozen_of_heap X2 6
 have f7:=Lib.frozen_of_heap X2 7
 have c5:w2.cell? ⟨w.heap.size,5,none⟩=some (.int .i64 0):=by rw [Lib.cell_of_heap X2];rfl
 have c6:w2.cell? ⟨w.heap.size,6,none⟩=some (.int .i64 0):=by rw [Lib.cell_of_heap X2];rfl
 have c7:w2.cell? ⟨w.heap.size,7,none⟩=some (.int .i64 0):=by rw [Lib.cell_of_heap X2];rfl
 refine bcall rfl rfl (fun K hK=> ?_)
 go_simp
 refine hK.out _ _ (fun k hk=> ?_) ?_
 ·simp at hk;subst hk
  exact (Below.heap_setCell _ _ _ _ hgw).trans ((Below.heap_setCell _ _ _ _ hgw).trans (Below.heap_setCell _ _ _ _ hgw))
 clear hK K
 try simp only [Act.put,sA,sB,sC]
 repeat (first | (refine brE ?_;simp only [Act.put,sA,sB,sC]) | (refine bkE ?_;simp only [Act.put,sA,sB,sC]))
 refine bdone ?_
 have X4:(((w2.setCell ⟨w.heap.size,5,none⟩ (nv i)).setCell ⟨w.heap.size,6,none⟩ (nv 1)).setCell ⟨w.heap.size,7,none⟩ (nv cl)).heap[w.heap.size]? =some (.cells #[nv 0,sv [],nv 0,nv 0,sv [],nv i,nv 1,nv cl] 101 (0,0)):=heap_set (i:=7) (heap_set (i:=6) (heap_set (i:=5) X2 (nv i)) (nv 1)) (nv cl)
 have M4:Mod [g] w (((w2.setCell ⟨w.heap.size,5,none⟩ (nv i)).setCell ⟨w.heap.size,6,none⟩ (nv 1)).setCell ⟨w.heap.size,7,none⟩ (nv cl)):=(((Mod.of_below (bthen B0 BW2)).set (.inr (Nat.le_refl _)) _).set (.inr (Nat.le_refl _)) _).set (.inr (Nat.le_refl _)) _
 have L4:Ly (((w2.setCell ⟨w.heap.size,5,none⟩ (nv i)).setCell ⟨w.heap.size,6,none⟩ (nv 1)).setCell ⟨w.heap.size,7,none⟩ (nv cl)) g s i:=lset hgw (lset hgw (lset hgw L2.out))
 clear c5 c6 c7 f5 f6 f7 X2 L2 BW2 B0 L0 HX0 hgW
 go_wp2_with fail
 generalize (((w2.setCell ⟨w.heap.size,5,none⟩ (nv i)).setCell ⟨w.heap.size,6,none⟩ (nv 1)).setCell ⟨w.heap.size,7,none⟩ (nv cl))=W3 at *
 refine wp_region_sched [(0,true),(1,true),(2,true),(3,true),(4,true),(5,true),(6,true),(7,true),(8,true),(9,true),(10,true)] (by kernel_rfl) (by kernel_rfl) (fun _ _ d _ _ h=> by cases d <;> exact h) ?_
 refine swith (fun W hW=> (cells4 (L4.next ((Below.refl _ _).drew.trans (hW.out.mono (Nat.le_refl _)))).box)) (fun q=> ?_)
 repeat (first | (refine srE ?_;simp only [Act.put,sA,sB,sC]) | (refine skE ?_;simp only [Act.put,sA,sB,sC]))
 refine sdone ?_
 clear q
 replace X4:=box_next X4 (Below.refl _ _).drew
 replace L4:=L4.next (Below.refl _ _).drew
 replace M4:=M4.drew
 generalize W3.drew=W4 at *
 have hlt4:=(Array.getElem?_eq_some_iff.1 X4).1
 go_wp2_with fail
 refine (lsmall_any c _).mono ?_;rintro e w5 ⟨rfl,rfl⟩
 rcases HZ.out with ⟨h1,rfl,h3,h4,rfl⟩ | ⟨h1,h2,rfl,h3,h4,rfl⟩ | ⟨h1,h2,rfl,h3,h4,rfl⟩
 ·rw [h1]
  have hc1:=Tryz.call84
  have hk:=drop_take_len wordC hi
  have H3:=Lib.hid h3
  rw [h3]at hk
  clear HZ h1 h3
  go_wp2_with fail
  refine (zrun 84 wordC hc1 lword_any g s i _ L4).mono ?_;rintro e w5 ⟨rfl,b5⟩
  rw [H3.out]
  have X5:=box_next X4 b5
  have L5:=L4.next b5
  have M5:=M4.then (.of_below b5)
  obtain ⟨k0,k1,k2,k3,k4,k5,k6,k7⟩:=cells8 X5
  obtain ⟨z0,z1,z2,z3,z4,z5,z6,z7⟩:=frozen8 X5
  clear X4 L4 M4 b5
  have g1:decide ((n:Int) > 16)=false:=by simp;omega
  have g1':decide (16 < (n:Int))=false:=by simp;omega
  clear h4
  go_wp2_with fail
  replace X5:(w5.setCell ⟨w.heap.size,0,none⟩ (nv 1)).heap[w.heap.size]? =some (.cells #[nv 1,sv [],nv 0,nv 0,sv [],nv i,nv 1,nv cl] 101 (0,0)):=heap_set (i:=0) X5 (nv 1)
  replace M5:=M5.set (b:=w.heap.size) (i:=0) (.inr (Nat.le_refl _)) (nv 1)
  replace L5:Ly (w5.setCell ⟨w.heap.size,0,none⟩ (nv 1)) g s i:=⟨(Below.heap_setCell _ _ _ _ hgw).trans L5.box,L5.i,L5.n,L5.p⟩
  clear k0 k1 k2 k3 k4 k5 k6 k7 z0 z1 z2 z3 z4 z5 z6 z7
  generalize (w5.setCell ⟨w.heap.size,0,none⟩ (nv 1))=W5 at *
  refine (zpass g s i n _ L5 hk).mono ?_;rintro e w6 ⟨rfl,l6,m6⟩
  have hT1:=(Array.getElem?_eq_some_iff.1 X5).1
  have X6:=m6.box X5 (by simp;omega)
  obtain ⟨k0,k1,k2,k3,k4,k5,k6,k7⟩:=cells8 X6
  obtain ⟨z0,z1,z2,z3,z4,z5,z6,z7⟩:=frozen8 X6
  have M6:=M5.then m6
  clear X5 L5 M5 m6
  go_wp2_with fail
  refine bodyPost_ret (v:= .tuple #[.agg (tkA 1 ((s.drop i).take n) zeroV i 1 cl).toArray,nv 0,nv 0]) (by simp [results,Tryz.results42,go_sem,tkA,k0,k1,k2,k3,k4,k5,k6,k7,zeroV]) rfl ?_
  refine ⟨⟨_,_,_,rfl⟩,?_,?_⟩
  ·repeat (first | (with_reducible exact l6) | refine lset hgw ?_)
  ·repeat (first | (with_reducible exact M6) | refine Mod.set ?_ (.inr (Nat.le_refl _)) _)
 ·rw [h1]
  have hc1:=Tryz.call85
  have hk:=drop_take_len digitC hi
  have H3:=Lib.hid h3
  rw [h3]at hk
  have HT:=Lib.hid h4
  obtain ⟨m,hm⟩: ∃m,m=i+n:=⟨_,rfl⟩
  have hwr:IntKind.i64.wrap ((i:Int)+(n:Int))=(m:Int):=by rw [IntWalk.i64_in _ (by omega)];omega
  have hcut:=cut_at s i n m hm
  have hmi:m≤s.length:=by omega
  have him:i≤m:=by omega
  rw [h4]at hcut
  clear HZ h1 h3 h4 hm
  go_wp2_with fail
  refine (ldigit_any c _).mono ?_;rintro e w5 ⟨rfl,rfl⟩
  rw [h2]
  clear h2
  go_wp2_with fail
  refine (zrun 85 digitC hc1 ldigit_any g s i _ L4).mono ?_;rintro e w5 ⟨rfl,b5⟩
  rw [H3.out]
  have X5:=box_next X4 b5
  have L5:=L4.next b5
  have M5:=M4.then (.of_below b5)
  obtain ⟨k0,k1,k2,k3,k4,k5,k6,k7⟩:=cells8 X5
  obtain ⟨z0,z1,z2,z3,z4,z5,z6,z7⟩:=frozen8 X5
  clear X4 L4 M4 b5
  obtain ⟨⟨y0,y1⟩,y2,y3⟩:=cells4 L5.box
  go_wp2_with fail
  refine (znum2 _).mono ?_;rintro e w6 ⟨rfl,rfl⟩
  clear hcut y0 y1 y2 y3
  go_wp2_with fail
  replace X5:(w5.setCell ⟨w.heap.size,0,none⟩ (nv 2)).heap[w.heap.size]? =some (.cells #[nv 2,sv [],nv 0,nv 0,sv [],nv i,nv 1,nv cl] 101 (0,0)):=heap_set (i:=0) X5 (nv 2)
  replace M5:=M5.set (b:=w.heap.size) (i:=0) (.inr (Nat.le_refl _)) (nv 2)
  replace L5:Ly (w5.setCell ⟨w.heap.size,0,none⟩ (nv 2)) g s i:=⟨(Below.heap_setCell _ _ _ _ hgw).trans L5.box,L5.i,L5.n,L5.p⟩
  clear k0 k1 k2 k3 k4 k5 k6 k7 z0 z1 z2 z3 z4 z5 z6 z7
  generalize (w5.setCell ⟨w.heap.size,0,none⟩ (nv 2))=W5 at *
  refine (lint_any 2 _).mono ?_;rintro e w7 ⟨rfl,b7⟩
  replace X5:=box_next X5 b7
  replace M5:=M5.then (.of_below b7)
  replace L5:=L5.next b7
  clear b7
  obtain ⟨k0,k1,k2,k3,k4,k5,k6,k7⟩:=cells8 X5
  obtain ⟨z0,z1,z2,z3,z4,z5,z6,z7⟩:=frozen8 X5
  unfold vv
  go_wp2_with fail
  clear k0 k1 k2 k3 k4 k5 k6 k7 z0 z1 z2 z3 z4 z5 z6 z7
  replace X5:(((w7.setCell ⟨w.heap.size,2,none⟩ (nv 1)).setCell ⟨w.heap.size,3,none⟩ (nv 2)).setCell ⟨w.heap.size,4,none⟩ (sv [])).heap[w.heap.size]? =some (.cells #[nv 2,sv [],nv 1,nv 2,sv [],nv i,nv 1,nv cl] 101 (0,0)):=heap_set (i:=4) (heap_set (i:=3) (heap_set (i:=2) X5 (nv 1)) (nv 2)) (sv [])
  replace M5:=((M5.set (b:=w.heap.size) (i:=2) (.inr (Nat.le_refl _)) (nv 1)).set (b:=w.heap.size) (i:=3) (.inr (Nat.le_refl _)) (nv 2)).set (b:=w.heap.size) (i:=4) (.inr (Nat.le_refl _)) (sv [])
  replace L5:Ly (((w7.setCell ⟨w.heap.size,2,none⟩ (nv 1)).setCell ⟨w.heap.size,3,none⟩ (nv 2)).setCell ⟨w.heap.size,4,none⟩ (sv [])) g s i:=lset hgw (lset hgw (lset hgw L5))
  generalize (((w7.setCell ⟨w.heap.size,2,none⟩ (nv 1)).setCell ⟨w.heap.size,3,none⟩ (nv 2)).setCell ⟨w.heap.size,4,none⟩ (sv []))=W5 at *
  refine (zpass g s i n _ L5 hk).mono ?_;rintro e w6 ⟨rfl,l6,m6⟩
  have hT1:=(Array.getElem?_eq_some_iff.1 X5).1
  have X6:=m6.box X5 (by simp;omega)
  obtain ⟨k0,k1,k2,k3,k4,k5,k6,k7⟩:=cells8 X6
  obtain ⟨z0,z1,z2,z3,z4,z5,z6,z7⟩:=frozen8 X6
  have M6:=M5.then m6
  clear X5 L5 M5 m6
  go_wp2_with fail
  refine bodyPost_ret (v:= .tuple #[.agg (tkA 2 ((s.drop i).take n) (⟨1,2,[]⟩:Val) i 1 cl).toArray,nv 0,nv 0]) (by simp [results,Tryz.results42,go_sem,tkA,k0,k1,k2,k3,k4,k5,k6,k7]) rfl ?_
  refine ⟨⟨_,_,_,rfl⟩,?_,?_⟩
  ·repeat (first | (with_reducible exact l6) | refine lset hgw ?_)
  ·repeat (first | (with_reducible exact M6) | refine Mod.set ?_ (.inr (Nat.le_refl _)) _)
 ·rw [h1]
  have hk:=sign_le (s.drop i) (by simp;omega)
  rw [List.length_drop,h3]at hk
  replace hk:i+n≤s.length:=by omega
  have H3:=Lib.hid h3
  clear HZ h1 h3
  go_wp2_with fail
  refine (ldigit_any c _).mono ?_;rintro e w5 ⟨rfl,rfl⟩
  rw [h2]
  clear h2
  go_wp2_with fail
  refine (X.sign_any g s i _ L4.lx hin).mono ?_;rintro e w5 ⟨rfl,b5⟩
  rw [H3.out]
  have X5:=box_next X4 b5
  have L5:=L4.next b5
  have M5:=M4.then (.of_below b5)
  obtain ⟨k0,k1,k2,k3,k4,k5,k6,k7⟩:=cells8 X5
  obtain ⟨z0,z1,z2,z3,z4,z5,z6,z7⟩:=frozen8 X5
  clear X4 L4 M4 b5
  have g1:((n:Int)==0)=false:=by simp;omega
  clear h4
  go_wp2_with fail
  replace X5:(w5.setCell ⟨w.heap.size,0,none⟩ (nv 4)).heap[w.heap.size]? =some (.cells #[nv 4,sv [],nv 0,nv 0,sv [],nv i,nv 1,nv cl] 101 (0,0)):=heap_set (i:=0) X5 (nv 4)
  replace M5:=M5.set (b:=w.heap.size) (i:=0) (.inr (Nat.le_refl _)) (nv 4)
  replace L5:Ly (w5.setCell ⟨w.heap.size,0,none⟩ (nv 4)) g s i:=⟨(Below.heap_setCell _ _ _ _ hgw).trans L5.box,L5.i,L5.n,L5.p⟩
  clear k0 k1 k2 k3 k4 k5 k6 k7 z0 z1 z2 z3 z4 z5 z6 z7
  generalize (w5.setCell ⟨w.heap.size,0,none⟩ (nv 4))=W5 at *
  refine (zpass g s i n _ L5 hk).mono ?_;rintro e w6 ⟨rfl,l6,m6⟩
  have hT1:=(Array.getElem?_eq_some_iff.1 X5).1
  have X6:=m6.box X5 (by simp;omega)
  obtain ⟨k0,k1,k2,k3,k4,k5,k6,k7⟩:=cells8 X6
  obtain ⟨z0,z1,z2,z3,z4,z5,z6,z7⟩:=frozen8 X6
  have M6:=M5.then m6
  clear X5 L5 M5 m6
  go_wp2_with fail
  refine bodyPost_ret (v:= .tuple #[.agg (tkA 4 ((s.drop i).take n) zeroV i 1 cl).toArray,nv 0,nv 0]) (by simp [results,Tryz.results42,go_sem,tkA,k0,k1,k2,k3,k4,k5,k6,k7,zeroV]) rfl ?_
  refine ⟨⟨_,_,_,rfl⟩,?_,?_⟩
  ·repeat (first | (with_reducible exact l6) | refine lset hgw ?_)
  ·repeat (first | (with_reducible exact M6) | refine Mod.set ?_ (.inr (Nat.le_refl _)) _)
end Go.Proofs.YtnbmpfdffoidaaaGreatDoor.Y
namespace Go.Proofs.YtnbmpfdffoidaaaGreatDoor.Y
open Go.RowKit O V S X
inductive LexZ (s:List UInt8):Nat→List Tok→Prop
 | done {i:Nat} (h:gapZ s i=s.length):LexZ s i []
 | tok {i:Nat} {k:Int} {n:Nat} {v:Val} {l:List Tok} (h:gapZ s i < s.length) (t:TokY (s.drop (gapZ s i)) k n v) (r:LexZ s (gapZ s i+n) l):LexZ s i ((k,(s.drop (gapZ s i)).take n,v)::l)
def lenV (v:Value):Nat:=match v with
 | .slice _ n _=> n
 | _=> 0
theorem own_keepM {w w':World}{base e size n g:Nat}{v:Value}{xs:List Value}(h:w.ownsRow base e size v n xs)(m:Mod [g] w w')(hb:g < base):w'.ownsRow base e size v n xs:=
 own_keepL h ⟨m.os,m.tape,m.output,m.size,fun i hi hne=> m.block i hi (by simpa using hne)⟩ hb
theorem below_mod {w a b:World}{g:Nat}(h:Below w.heap.size w a)(k:Mod [g] a b)(hg:w.heap.size≤g):Below w.heap.size w b:=
 h.trans (k.below h.size (by simpa using hg))
theorem zall (s:List UInt8)(l:List Tok)(w:World)(hs:s.length≤16384)(hp:Plain s)(hz:LexZ s 0 l)(hl:l.length≤16384):Calls Tryz.prog 14 #[sv s] w fun e w'=> (∃A n c xs,e= .returned (.tuple #[.slice A n c,nv 0,.agg #[nv 0,nv 0,nv 0]])∧w'.ownsRow (w.heap.size+2) 101 8 (.slice A n c) n xs∧Reps TkS l xs)∧Below w.heap.size w w':=by
 have hsz:(ByteArray.mk s.toArray).size=s.length:=by simp [ByteArray.size]
 have g1:decide ((s.length:Int) > 16384)=false:=by simp;omega
 have g1':decide (16384 < (s.length:Int))=false:=by simp;omega
 have HZ:=Lib.hid hz
 have HP:=Lib.hid hp
 clear hz hp
 go_enter Tryz.func14,Tryz.ntmps14
 go_wp2_with fail
 have X0:(((w.alloc (.cells #[nv 0,nv 0,nv 0] 28)).alloc (.cells #[nv 0,nv 1,nv 0,sv s] 99))).heap[w.heap.size]? =some (.cells #[nv 0,nv 0,nv 0] 28 (0,0)):=box_next (heap_alloc_new w (.cells #[nv 0,nv 0,nv 0] 28)) ((Below.refl _ _).alloc (Nat.le_refl _) _)
 have L0:Ly (((w.alloc (.cells #[nv 0,nv 0,nv 0] 28)).alloc (.cells #[nv 0,nv 1,nv 0,sv s] 99))) (w.heap.size+1) s 0:=⟨by
  have:=heap_alloc_new (w.alloc (.cells #[nv 0,nv 0,nv 0] 28)) (.cells #[nv 0,nv 1,nv 0,sv s] 99)
  simpa using this,by omega,by omega,HP.out⟩
 have B0:Below w.heap.size w (((w.alloc (.cells #[nv 0,nv 0,nv 0] 28)).alloc (.cells #[nv 0,nv 1,nv 0,sv s] 99))):=((Below.refl _ _).alloc (Nat.le_refl _) _).alloc (by simp) _
 go_loopw [2,3] (fun row _ wr=> ∃(i n c:Nat) (pre rest:List Tok) (A:Option Addr) (xs:List Value),row= .slice A n c∧Hid (l=pre ++rest)∧Hid (LexZ s i rest)∧n+rest.length=l.length∧Ly wr (w.heap.size+1) s i∧wr.heap[w.heap.size]? =some (.cells #[nv 0,nv 0,nv 0] 28 (0,0))∧wr.ownsRow (w.heap.size+2) 101 8 (.slice A n c) n xs∧Hid (Reps TkS pre xs)∧Below w.heap.size w wr) (fun row _ _=> l.length - lenV row)
 case atStart=> exact ⟨0,0,0,[],l,none,[],rfl,Lib.hid (by simp),HZ,by simp,L0,X0,World.ownsRow_nil _ _ _ _,Lib.hid (by simp [Reps]),B0⟩
 case round=>
  obtain ⟨i,n,c,pre,rest,A,xs,rfl,hp,hr,hnr,hL,hX,hO,hR,hB⟩:=hrel
  clear X0 L0 B0
  go_wp2_with fail
  refine (zgap (w.heap.size+1) s i _ hL).mono ?_;rintro e w1 ⟨rfl,l1,m1⟩
  have hRlt:=hL.lt
  have X1:=m1.box hX (by simp)
  have O1:=own_keepM hO m1 (by omega)
  have B1:=below_mod hB m1 (by omega)
  clear hL hX hO hB m1
  obtain ⟨⟨y0,y1⟩,y2,y3⟩:=cells4 l1.box
  obtain ⟨j,hj⟩: ∃j,gapZ s i=j:=⟨_,rfl⟩
  have hr2:=hr.out
  cases hr2 with
  | done hend=>
   rw [hj]at l1 hend y0
   have e1:((j:Int)==(s.length:Int))=true:=by simp;omega
   have c0:w1.cell? ⟨w.heap.size,0,none⟩=some (nv 0):=by rw [Lib.cell_of_heap X1];rfl
   have c1:w1.cell? ⟨w.heap.size,1,none⟩=some (nv 0):=by rw [Lib.cell_of_heap X1];rfl
   have c2:w1.cell? ⟨w.heap.size,2,none⟩=some (nv 0):=by rw [Lib.cell_of_heap X1];rfl
   have f0:=Lib.frozen_of_heap X1 0
   have f1:=Lib.frozen_of_heap X1 1
   have f2:=Lib.frozen_of_heap X1 2
   clear hr hj hend
   go_wp2_with fail
   refine bodyPost_ret (v:= .tuple #[.slice A n c,nv 0,.agg #[nv 0,nv 0,nv 0]]) (by simp [results,Tryz.results14,go_sem,c0,c1,c2]) rfl ?_
   refine ⟨⟨A,n,c,xs,rfl,?_,by rw [hp.out,List.append_nil];exact hR.out⟩,?_⟩
   ·exact own_setL (own_setL (own_setL O1 _ (by omega)) _ (by omega)) _ (by omega)
   ·repeat (first | (with_reducible exact Below.refl _ _) | (with_reducible assumption) | refine Below.setCell ?_ (by simp <;> omega) _ | refine Below.alloc ?_ (by simp <;> omega) _ | refine Below.drew ?_)
  | tok hlt ht hr3=>
   rename_i k m v r
   rw [hj]at l1 hlt y0 ht hr3
   have HP2:Hid (l=pre ++((k,(s.drop j).take m,v)::r)):=Lib.hid (by rw [← hj];exact hp.out)
   have HR3:=Lib.hid hr3
   have e1:((j:Int)==(s.length:Int))=false:=by simp;omega
   clear hr hj hr3 hp
   go_wp2_with fail
   refine (ztoken (w.heap.size+1) s j k m v _ l1 hlt ht).mono ?_;rintro e w2 ⟨⟨tp,tq,tr,rfl⟩,l2,m2⟩
   have X2:=m2.box X1 (by simp)
   have O2:=own_keepM O1 m2 (by omega)
   have B2:=below_mod B1 m2 (by omega)
   clear X1 O1 B1 m2 y0 y1 y2 y3 l1 ht
   have hsn:Hid (Reps TkS (pre ++ [(k,(s.drop j).take m,v)]) (xs ++tkA k ((s.drop j).take m) v tp tq tr)):=Lib.hid (hR.out.append (.one ⟨tp,tq,tr,rfl⟩))
   have h7:n+r.length+1=l.length:=by simp at hnr;omega
   have hbs:=B2.size
   unfold tkA
   go_wp2_with (at_builtin;refine wpList_app rfl (.tmp 42) (.tmp 44) tokE rfl (w.heap.size+2) xs rfl ((O2.alloc _).alloc _) rfl (tkA k ((s.drop j).take m) v tp tq tr) (Rd.made _ (tkA k ((s.drop j).take m) v tp tq tr) rfl (by simp)) (by simp [tkA,Value.oneCell']) (by unfold maxLen;omega) (by omega) (by simp;omega) ?_;intro A3 c3 w3 o3 g3 _)
   have hown:=fun q hq=> (O2.lt q hq).1
   have D2:=(B2.alloc B2.size (.cells (tkA k ((s.drop j).take m) v tp tq tr).toArray 101)).alloc (by have:=B2.size;simp;omega) (.cells (tkA k ((s.drop j).take m) v tp tq tr).toArray 101)
   have E2:=((Below.refl w2.heap.size w2).alloc (Nat.le_refl _) (.cells (tkA k ((s.drop j).take m) v tp tq tr).toArray 101)).alloc (by simp) (.cells (tkA k ((s.drop j).take m) v tp tq tr).toArray 101)
   have L3:=l2.next E2
   have X3:=box_next X2 E2
   have B3:Below w.heap.size w w3:=⟨g3.os.trans D2.os,g3.tape.trans D2.tape,g3.output.trans D2.output,Nat.le_trans D2.size g3.size,fun q hq=> (g3.block q (Nat.lt_of_lt_of_le hq D2.size) (fun e=> by have:=hown q e.symm;omega)).trans (D2.block q hq)⟩
   have X4:=(g3.block w.heap.size (Array.getElem?_eq_some_iff.1 X3).1 (fun e=> by have:=hown _ e.symm;omega)).trans X3
   have L4:Ly w3 (w.heap.size+1) s (j+m):=⟨(g3.block (w.heap.size+1) L3.lt (fun e=> by have:=hown _ e.symm;omega)).trans L3.box,L3.i,L3.n,L3.p⟩
   go_roundw
   case rel=> exact ⟨j+m,n+1,c3,pre ++ [(k,(s.drop j).take m,v)],r,A3,_,rfl,Lib.hid (by rw [HP2.out,List.append_assoc];rfl),HR3,by omega,L4,X4,o3,hsn,B3⟩
   case measure=> simp only [lenV];omega
end Go.Proofs.YtnbmpfdffoidaaaGreatDoor.Y
namespace Go.Proofs.YtnbmpfdffoidaaaGreatDoor.Y
open Go.RowKit O V S X
structure PzA (w:World)(g:Nat)(A:Option Addr)(n c:Nat)(a b e:Int)(d:Nat)(l:List Tok):Prop where
 box:w.heap[g]? =some (.cells #[.slice A n c,nv a,nv b,nv e,nv d] 54 (0,0))
 row:TR w g A n c l
def Pz (w:World)(g d:Nat)(l:List Tok):Prop:= ∃A n c a b e,PzA w g A n c a b e d l
theorem PzA.lt {w:World}{g d:Nat}{A:Option Addr}{n c:Nat}{a b e:Int}{l:List Tok}(h:PzA w g A n c a b e d l):g < w.heap.size:=(Array.getElem?_eq_some_iff.1 h.box).1
theorem Pz.lt {w:World}{g d:Nat}{l:List Tok}(h:Pz w g d l):g < w.heap.size:=by
 obtain ⟨A,n,c,a,b,e,h⟩:=h
 exact h.lt
theorem Pz.keep {w w':World}{g d:Nat}{l:List Tok}(h:Pz w g d l)(hk: ∀b,b≤g→w'.heap[b]? =w.heap[b]?):Pz w' g d l:=by
 obtain ⟨A,n,c,a,b,e,h⟩:=h
 exact ⟨A,n,c,a,b,e,(hk g (Nat.le_refl _)).trans h.box,h.row.keep fun b hb=> hk b (Nat.le_of_lt hb)⟩
theorem Pz.mod {w w':World}{g d:Nat}{l:List Tok}{bs:List Nat}(h:Pz w g d l)(m:Mod bs w w')(hb: ∀x ∈ bs,g < x):Pz w' g d l:=
 h.keep fun b hbg=> m.block b (Nat.lt_of_le_of_lt hbg h.lt) fun hx=> by have:=hb b hx;omega
theorem Pz.next {w w':World}{g d:Nat}{l:List Tok}(h:Pz w g d l)(b:Below w.heap.size w w'):Pz w' g d l:=h.mod (bs:=[]) (.of_below b) (fun _ hx=> by cases hx)
theorem Pz.set {w:World}{g d b i:Nat}{l:List Tok}(h:Pz w g d l)(hb:g < b)(v:Value):Pz (w.setCell ⟨b,i,none⟩ v) g d l:=h.keep fun k hk=> Below.heap_setCell _ _ _ _ (by simp only;omega)
theorem Pz.alloc {w:World}{g d:Nat}{l:List Tok}(h:Pz w g d l)(o:Obj):Pz (w.alloc o) g d l:=h.next ((Below.refl _ _).alloc (Nat.le_refl _) _)
theorem PzA.cells {w:World}{g d:Nat}{A:Option Addr}{n c:Nat}{a b e:Int}{l:List Tok}(h:PzA w g A n c a b e d l):
  (w.cell? ⟨g,0,none⟩=some (.slice A n c)∧w.cell? ⟨g,4,none⟩=some (nv d))∧w.frozen? ⟨g,0,none⟩=false∧w.frozen? ⟨g,4,none⟩=false:=
 ⟨⟨by rw [Lib.cell_of_heap h.box];rfl,by rw [Lib.cell_of_heap h.box];rfl⟩,Lib.frozen_of_heap h.box 0,Lib.frozen_of_heap h.box 4⟩
def Zut (bs:List Nat)(g d:Nat)(w:World)(l:List Tok)(good:World→Value→Prop)(e:Ending)(w':World):Prop:=Mod bs w w'∧Pz w' g d l∧∃v,e= .returned v∧good w' v
theorem zis (g d:Nat)(l:List Tok)(s:List UInt8)(w:World)(h:Pz w g d l):Calls Tryz.prog 45 #[.pointer (some ⟨g,0,none⟩),sv s] w fun e w'=> e= .returned (.bool (isT l s))∧w'=w:=by
 obtain ⟨A,n,c,ea,eb,ec,hp⟩:=h
 have hlen:=hp.row.len
 have hcap:=hp.row.cap
 obtain ⟨⟨x0,x4⟩,xf0,xf4⟩:=hp.cells
 have hlt:=hp.lt
 have HP:=Lib.hid hp
 cases l with
 | nil=>
  obtain rfl:n=0:=by simpa using hlen.symm
  clear hp
  go_enter Tryz.func45,Tryz.ntmps45
  go_wp2_with fail
  go_ret
  exact ⟨rfl,rfl⟩
 | cons t l=>
  obtain ⟨b,off,tp,tq,tr,rfl,hb,⟨⟨y0,y1⟩,y2,y3,y4⟩,⟨y5,y6⟩,y7⟩:=hp.row.head
  obtain ⟨tk,tt,tv⟩:=t
  dsimp only at y0 y1 y2 y3 y4
  clear hp
  have hn:0 < n:=by simp at hlen;omega
  have d1:decide ((n:Int) > 0)=true:=by simp;omega
  go_enter Tryz.func45,Tryz.ntmps45
  go_wp2_with fail
  ·go_ret
   exact ⟨ret_bool (by unfold isT;rename_i q;dsimp only;rw [decide_eq_true q,Bool.true_and];by_cases h3:tk=3 <;> simp [h3]),rfl⟩
  ·go_ret
   exact ⟨ret_bool (by unfold isT;rename_i q;dsimp only;rw [decide_eq_false q,Bool.false_and]),rfl⟩
theorem PzA.past {w W:World}{g d:Nat}{b off n c:Nat}{x y z:Int}{t:Tok}{l:List Tok}(h:PzA w g (some ⟨b,off,none⟩) n c x y z d (t::l))(B:Below w.heap.size w W)(i:Nat)(hi:i=0){A':Option Addr}(hA:c≠1→A'=some ⟨b,off+8,none⟩){n' c':Nat}(hn:n'=n - 1)(hc:c'=c - 1):
  Mod [g] w (W.setCell ⟨g,i,none⟩ (.slice A' n' c'))∧Pz (W.setCell ⟨g,i,none⟩ (.slice A' n' c')) g d l:=by
 subst hi hn hc
 refine ⟨(Mod.of_below B).set (.inl (by simp)) _,A',n - 1,c - 1,x,y,z,heap_set (i:=0) ((B.block g h.lt).trans h.box) (.slice A' (n - 1) (c - 1)),(h.row.tail hA).keep fun k hk=> ?_⟩
 rw [Below.heap_setCell _ _ _ _ (by simp only;omega)]
 exact B.block k (by have:=h.lt;omega)
theorem ztake (g d:Nat)(l:List Tok)(s:List UInt8)(w:World)(h:Pz w g d l):Calls Tryz.prog 99 #[.pointer (some ⟨g,0,none⟩),sv s] w fun e w'=> e= .returned (.bool (isT l s))∧Mod [g] w w'∧Pz w' g d (if isT l s then l.tail else l):=by
 have HS:=Lib.hid h
 cases hi:isT l s with
 | false=>
  clear h
  go_enter Tryz.func99,Tryz.ntmps99
  go_wp2_with fail
  refine (zis g d l s _ HS.out).mono ?_;rintro e w1 ⟨rfl,rfl⟩
  rw [hi]
  go_wp2_with fail
  go_ret
  exact ⟨rfl,.refl _ _,HS.out⟩
 | true=>
  obtain ⟨A,n,c,ea,eb,ec,hp⟩:=h
  have hlen:=hp.row.len
  have hcap:=hp.row.cap
  obtain ⟨⟨x0,x4⟩,xf0,xf4⟩:=hp.cells
  have hlt:=hp.lt
  have HP:=Lib.hid hp
  cases l with
  | nil=> cases hi
  | cons t l=>
   obtain ⟨b,off,tp,tq,tr,rfl,hb,⟨⟨y0,y1⟩,y2,y3,y4⟩,⟨y5,y6⟩,y7⟩:=hp.row.head
   obtain ⟨tk,tt,tv⟩:=t
   dsimp only at y0 y1 y2 y3 y4
   clear hp
   have hn:1≤n:=by simp at hlen;omega
   have hc1:1≤c:=by omega
   clear y0 y1 y2 y3 y4 y5 y6 y7
   have hcn:=hcap.1
   go_enter Tryz.func99,Tryz.ntmps99
   go_wp2_with fail
   refine (zis g d _ s _ HS.out).mono ?_;rintro e w1 ⟨rfl,rfl⟩
   rw [hi]
   go_wp2_with fail
   ·go_ret
    obtain ⟨m1,m2⟩:=HP.out.past (Below.refl _ _) 0 rfl (A':=some ⟨b,off,none⟩) (c':=0) (fun h=> absurd (by assumption) h) rfl (by omega)
    exact ⟨rfl,m1,m2⟩
   ·go_ret
    obtain ⟨m1,m2⟩:=HP.out.past (Below.refl _ _) 0 rfl (A':=some ⟨b,off+8,none⟩) (fun _=> rfl) rfl rfl
    exact ⟨rfl,m1,m2⟩
theorem zhere (g d:Nat)(t:Tok)(l:List Tok)(w:World)(h:Pz w g d (t::l)):Calls Tryz.prog 95 #[.pointer (some ⟨g,0,none⟩)] w fun e w'=> (∃p q r:Int,e= .returned (.agg #[nv p,nv q,nv r]))∧Below w.heap.size w w':=by
 obtain ⟨A,n,c,ea,eb,ec,hp⟩:=h
 have hlen:=hp.row.len
 have hcap:=hp.row.cap
 obtain ⟨⟨x0,x4⟩,xf0,xf4⟩:=hp.cells
 have hlt:=hp.lt
 have HP:=Lib.hid hp
 have hne:g≠w.heap.size:=by omega
 obtain ⟨b,off,tp,tq,tr,rfl,hb,⟨⟨y0,y1⟩,y2,y3,y4⟩,⟨y5,y6⟩,y7⟩:=hp.row.head
 obtain ⟨tk,tt,tv⟩:=t
 dsimp only at y0 y1 y2 y3 y4
 clear hp
 have hn:0 < n:=by simp at hlen;omega
 have hbw:b < w.heap.size:=by omega
 have hn0:n≠0:=by omega
 go_enter Tryz.func95,Tryz.ntmps95
 go_wp2_with fail
 refine bodyPost_ret (v:=pv tp tq tr) (by simp [results,Tryz.results95,go_sem,pv]) rfl ?_
 refine ⟨⟨_,_,_,rfl⟩,?_⟩
 repeat (first | (with_reducible exact Below.refl _ _) | (with_reducible assumption) | refine Below.setCell ?_ (by simp <;> omega) _ | refine Below.alloc ?_ (by simp <;> omega) _ | refine Below.drew ?_)
theorem znext (g d:Nat)(t:Tok)(l:List Tok)(w:World)(h:Pz w g d (t::l)):Calls Tryz.prog 136 #[.pointer (some ⟨g,0,none⟩),nv t.1] w (Zut [g] g d w l fun _ v=> ∃p q r,v=tokV t p q r):=by
 obtain ⟨A,n,c,ea,eb,ec,hp⟩:=h
 have hlen:=hp.row.len
 have hcap:=hp.row.cap
 obtain ⟨⟨x0,x4⟩,xf0,xf4⟩:=hp.cells
 have hlt:=hp.lt
 have HP:=Lib.hid hp
 obtain ⟨b,off,tp,tq,tr,rfl,hb,⟨⟨y0,y1⟩,y2,y3,y4⟩,⟨y5,y6⟩,y7⟩:=hp.row.head
 obtain ⟨tk,tt,tv⟩:=t
 dsimp only at y0 y1 y2 y3 y4
 clear hp
 have hn:1≤n:=by simp at hlen;omega
 have hn0:n≠0:=by omega
 have hc1:1≤c:=by omega
 have hcn:=hcap.1
 have hbw:b < w.heap.size:=by omega
 have e1:(tk !=tk)=false:=by simp
 go_enter Tryz.func136,Tryz.ntmps136
 go_wp2_with fail
 ·refine bodyPost_ret (v:=tokV (tk,tt,tv) tp tq tr) (by simp [results,Tryz.results136,go_sem,tokV]) rfl ?_
  obtain ⟨m1,m2⟩:=HP.out.past (Below.refl _ _) 0 rfl (A':=some ⟨b,off,none⟩) (c':=0) (fun h=> absurd (by assumption) h) rfl (by omega)
  exact ⟨(m1.alloc _).alloc _,(m2.alloc _).alloc _,_,rfl,_,_,_,rfl⟩
 ·refine bodyPost_ret (v:=tokV (tk,tt,tv) tp tq tr) (by simp [results,Tryz.results136,go_sem,tokV]) rfl ?_
  obtain ⟨m1,m2⟩:=HP.out.past (Below.refl _ _) 0 rfl (A':=some ⟨b,off+8,none⟩) (fun _=> rfl) rfl rfl
  exact ⟨(m1.alloc _).alloc _,(m2.alloc _).alloc _,_,rfl,_,_,_,rfl⟩
theorem zname (g d:Nat)(tt:List UInt8)(tv:Val)(l:List Tok)(w:World)(h:Pz w g d ((1,tt,tv)::l))(hx:tt.length≤1000000)(hi:isNameL tt=true):Calls Tryz.prog 97 #[.pointer (some ⟨g,0,none⟩)] w (Zut [g] g d w l fun _ v=> v=sv tt):=by
 have HS:=Lib.hid h
 have hN:Calls Tryz.prog 100 #[.pointer (some ⟨g,0,none⟩)] w fun e w'=> e= .returned (.bool true)∧w'=w:=by
  obtain ⟨A,n,c,ea,eb,ec,hp⟩:=h
  have hlen:=hp.row.len
  have hcap:=hp.row.cap
  obtain ⟨⟨x0,x4⟩,xf0,xf4⟩:=hp.cells
  have hlt:=hp.lt
  have HP:=Lib.hid hp
  obtain ⟨b,off,tp,tq,tr,rfl,hb,⟨⟨y0,y1⟩,y2,y3,y4⟩,⟨y5,y6⟩,y7⟩:=hp.row.head
  dsimp only at y0 y1 y2 y3 y4
  clear hp
  have hn:0 < n:=by simp at hlen;omega
  have d1:decide ((n:Int) > 0)=true:=by simp;omega
  go_enter Tryz.func100,Tryz.ntmps100
  go_wp2_with fail
  refine (isName_any tt _ (by omega)).mono ?_;rintro e w1 ⟨rfl,rfl⟩
  rw [hi]
  go_wp2_with fail
  go_ret
  exact ⟨rfl,rfl⟩
 have HN:=Lib.hid hN
 clear h hN
 go_enter Tryz.func97,Tryz.ntmps97
 go_wp2_with fail
 refine HN.out.mono ?_;rintro e w1 ⟨rfl,rfl⟩
 go_wp2_with fail
 refine (znext g d (1,tt,tv) l _ HS.out).mono ?_;rintro e w2 ⟨m2,p2,v,rfl,p,q,z,rfl⟩
 have M2:=Lib.hid m2
 have P2:=Lib.hid p2
 clear m2 p2
 unfold tokV
 have f1:=tok_f1 1 tv.k tv.n p q z tt tv.s w2
 go_wp2_with fail
 go_ret
 exact ⟨M2.out,P2.out,_,rfl,rfl⟩
theorem zwant (g d:Nat)(l:List Tok)(s:List UInt8)(b:Nat)(w:World)(h:Pz w g d l)(hg:g < b)(hb:w.heap[b]? =some (.cells #[sv s] 9 (0,0)))(hi:isT l s=true):Calls Tryz.prog 96 #[.pointer (some ⟨g,0,none⟩),.slice (some ⟨b,0,none⟩) 1 1] w (Zut [g] g d w l.tail fun _ v=> v= .tuple #[]):=by
 have HS:=Lib.hid h
 have hc:w.cell? ⟨b,0,none⟩=some (sv s):=by rw [Lib.cell_of_heap hb];rfl
 clear h hb
 go_enter Tryz.func96,Tryz.ntmps96
 go_wp2_with fail
 go_loopw [5,8] (fun _ i wr=> (i=nv 0∧wr=w)∨(i=nv 1∧Hid (Mod [g] w wr)∧Hid (Pz wr g d l.tail))) (fun _ i _=> 1 - (intOf i).toNat)
 case atStart=> exact .inl ⟨rfl,rfl⟩
 case round=>
  rcases hrel with ⟨rfl,rfl⟩ | ⟨rfl,HM,HT⟩
  ·go_wp2_with fail
   refine (ztake g d l s _ HS.out).mono ?_;rintro e w1 ⟨rfl,m1,p1⟩
   rw [hi]at p1
   rw [hi]
   have P1:Hid (Pz w1 g d l.tail):=Lib.hid p1
   have M1:=Lib.hid m1
   clear m1 p1
   go_wp2_with fail
   go_roundw
   case rel=> exact .inr ⟨by go_num,M1,P1⟩
   case measure=> simp [intOf]
  ·go_wp2_with fail
   go_end0
   exact ⟨HM.out,HT.out,_,rfl,rfl⟩
theorem zroom (g n most:Nat)(w:World)(hn:n < most)(hm:most≤1000000):Calls Tryz.prog 46 #[.pointer (some ⟨g,0,none⟩),nv n,nv most] w fun e w'=> e= .returned (.tuple #[])∧w'=w:=by
 have d1:decide ((n:Int) ≥ (most:Int))=false:=by simp;omega
 have d2:decide (most≤n)=false:=by simp;omega
 clear hn hm
 go_enter Tryz.func46,Tryz.ntmps46
 go_wp2_with fail
 go_end0
 exact ⟨rfl,rfl⟩
theorem zop (g d:Nat)(tt:List UInt8)(tv:Val)(l:List Tok)(w:World)(h:Pz w g d ((4,tt,tv)::l)):Calls Tryz.prog 177 #[.pointer (some ⟨g,0,none⟩)] w fun e w'=> e= .returned (.tuple #[nv (binS tt).1,nv (binS tt).2])∧w'=w:=by
 obtain ⟨A,n,c,ea,eb,ec,hp⟩:=h
 have hlen:=hp.row.len
 have hcap:=hp.row.cap
 obtain ⟨⟨x0,x4⟩,xf0,xf4⟩:=hp.cells
 have hlt:=hp.lt
 have HP:=Lib.hid hp
 obtain ⟨b,off,tp,tq,tr,rfl,hb,⟨⟨y0,y1⟩,y2,y3,y4⟩,⟨y5,y6⟩,y7⟩:=hp.row.head
 dsimp only at y0 y1 y2 y3 y4
 clear hp
 have hn:n≠0:=by simp at hlen;omega
 obtain ⟨o1,ho1⟩: ∃o:Nat,(binS tt).1=o:=⟨_,rfl⟩
 obtain ⟨o2,ho2⟩: ∃o:Nat,(binS tt).2=o:=⟨_,rfl⟩
 have HO:=Lib.hid (And.intro ho1 ho2)
 rw [ho1,ho2]
 clear ho1 ho2
 go_enter Tryz.func177,Tryz.ntmps177
 go_wp2_with fail
 refine (binary_any tt _).mono ?_;rintro e w1 ⟨rfl,rfl⟩
 rw [HO.out.1,HO.out.2]
 go_wp2_with fail
 go_ret2
 exact ⟨rfl,rfl⟩
end Go.Proofs.YtnbmpfdffoidaaaGreatDoor.Y
namespace Go.Proofs.YtnbmpfdffoidaaaGreatDoor.Y
open Go.RowKit O V S X
theorem zlitN (g d:Nat)(tt:List UInt8)(tv:Val)(l:List Tok)(w:World)(h:Pz w g d ((2,tt,tv)::l)):Calls Tryz.prog 183 #[.pointer (some ⟨g,0,none⟩)] w (Zut [g] g d w l fun _ v=> v= .tuple #[vv tv,.bool true]):=by
 obtain ⟨A,n,c,ea,eb,ec,hp⟩:=h
 have hlen:=hp.row.len
 have hcap:=hp.row.cap
 obtain ⟨⟨x0,x4⟩,xf0,xf4⟩:=hp.cells
 have hlt:=hp.lt
 have HP:=Lib.hid hp
 obtain ⟨b,off,tp,tq,tr,rfl,hb,⟨⟨y0,y1⟩,y2,y3,y4⟩,⟨y5,y6⟩,y7⟩:=hp.row.head
 dsimp only at y0 y1 y2 y3 y4
 have hn:1≤n:=by simp at hlen;omega
 have hn0:n≠0:=by omega
 have hc1:1≤c:=by omega
 have hcn:=hcap.1
 have hbw:b < w.heap.size:=by omega
 have hne:g≠w.heap.size:=by omega
 clear hp
 go_enter Tryz.func183,Tryz.ntmps183
 go_wp2_with fail
 go_region
 have hW:Hid (Below w.heap.size w ((((w.alloc (Obj.cells #[Value.int .i64 0,Value.int .i64 0,Value.string ⟨#[]⟩] 57)).alloc (Obj.cells #[nv 2,sv tt,nv tv.k,nv tv.n,sv tv.s,nv tp,nv tq,nv tr] 101)).alloc (Obj.cells #[nv tv.k,nv tv.n,sv tv.s] 57)).drew)):=Lib.hid (by repeat (first | exact Below.refl _ _ | refine Below.drew ?_ | refine Below.alloc ?_ (by simp <;> omega) _))
 have E0:Hid ((((w.alloc (Obj.cells #[Value.int .i64 0,Value.int .i64 0,Value.string ⟨#[]⟩] 57)).alloc (Obj.cells #[nv 2,sv tt,nv tv.k,nv tv.n,sv tv.s,nv tp,nv tq,nv tr] 101)).alloc (Obj.cells #[nv tv.k,nv tv.n,sv tv.s] 57)).drew.heap[w.heap.size]? =some (.cells #[Value.int .i64 0,Value.int .i64 0,Value.string ⟨#[]⟩] 57 (0,0))):=Lib.hid (alloc_old' (alloc_old' (alloc_at rfl)))
 have E1:Hid ((((w.alloc (Obj.cells #[Value.int .i64 0,Value.int .i64 0,Value.string ⟨#[]⟩] 57)).alloc (Obj.cells #[nv 2,sv tt,nv tv.k,nv tv.n,sv tv.s,nv tp,nv tq,nv tr] 101)).alloc (Obj.cells #[nv tv.k,nv tv.n,sv tv.s] 57)).drew.heap[w.heap.size+1]? =some (.cells #[nv 2,sv tt,nv tv.k,nv tv.n,sv tv.s,nv tp,nv tq,nv tr] 101 (0,0))):=Lib.hid (alloc_old' (alloc_at (by simp)))
 have E2:Hid ((((w.alloc (Obj.cells #[Value.int .i64 0,Value.int .i64 0,Value.string ⟨#[]⟩] 57)).alloc (Obj.cells #[nv 2,sv tt,nv tv.k,nv tv.n,sv tv.s,nv tp,nv tq,nv tr] 101)).alloc (Obj.cells #[nv tv.k,nv tv.n,sv tv.s] 57)).drew.heap[w.heap.size+1+1]? =some (.cells #[nv tv.k,nv tv.n,sv tv.s] 57 (0,0))):=Lib.hid (alloc_at (by simp))
 obtain ⟨W,hWW⟩: ∃W,(((w.alloc (Obj.cells #[Value.int .i64 0,Value.int .i64 0,Value.string ⟨#[]⟩] 57)).alloc (Obj.cells #[nv 2,sv tt,nv tv.k,nv tv.n,sv tv.s,nv tp,nv tq,nv tr] 101)).alloc (Obj.cells #[nv tv.k,nv tv.n,sv tv.s] 57)).drew=W:=⟨_,rfl⟩
 rw [hWW]at hW E0 E1 E2⊢
 clear hWW
 have x0:W.cell? ⟨g,0,none⟩=some (.slice (some ⟨b,off,none⟩) n c):=by rw [Lib.cell_of_heap ((hW.out.block g hlt).trans HP.out.box)];rfl
 have xf0:W.frozen? ⟨g,0,none⟩=false:=Lib.frozen_of_heap ((hW.out.block g hlt).trans HP.out.box) 0
 have z0:W.cell? ⟨w.heap.size+1,0,none⟩=some (nv 2):=by rw [Lib.cell_of_heap E1.out];rfl
 have z1:W.cell? ⟨w.heap.size+1,1,none⟩=some (sv tt):=by rw [Lib.cell_of_heap E1.out];rfl
 obtain ⟨v0,v1,v2⟩:=cells3 E2.out
 have vf:=fun j=> Lib.frozen_of_heap E2.out j
 have vf0:=vf 0
 have vf1:=vf 1
 have vf2:=vf 2
 clear vf
 obtain ⟨r0,r1,r2⟩:=cells3 E0.out
 have rf:=fun j=> Lib.frozen_of_heap E0.out j
 have rf0:=rf 0
 have rf1:=rf 1
 have rf2:=rf 2
 clear rf
 have hgb:g≠w.heap.size+1+1:=by omega
 have hWs:Hid (w.heap.size+1+1 < W.heap.size):=Lib.hid (Array.getElem?_eq_some_iff.1 E2.out).1
 go_wp2_with fail
 ·refine bodyPost_ret (v:= .tuple #[vv tv,.bool true]) (by simp [results,Tryz.results183,go_sem,vv,r0,r1,r2,hne,hne.symm]) rfl ?_
  refine ⟨?_,?_,_,rfl,rfl⟩
  ·repeat (first | (with_reducible exact Mod.of_below hW.out) | refine Mod.set ?_ (.inr (by omega)) _ | refine Mod.set ?_ (.inl (by simp)) _)
  ·repeat (refine Pz.set ?_ (by omega) _)
   refine (HP.out.past ?_ 0 rfl (A':=some ⟨b,off,none⟩) (c':=0) (fun h=> absurd (by assumption) h) rfl (by omega)).2
   repeat (first | (with_reducible exact hW.out) | refine Below.setCell ?_ (by simp only;omega) _)
 ·refine bodyPost_ret (v:= .tuple #[vv tv,.bool true]) (by simp [results,Tryz.results183,go_sem,vv,r0,r1,r2,hne,hne.symm]) rfl ?_
  refine ⟨?_,?_,_,rfl,rfl⟩
  ·repeat (first | (with_reducible exact Mod.of_below hW.out) | refine Mod.set ?_ (.inr (by omega)) _ | refine Mod.set ?_ (.inl (by simp)) _)
  ·repeat (refine Pz.set ?_ (by omega) _)
   refine (HP.out.past ?_ 0 rfl (A':=some ⟨b,off+8,none⟩) (c':=c - 1) (fun _=> rfl) rfl rfl).2
   repeat (first | (with_reducible exact hW.out) | refine Below.setCell ?_ (by simp only;omega) _)
theorem zlitW (g d:Nat)(tt:List UInt8)(tv:Val)(l:List Tok)(w:World)(h:Pz w g d ((1,tt,tv)::l))(ht:tt≠[116,114,117,101])(hf:tt≠[102,97,108,115,101]):Calls Tryz.prog 183 #[.pointer (some ⟨g,0,none⟩)] w (Zut [g] g d w ((1,tt,tv)::l) fun _ v=> ∃a b s,v= .tuple #[.agg #[nv a,nv b,sv s],.bool false]):=by
 have HS:=Lib.hid h
 obtain ⟨A,n,c,ea,eb,ec,hp⟩:=h
 have hlen:=hp.row.len
 have hcap:=hp.row.cap
 obtain ⟨⟨x0,x4⟩,xf0,xf4⟩:=hp.cells
 have hlt:=hp.lt
 have HP:=Lib.hid hp
 obtain ⟨b,off,tp,tq,tr,rfl,hb,⟨⟨y0,y1⟩,y2,y3,y4⟩,⟨y5,y6⟩,y7⟩:=hp.row.head
 dsimp only at y0 y1 y2 y3 y4
 have hn:1≤n:=by simp at hlen;omega
 have hn0:n≠0:=by omega
 have hc1:1≤c:=by omega
 have hcn:=hcap.1
 have hbw:b < w.heap.size:=by omega
 have hne:g≠w.heap.size:=by omega
 clear hp
 have e4:(tt==[116,114,117,101])=false:=by simpa using ht
 have e5:(tt==[102,97,108,115,101])=false:=by simpa using hf
 clear ht hf
 go_enter Tryz.func183,Tryz.ntmps183
 go_wp2_with fail
 go_region
 have hW:Hid (Below w.heap.size w ((((w.alloc (Obj.cells #[Value.int .i64 0,Value.int .i64 0,Value.string ⟨#[]⟩] 57)).alloc (Obj.cells #[nv 1,sv tt,nv tv.k,nv tv.n,sv tv.s,nv tp,nv tq,nv tr] 101)).alloc (Obj.cells #[nv tv.k,nv tv.n,sv tv.s] 57)).drew)):=Lib.hid (by repeat (first | exact Below.refl _ _ | refine Below.drew ?_ | refine Below.alloc ?_ (by simp <;> omega) _))
 have E0:Hid ((((w.alloc (Obj.cells #[Value.int .i64 0,Value.int .i64 0,Value.string ⟨#[]⟩] 57)).alloc (Obj.cells #[nv 1,sv tt,nv tv.k,nv tv.n,sv tv.s,nv tp,nv tq,nv tr] 101)).alloc (Obj.cells #[nv tv.k,nv tv.n,sv tv.s] 57)).drew.heap[w.heap.size]? =some (.cells #[Value.int .i64 0,Value.int .i64 0,Value.string ⟨#[]⟩] 57 (0,0))):=Lib.hid (alloc_old' (alloc_old' (alloc_at rfl)))
 have E1:Hid ((((w.alloc (Obj.cells #[Value.int .i64 0,Value.int .i64 0,Value.string ⟨#[]⟩] 57)).alloc (Obj.cells #[nv 1,sv tt,nv tv.k,nv tv.n,sv tv.s,nv tp,nv tq,nv tr] 101)).alloc (Obj.cells #[nv tv.k,nv tv.n,sv tv.s] 57)).drew.heap[w.heap.size+1]? =some (.cells #[nv 1,sv tt,nv tv.k,nv tv.n,sv tv.s,nv tp,nv tq,nv tr] 101 (0,0))):=Lib.hid (alloc_old' (alloc_at (by simp)))
 have E2:Hid ((((w.alloc (Obj.cells #[Value.int .i64 0,Value.int .i64 0,Value.string ⟨#[]⟩] 57)).alloc (Obj.cells #[nv 1,sv tt,nv tv.k,nv tv.n,sv tv.s,nv tp,nv tq,nv tr] 101)).alloc (Obj.cells #[nv tv.k,nv tv.n,sv tv.s] 57)).drew.heap[w.heap.size+1+1]? =some (.cells #[nv tv.k,nv tv.n,sv tv.s] 57 (0,0))):=Lib.hid (alloc_at (by simp))
 obtain ⟨W,hWW⟩: ∃W,(((w.alloc (Obj.cells #[Value.int .i64 0,Value.int .i64 0,Value.string ⟨#[]⟩] 57)).alloc (Obj.cells #[nv 1,sv tt,nv tv.k,nv tv.n,sv tv.s,nv tp,nv tq,nv tr] 101)).alloc (Obj.cells #[nv tv.k,nv tv.n,sv tv.s] 57)).drew=W:=⟨_,rfl⟩
 rw [hWW]at hW E0 E1 E2⊢
 clear hWW
 have x0:W.cell? ⟨g,0,none⟩=some (.slice (some ⟨b,off,none⟩) n c):=by rw [Lib.cell_of_heap ((hW.out.block g hlt).trans HP.out.box)];rfl
 have xf0:W.frozen? ⟨g,0,none⟩=false:=Lib.frozen_of_heap ((hW.out.block g hlt).trans HP.out.box) 0
 have z0:W.cell? ⟨w.heap.size+1,0,none⟩=some (nv 1):=by rw [Lib.cell_of_heap E1.out];rfl
 have z1:W.cell? ⟨w.heap.size+1,1,none⟩=some (sv tt):=by rw [Lib.cell_of_heap E1.out];rfl
 obtain ⟨v0,v1,v2⟩:=cells3 E2.out
 have vf:=fun j=> Lib.frozen_of_heap E2.out j
 have vf0:=vf 0
 have vf1:=vf 1
 have vf2:=vf 2
 clear vf
 obtain ⟨r0,r1,r2⟩:=cells3 E0.out
 have rf:=fun j=> Lib.frozen_of_heap E0.out j
 have rf0:=rf 0
 have rf1:=rf 1
 have rf2:=rf 2
 clear rf
 have hgb:g≠w.heap.size+1+1:=by omega
 have hWs:Hid (w.heap.size+1+1 < W.heap.size):=Lib.hid (Array.getElem?_eq_some_iff.1 E2.out).1
 go_wp2_with fail
 refine bodyPost_ret (v:= .tuple #[.agg #[nv tv.k,nv tv.n,sv tv.s],.bool false]) (by simp [results,Tryz.results183,go_sem,r0,r1,r2]) rfl ?_
 refine ⟨?_,?_,_,rfl,_,_,_,rfl⟩
 ·repeat (first | (with_reducible exact Mod.of_below hW.out) | refine Mod.set ?_ (.inr (by omega)) _)
 ·repeat (first | (with_reducible exact HS.out.next hW.out) | refine Pz.set ?_ (by omega) _)
end Go.Proofs.YtnbmpfdffoidaaaGreatDoor.Y
