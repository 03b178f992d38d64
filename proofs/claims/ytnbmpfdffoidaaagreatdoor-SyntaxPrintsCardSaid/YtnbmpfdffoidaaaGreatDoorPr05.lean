/- Texts of the proof, joined: RfS, RfF, RfW, RfIsN. -/
import Derived.Test.YtnbmpfdffoidaaaGreatDoorPr01
import Derived.Test.YtnbmpfdffoidaaaGreatDoorPr03
import Derived.Test.YtnbmpfdffoidaaaGreatDoorPr04
set_option linter.unusedVariables false
set_option linter.unusedSimpArgs false
set_option maxHeartbeats 8000000
set_option maxRecDepth 100000
namespace Go.Proofs.YtnbmpfdffoidaaaGreatDoor.Y
open Go.RowKit O V S X
theorem TR.at_ {w:World}{B:Nat}{A:Option Addr}{n c:Nat}{L:List Tok}(h:TR w B A n c L){i:Nat}(hi:i < L.length):
  ∃b off,∃p q r:Int,A=some ⟨b,off,none⟩∧b < B∧∀W:World,(∀b,b < B→W.heap[b]? =w.heap[b]?)→((W.cell? ⟨b,off+i * 8,none⟩=some (nv L[i].1)∧W.cell? ⟨b,off+i * 8+1,none⟩=some (sv L[i].2.1))∧W.cell? ⟨b,off+i * 8+2,none⟩=some (nv L[i].2.2.k)∧W.cell? ⟨b,off+i * 8+3,none⟩=some (nv L[i].2.2.n)∧W.cell? ⟨b,off+i * 8+4,none⟩=some (sv L[i].2.2.s))∧
   (W.cell? ⟨b,off+i * 8+5,none⟩=some (nv p)∧W.cell? ⟨b,off+i * 8+6,none⟩=some (nv q))∧W.cell? ⟨b,off+i * 8+7,none⟩=some (nv r):=by
 obtain ⟨xs,h1,h2⟩:=h.ex
 obtain ⟨b,off,vs,e,hb,⟨p,q,r,rfl⟩,hc⟩:=h1.elem TkS.size h2 hi (by omega)
 refine ⟨b,off,p,q,r,e,hb,fun W hW=> ?_⟩
 have hk: ∀j,W.cell? ⟨b,j,none⟩=w.cell? ⟨b,j,none⟩:=fun j=> World.cell?_of_block (a:=⟨b,j,none⟩) (hW b hb)
 refine ⟨⟨⟨?_,?_⟩,?_,?_,?_⟩,⟨?_,?_⟩,?_⟩ <;> rw [hk]
 ·exact hc 0 (by omega)
 ·exact hc 1 (by omega)
 ·exact hc 2 (by omega)
 ·exact hc 3 (by omega)
 ·exact hc 4 (by omega)
 ·exact hc 5 (by omega)
 ·exact hc 6 (by omega)
 ·exact hc 7 (by omega)
abbrev rfB (A:Option Addr)(n c:Nat)(i d e a b x p q r:Int):Obj:= .cells #[.slice A n c,nv i,nv d,nv e,nv a,nv b,nv x,nv p,nv q,nv r] 82 (0,0)
structure RfA (w:World)(g:Nat)(A:Option Addr)(n c:Nat)(L:List Tok)(i d e a b x p q r:Int):Prop where
 box:w.heap[g]? =some (rfB A n c i d e a b x p q r)
 row:TR w g A n c L
 ok:AllZ L
 txt: ∀t ∈ L,t.2.1.length≤1000000
 len:n≤100000
theorem RfA.lt {w:World}{g:Nat}{A:Option Addr}{n c:Nat}{L:List Tok}{i d e a b x p q r:Int}(h:RfA w g A n c L i d e a b x p q r):g < w.heap.size:=(Array.getElem?_eq_some_iff.1 h.box).1
theorem RfA.next {w w':World}{g:Nat}{A:Option Addr}{n c:Nat}{L:List Tok}{i d e a b x p q r:Int}(h:RfA w g A n c L i d e a b x p q r)(hb:Below w.heap.size w w'):RfA w' g A n c L i d e a b x p q r:=
 ⟨box_next h.box hb,h.row.keep fun k hk=> hb.block k (Nat.lt_trans hk h.lt),h.ok,h.txt,h.len⟩
theorem RfA.tk {w:World}{g:Nat}{A:Option Addr}{n c:Nat}{L:List Tok}{i:Nat}{d e a b x p q r:Int}{z:Int}(h:RfA w g A n c L z d e a b x p q r)(hi:i < L.length):
  ∃b off,∃p q r:Int,A=some ⟨b,off,none⟩∧b < w.heap.size∧∀W:World,Below w.heap.size w W→((W.cell? ⟨b,off+i * 8,none⟩=some (nv L[i].1)∧W.cell? ⟨b,off+i * 8+1,none⟩=some (sv L[i].2.1))∧W.cell? ⟨b,off+i * 8+2,none⟩=some (nv L[i].2.2.k)∧W.cell? ⟨b,off+i * 8+3,none⟩=some (nv L[i].2.2.n)∧W.cell? ⟨b,off+i * 8+4,none⟩=some (sv L[i].2.2.s))∧
   (W.cell? ⟨b,off+i * 8+5,none⟩=some (nv p)∧W.cell? ⟨b,off+i * 8+6,none⟩=some (nv q))∧W.cell? ⟨b,off+i * 8+7,none⟩=some (nv r):=by
 have hlt:=h.lt
 obtain ⟨b,off,p,q,r,e,hb,hc⟩:=h.row.at_ hi
 exact ⟨b,off,p,q,r,e,Nat.lt_trans hb hlt,fun W hW=> hc W fun k hk=> hW.block k (Nat.lt_trans hk hlt)⟩
theorem cells10 {W:World}{g:Nat}{x0 x1 x2 x3 x4 x5 x6 x7 x8 x9:Value}{T:TypeId}(h:W.heap[g]? =some (.cells #[x0,x1,x2,x3,x4,x5,x6,x7,x8,x9] T (0,0))):
  ((W.cell? ⟨g,0,none⟩=some x0∧W.cell? ⟨g,1,none⟩=some x1)∧(W.cell? ⟨g,2,none⟩=some x2∧W.cell? ⟨g,3,none⟩=some x3))∧
  ((W.cell? ⟨g,4,none⟩=some x4∧W.cell? ⟨g,5,none⟩=some x5)∧(W.cell? ⟨g,6,none⟩=some x6∧W.cell? ⟨g,7,none⟩=some x7))∧(W.cell? ⟨g,8,none⟩=some x8∧W.cell? ⟨g,9,none⟩=some x9):=by
 refine ⟨⟨⟨?_,?_⟩,?_,?_⟩,⟨⟨?_,?_⟩,?_,?_⟩,?_,?_⟩ <;> (rw [Lib.cell_of_heap h];rfl)
theorem frozen10 {W:World}{g:Nat}{cs:Array Value}{T:TypeId}(h:W.heap[g]? =some (.cells cs T (0,0))):
  ((W.frozen? ⟨g,0,none⟩=false∧W.frozen? ⟨g,1,none⟩=false)∧(W.frozen? ⟨g,2,none⟩=false∧W.frozen? ⟨g,3,none⟩=false))∧
  ((W.frozen? ⟨g,4,none⟩=false∧W.frozen? ⟨g,5,none⟩=false)∧(W.frozen? ⟨g,6,none⟩=false∧W.frozen? ⟨g,7,none⟩=false))∧(W.frozen? ⟨g,8,none⟩=false∧W.frozen? ⟨g,9,none⟩=false):=
 ⟨⟨⟨Lib.frozen_of_heap h 0,Lib.frozen_of_heap h 1⟩,Lib.frozen_of_heap h 2,Lib.frozen_of_heap h 3⟩,⟨⟨Lib.frozen_of_heap h 4,Lib.frozen_of_heap h 5⟩,Lib.frozen_of_heap h 6,Lib.frozen_of_heap h 7⟩,Lib.frozen_of_heap h 8,Lib.frozen_of_heap h 9⟩
def tkT (t:Tok):List UInt8:=if t.1=3 then []else t.2.1
section
variable {w:World} {g:Nat} {A:Option Addr} {n c:Nat} {L:List Tok} {d e a b x p q r:Int}
theorem text_end (h:RfA w g A n c L n d e a b x p q r):Calls Tryz.prog 28 #[.pointer (some ⟨g,0,none⟩)] w fun e w'=> e= .returned (sv [])∧Below w.heap.size w w':=by
 have HB:=Lib.hid h.box
 have hcap:=h.row.cap
 clear h
 go_enter Tryz.func28,Tryz.ntmps28
 go_wp2_with fail
 refine wp_region_sched [(0,true),(1,true),(2,true),(3,true),(4,true),(5,true),(6,true),(7,true),(8,true),(9,true),(10,true),(11,true),(12,true),(13,true),(14,true),(15,true),(16,true),(17,true),(18,true),(19,true),(20,true),(21,true),(22,true),(23,true)] (by kernel_rfl) (by kernel_rfl) (fun _ _ d _ _ h=> by cases d <;> exact h) ?_
 refine swith (fun W hW=> (cells10 (box_next HB.out ((Below.refl _ _).drew.trans hW.out)))) (fun qx=> ?_)
 repeat (first | (refine srE ?_;simp only [Act.put,sA,sB,sC]) | (refine skE ?_;simp only [Act.put,sA,sB,sC]))
 refine sdone ?_
 go_wp2_with fail
 go_ret
 exact ⟨rfl,(Below.refl _ _).drew⟩
theorem text_at {i:Nat}(h:RfA w g A n c L i d e a b x p q r)(hi:i < L.length):Calls Tryz.prog 28 #[.pointer (some ⟨g,0,none⟩)] w fun e w'=> e= .returned (sv (tkT L[i]))∧Below w.heap.size w w':=by
 have HB:=Lib.hid h.box
 have hcap:=h.row.cap
 have hn:=h.row.len
 have hlt:=h.lt
 have hin:i < n:=by omega
 obtain ⟨tb,off,tp,tq,tr,rfl,hb,hc⟩:=h.tk hi
 have HC:=Lib.hid hc
 clear h hc
 have hii:(i:Int) < (n:Int):=by omega
 have hnn: ¬n≤i:=by omega
 generalize L[i]=t at *
 by_cases hk:t.1=3
 ·rw [show tkT t=[] by unfold tkT;rw [if_pos hk]]
  have d1:(t.1==3)=true:=by simp [hk]
  go_enter Tryz.func28,Tryz.ntmps28
  go_wp2_with fail
  refine wp_region_sched [(0,true),(1,true),(2,true),(3,true),(4,true),(5,true),(6,true),(7,true),(8,true),(9,true),(10,true),(11,true),(12,true),(13,true),(14,true),(15,true),(16,true),(17,true),(18,true),(19,true),(20,true),(21,true),(22,true),(23,true)] (by kernel_rfl) (by kernel_rfl) (fun _ _ d _ _ h=> by cases d <;> exact h) ?_
  refine swith (fun W hW=> (cells10 (box_next HB.out ((Below.refl _ _).drew.trans hW.out)))) (fun qx=> ?_)
  refine swith (fun W hW=> (HC.out W ((Below.refl _ _).drew.trans hW.out))) (fun qt=> ?_)
  repeat (first | (refine srE ?_;simp only [Act.put,sA,sB,sC]) | (refine skE ?_;simp only [Act.put,sA,sB,sC]))
  refine sdone ?_
  go_wp2_with fail
  go_ret
  exact ⟨rfl,(Below.refl _ _).drew⟩
 ·rw [show tkT t=t.2.1 by unfold tkT;rw [if_neg hk]]
  have d1:(t.1==3)=false:=by simp [hk]
  go_enter Tryz.func28,Tryz.ntmps28
  go_wp2_with fail
  refine wp_region_sched [(0,true),(1,true),(2,true),(3,true),(4,true),(5,true),(6,true),(7,true),(8,true),(9,true),(10,true),(11,true),(12,true),(13,true),(14,true),(15,true),(16,true),(17,true),(18,true),(19,true),(20,true),(21,true),(22,true),(23,true)] (by kernel_rfl) (by kernel_rfl) (fun _ _ d _ _ h=> by cases d <;> exact h) ?_
  refine swith (fun W hW=> (cells10 (box_next HB.out ((Below.refl _ _).drew.trans hW.out)))) (fun qx=> ?_)
  refine swith (fun W hW=> (HC.out W ((Below.refl _ _).drew.trans hW.out))) (fun qt=> ?_)
  repeat (first | (refine srE ?_;simp only [Act.put,sA,sB,sC]) | (refine skE ?_;simp only [Act.put,sA,sB,sC]))
  refine sdone ?_
  go_wp2_with fail
  refine wp_region_sched [(0,true),(1,true),(2,true),(3,true),(4,true),(5,true),(6,true),(7,true),(8,true),(9,true),(10,true),(11,true)] (by kernel_rfl) (by kernel_rfl) (fun _ _ d _ _ h=> by cases d <;> exact h) ?_
  refine swith (fun W hW=> (cells10 (box_next HB.out ((Below.refl _ _).drew.drew.trans hW.out)))) (fun qx=> ?_)
  refine swith (fun W hW=> (HC.out W ((Below.refl _ _).drew.drew.trans hW.out))) (fun qt=> ?_)
  repeat (first | (refine srE ?_;simp only [Act.put,sA,sB,sC]) | (refine skE ?_;simp only [Act.put,sA,sB,sC]))
  refine sdone ?_
  go_wp2_with fail
  go_ret
  exact ⟨rfl,(Below.refl _ _).drew.drew⟩
end
theorem frozen3p {W:World}{g:Nat}{cs:Array Value}{T:TypeId}(h:W.heap[g]? =some (.cells cs T (0,0))):(W.frozen? ⟨g,0,none⟩=false∧W.frozen? ⟨g,1,none⟩=false)∧W.frozen? ⟨g,2,none⟩=false:=
 ⟨⟨Lib.frozen_of_heap h 0,Lib.frozen_of_heap h 1⟩,Lib.frozen_of_heap h 2⟩
theorem cells3q {W:World}{g:Nat}{a b c:Value}{T:TypeId}(h:W.heap[g]? =some (.cells #[a,b,c] T (0,0))):
  (W.cell? ⟨g,0,none⟩=some a∧W.cell? ⟨g,1,none⟩=some b)∧W.cell? ⟨g,2,none⟩=some c:=by
 refine ⟨⟨?_,?_⟩,?_⟩ <;> (rw [Lib.cell_of_heap h];rfl)
theorem RfA.upd {w w':World}{g:Nat}{A:Option Addr}{n c:Nat}{L:List Tok}{i d e a b x p q r i' d' e' a' b' x' p' q' r':Int}(h:RfA w g A n c L i d e a b x p q r)(hb:w'.heap[g]? =some (rfB A n c i' d' e' a' b' x' p' q' r'))(hk: ∀k,k < g→w'.heap[k]? =w.heap[k]?):RfA w' g A n c L i' d' e' a' b' x' p' q' r':=
 ⟨hb,h.row.keep hk,h.ok,h.txt,h.len⟩
section
variable {w:World} {g:Nat} {A:Option Addr} {n c:Nat} {L:List Tok} {d e a b x p q r:Int}
theorem here_end (h:RfA w g A n c L n d e a b x p q r):Calls Tryz.prog 62 #[.pointer (some ⟨g,0,none⟩)] w fun e w'=> (∃p q r:Int,e= .returned (.agg #[nv p,nv q,nv r]))∧Below w.heap.size w w':=by
 have HB:=Lib.hid h.box
 have hcap:=h.row.cap
 clear h
 go_enter Tryz.func62,Tryz.ntmps62
 go_upto_region 1 with fail
 obtain ⟨w1,hw1⟩: ∃W,w.alloc (.cells #[nv 0,nv 0,nv 0] 28)=W:=⟨_,rfl⟩
 have ZX:Hid (w1.heap[w.heap.size]? =some (.cells #[nv 0,nv 0,nv 0] 28 (0,0))):=Lib.hid (by rw [← hw1];exact alloc_at rfl)
 have D1:Hid (Below w.heap.size w w1):=Lib.hid (by rw [← hw1];exact (Below.refl _ _).alloc (Nat.le_refl _) _)
 rw [hw1]
 clear hw1
 refine wp_region_sched [(0,true),(1,true),(2,true),(3,true),(4,true),(5,true),(6,true),(7,true),(8,true),(9,true)] (by kernel_rfl) (by kernel_rfl) (fun _ _ d _ _ h=> by cases d <;> exact h) ?_
 refine swith (fun W hW=> (cells10 (box_next HB.out (bthen D1.out ((Below.refl _ _).drew.trans hW.out))))) (fun qx=> ?_)
 repeat (first | (refine srE ?_;simp only [Act.put,sA,sB,sC]) | (refine skE ?_;simp only [Act.put,sA,sB,sC]))
 refine sdone ?_
 clear qx
 obtain ⟨w2,hw2⟩: ∃W,w1.drew=W:=⟨_,rfl⟩
 have D2:Hid (Below w.heap.size w w2):=Lib.hid (by rw [← hw2];exact D1.out.drew)
 have ZW:Hid (w2.heap[w.heap.size]? =some (.cells #[nv 0,nv 0,nv 0] 28 (0,0))):=Lib.hid (by rw [← hw2];exact ZX.out)
 rw [hw2]
 clear hw2 ZX D1
 obtain ⟨⟨⟨x0,x1⟩,x2,x3⟩,⟨⟨x4,x5⟩,x6,x7⟩,x8,x9⟩:=cells10 (box_next HB.out D2.out)
 obtain ⟨⟨z0,z1⟩,z2⟩:=cells3q ZW.out
 obtain ⟨⟨f0,f1⟩,f2⟩:=frozen3p ZW.out
 go_wp2_with fail
 have X3:=heap_set (i:=2) (heap_set (i:=1) (heap_set (i:=0) ZW.out (nv p)) (nv q)) (nv r)
 have B3:Below w.heap.size w (((w2.setCell ⟨w.heap.size,0,none⟩ (nv p)).setCell ⟨w.heap.size,1,none⟩ (nv q)).setCell ⟨w.heap.size,2,none⟩ (nv r)):=by
  refine Below.setCell (Below.setCell (Below.setCell D2.out ?_ _) ?_ _) ?_ _ <;> simp
 obtain ⟨w3,hw3⟩: ∃W,((w2.setCell ⟨w.heap.size,0,none⟩ (nv p)).setCell ⟨w.heap.size,1,none⟩ (nv q)).setCell ⟨w.heap.size,2,none⟩ (nv r)=W:=⟨_,rfl⟩
 rw [hw3]at X3 B3⊢
 obtain ⟨⟨v0,v1⟩,v2⟩:=cells3q X3
 refine bodyPost_ret (v:=(.agg #[nv p,nv q,nv r])) (by simp [results,Tryz.results62,go_sem,v0,v1,v2]) rfl ?_
 exact ⟨⟨_,_,_,rfl⟩,B3⟩
theorem here_at {i:Nat}(h:RfA w g A n c L i d e a b x p q r)(hi:i < L.length):Calls Tryz.prog 62 #[.pointer (some ⟨g,0,none⟩)] w fun e w'=> (∃p q r:Int,e= .returned (.agg #[nv p,nv q,nv r]))∧Below w.heap.size w w':=by
 have HB:=Lib.hid h.box
 have hcap:=h.row.cap
 have hn:=h.row.len
 have hin:i < n:=by omega
 obtain ⟨tb,off,tp,tq,tr,rfl,hb,hc⟩:=h.tk hi
 have HC:=Lib.hid hc
 clear h hc
 have hii:(i:Int) < (n:Int):=by omega
 have hnn: ¬n≤i:=by omega
 generalize L[i]=t at *
 go_enter Tryz.func62,Tryz.ntmps62
 go_upto_region 1 with fail
 obtain ⟨w1,hw1⟩: ∃W,w.alloc (.cells #[nv 0,nv 0,nv 0] 28)=W:=⟨_,rfl⟩
 have ZX:Hid (w1.heap[w.heap.size]? =some (.cells #[nv 0,nv 0,nv 0] 28 (0,0))):=Lib.hid (by rw [← hw1];exact alloc_at rfl)
 have D1:Hid (Below w.heap.size w w1):=Lib.hid (by rw [← hw1];exact (Below.refl _ _).alloc (Nat.le_refl _) _)
 rw [hw1]
 clear hw1
 refine wp_region_sched [(0,true),(1,true),(2,true),(3,true),(4,true),(5,true),(6,true),(7,true),(8,true),(9,true)] (by kernel_rfl) (by kernel_rfl) (fun _ _ d _ _ h=> by cases d <;> exact h) ?_
 refine swith (fun W hW=> (cells10 (box_next HB.out (bthen D1.out ((Below.refl _ _).drew.trans hW.out))))) (fun qx=> ?_)
 repeat (first | (refine srE ?_;simp only [Act.put,sA,sB,sC]) | (refine skE ?_;simp only [Act.put,sA,sB,sC]))
 refine sdone ?_
 clear qx
 obtain ⟨w2,hw2⟩: ∃W,w1.drew=W:=⟨_,rfl⟩
 have D2:Hid (Below w.heap.size w w2):=Lib.hid (by rw [← hw2];exact D1.out.drew)
 have ZW:Hid (w2.heap[w.heap.size]? =some (.cells #[nv 0,nv 0,nv 0] 28 (0,0))):=Lib.hid (by rw [← hw2];exact ZX.out)
 rw [hw2]
 clear hw2 ZX D1
 have BX:Hid (w2.heap[g]? =some (rfB (some ⟨tb,off,none⟩) n c i d e a b x p q r)):=Lib.hid (box_next HB.out D2.out)
 have QT:Hid ((w2.cell? ⟨tb,off+i * 8+5,none⟩=some (nv tp)∧w2.cell? ⟨tb,off+i * 8+6,none⟩=some (nv tq))∧w2.cell? ⟨tb,off+i * 8+7,none⟩=some (nv tr)):=Lib.hid (HC.out w2 D2.out).2
 go_wp2_with fail
 refine wp_region_last (l:=[_,_,_,_,_,_,_,_,_,_,_]) [g,tb] (.read 0 (.read 1 (.read 2 (.read 3 (.read 4 (.read 5 (.read 6 (.read 7 (.read 8 (.read 9 (.read 10 .done))))))))))) (by kernel_rfl) (by kernel_rfl) (by kernel_rfl) (fun _ _ d _ _ h=> by cases d <;> exact h) ?_
 refine pwith (fun W hW=> (cells10 ((hW g (by simp)).trans BX.out))) (fun qx=> ?_)
 refine pwith (fun W hW=> (show (W.cell? ⟨tb,off+i * 8+5,none⟩=some (nv tp)∧W.cell? ⟨tb,off+i * 8+6,none⟩=some (nv tq))∧W.cell? ⟨tb,off+i * 8+7,none⟩=some (nv tr) from ⟨⟨(World.cell?_of_block (a:=⟨tb,off+i * 8+5,none⟩) (hW tb (by simp))).trans QT.out.1.1,(World.cell?_of_block (a:=⟨tb,off+i * 8+6,none⟩) (hW tb (by simp))).trans QT.out.1.2⟩,(World.cell?_of_block (a:=⟨tb,off+i * 8+7,none⟩) (hW tb (by simp))).trans QT.out.2⟩)) (fun qt=> ?_)
 repeat (first | (refine prE ?_;simp only [Act.put,sA,sB,sC]) | (refine pkE ?_;simp only [Act.put,sA,sB,sC]))
 refine pdone ?_
 refine last_step rfl (fun K hK=> ?_)
 clear qx qt
 obtain ⟨w4,hw4⟩: ∃W,w2.drew=W:=⟨_,rfl⟩
 replace D2:Hid (Below w.heap.size w w4):=Lib.hid (by rw [← hw4];exact D2.out.drew)
 replace ZW:Hid (w4.heap[w.heap.size]? =some (.cells #[nv 0,nv 0,nv 0] 28 (0,0))):=Lib.hid (by rw [← hw4];exact ZW.out)
 rw [hw4]
 clear hw4
 obtain ⟨⟨z0,z1⟩,z2⟩:=cells3q ZW.out
 obtain ⟨⟨f0,f1⟩,f2⟩:=frozen3p ZW.out
 go_simp
 refine hK.out _ _ ?_
 go_wp2_with fail
 have X3:=heap_set (i:=2) (heap_set (i:=1) (heap_set (i:=0) ZW.out (nv tp)) (nv tq)) (nv tr)
 have B3:Below w.heap.size w (((w4.setCell ⟨w.heap.size,0,none⟩ (nv tp)).setCell ⟨w.heap.size,1,none⟩ (nv tq)).setCell ⟨w.heap.size,2,none⟩ (nv tr)):=by
  refine Below.setCell (Below.setCell (Below.setCell D2.out ?_ _) ?_ _) ?_ _ <;> simp
 obtain ⟨w3,hw3⟩: ∃W,((w4.setCell ⟨w.heap.size,0,none⟩ (nv tp)).setCell ⟨w.heap.size,1,none⟩ (nv tq)).setCell ⟨w.heap.size,2,none⟩ (nv tr)=W:=⟨_,rfl⟩
 rw [hw3]at X3 B3⊢
 obtain ⟨⟨v0,v1⟩,v2⟩:=cells3q X3
 refine bodyPost_ret (v:=(.agg #[nv tp,nv tq,nv tr])) (by simp [results,Tryz.results62,go_sem,v0,v1,v2]) rfl ?_
 exact ⟨⟨_,_,_,rfl⟩,B3⟩
end
end Go.Proofs.YtnbmpfdffoidaaaGreatDoor.Y
namespace Go.Proofs.YtnbmpfdffoidaaaGreatDoor.Y
open Go.RowKit O V S X
section
variable {w:World} {g:Nat} {A:Option Addr} {n c:Nat} {L:List Tok} {i d e a b x p q r:Int}
theorem RfA.setE (h:RfA w g A n c L i d e a b x p q r)(v:Int):RfA (w.setCell ⟨g,3,none⟩ (nv v)) g A n c L i d v a b x p q r:=
 h.upd (heap_set (i:=3) h.box (nv v)) fun k hk=> Below.heap_setCell _ _ _ _ (by simp only;omega)
theorem RfA.setI (h:RfA w g A n c L i d e a b x p q r)(v:Int):RfA (w.setCell ⟨g,1,none⟩ (nv v)) g A n c L v d e a b x p q r:=
 h.upd (heap_set (i:=1) h.box (nv v)) fun k hk=> Below.heap_setCell _ _ _ _ (by simp only;omega)
theorem RfA.setD (h:RfA w g A n c L i d e a b x p q r)(v:Int):RfA (w.setCell ⟨g,2,none⟩ (nv v)) g A n c L i v e a b x p q r:=
 h.upd (heap_set (i:=2) h.box (nv v)) fun k hk=> Below.heap_setCell _ _ _ _ (by simp only;omega)
theorem RfA.setA (h:RfA w g A n c L i d e a b x p q r)(u v z:Int):RfA (((w.setCell ⟨g,4,none⟩ (nv u)).setCell ⟨g,5,none⟩ (nv v)).setCell ⟨g,6,none⟩ (nv z)) g A n c L i d e u v z p q r:=
 h.upd (heap_set (i:=6) (heap_set (i:=5) (heap_set (i:=4) h.box (nv u)) (nv v)) (nv z)) fun k hk=> by
  rw [Below.heap_setCell _ _ _ _ (by simp only;omega),Below.heap_setCell _ _ _ _ (by simp only;omega),Below.heap_setCell _ _ _ _ (by simp only;omega)]
theorem RfA.drew (h:RfA w g A n c L i d e a b x p q r):RfA w.drew g A n c L i d e a b x p q r:=h.next (Below.refl _ _).drew
end
theorem mod_set {w:World}{g i:Nat}(v:Value):Mod [g] w (w.setCell ⟨g,i,none⟩ v):=(Mod.refl _ _).set (.inl (by simp)) v
section
variable {w:World} {g:Nat} {A:Option Addr} {n c:Nat} {L:List Tok} {d e a b x p q r:Int}
theorem fail_bad {i:Int}(h:RfA w g A n c L i d e a b x p q r)(he:e≠0)(er:Int):Calls Tryz.prog 29 #[.pointer (some ⟨g,0,none⟩),nv er] w fun e w'=> e= .returned (.tuple #[])∧w'=w:=by
 have HX:=Lib.hid h
 clear h
 have d0:(e !=0)=true:=by simp [he]
 go_enter Tryz.func29,Tryz.ntmps29
 obtain ⟨⟨⟨x0,x1⟩,x2,x3⟩,⟨⟨x4,x5⟩,x6,x7⟩,x8,x9⟩:=cells10 HX.out.box
 obtain ⟨⟨⟨f0,f1⟩,f2,f3⟩,⟨⟨f4,f5⟩,f6,f7⟩,f8,f9⟩:=frozen10 HX.out.box
 go_wp2_with fail
 first | go_end0 | refine bodyPost_ret (results_none rfl _ _ _) rfl ?_
 exact ⟨rfl,rfl⟩
theorem fail_go {i:Nat}(h:RfA w g A n c L i d 0 a b x p q r)(hi:i≤L.length)(er:Int)(her:er≠0):Calls Tryz.prog 29 #[.pointer (some ⟨g,0,none⟩),nv er] w fun e w'=> e= .returned (.tuple #[])∧(∃er' a' b' x':Int,er'≠0∧RfA w' g A n c L n d er' a' b' x' p q r)∧Mod [g] w w':=by
 have hcap:=h.row.cap
 have hn:=h.row.len
 have HX:=Lib.hid h
 clear h
 by_cases hlt:i < L.length
 ·have hii:(i:Int) < (n:Int):=by omega
  have hnn: ¬n≤i:=by omega
  go_enter Tryz.func29,Tryz.ntmps29
  obtain ⟨⟨⟨x0,x1⟩,x2,x3⟩,⟨⟨x4,x5⟩,x6,x7⟩,x8,x9⟩:=cells10 HX.out.box
  obtain ⟨⟨⟨f0,f1⟩,f2,f3⟩,⟨⟨f4,f5⟩,f6,f7⟩,f8,f9⟩:=frozen10 HX.out.box
  go_wp2_with fail
  clear x0 x1 x2 x3 x4 x5 x6 x7 x8 x9 f0 f1 f2 f3 f4 f5 f6 f7 f8 f9
  refine wp_region_sched [(0,true),(1,true),(2,true),(3,true),(4,true),(5,true),(6,true),(7,true),(8,true),(9,true)] (by kernel_rfl) (by kernel_rfl) (fun _ _ d _ _ h=> by cases d <;> exact h) ?_
  refine swith (fun W hW=> (cells10 (box_next HX.out.box ((Below.refl _ _).drew.trans hW.out)))) (fun qx=> ?_)
  repeat (first | (refine srE ?_;simp only [Act.put,sA,sB,sC]) | (refine skE ?_;simp only [Act.put,sA,sB,sC]))
  refine sdone ?_
  (try clear qx)
  obtain ⟨w1,hw1⟩: ∃W,w.drew=W:=⟨_,rfl⟩
  replace HX:=Lib.hid HX.out.drew
  rw [hw1]at HX
  have MW:Hid (Mod [g] w w1):=Lib.hid (by rw [← hw1];exact (Mod.refl _ _).drew)
  rw [hw1]
  clear hw1
  obtain ⟨⟨⟨x0,x1⟩,x2,x3⟩,⟨⟨x4,x5⟩,x6,x7⟩,x8,x9⟩:=cells10 HX.out.box
  obtain ⟨⟨⟨f0,f1⟩,f2,f3⟩,⟨⟨f4,f5⟩,f6,f7⟩,f8,f9⟩:=frozen10 HX.out.box
  go_upto_region 4 with fail
  replace HX:=Lib.hid (HX.out.setE er)
  replace MW:=Lib.hid (MW.out.then (mod_set (g:=g) (i:=3) (nv er)))
  obtain ⟨w2,hw2⟩: ∃W,w1.setCell ⟨g,3,none⟩ (nv er)=W:=⟨_,rfl⟩
  rw [hw2]at HX MW
  rw [hw2]
  clear hw2
  clear x0 x1 x2 x3 x4 x5 x6 x7 x8 x9 f0 f1 f2 f3 f4 f5 f6 f7 f8 f9
  go_wp2_with fail
  refine (here_at HX.out hlt).mono ?_;rintro e w3 ⟨⟨u,v,z,rfl⟩,b3⟩
  replace HX:=Lib.hid (HX.out.next b3)
  replace MW:=Lib.hid (MW.out.then (.of_below b3))
  clear b3
  obtain ⟨⟨⟨x0,x1⟩,x2,x3⟩,⟨⟨x4,x5⟩,x6,x7⟩,x8,x9⟩:=cells10 HX.out.box
  obtain ⟨⟨⟨f0,f1⟩,f2,f3⟩,⟨⟨f4,f5⟩,f6,f7⟩,f8,f9⟩:=frozen10 HX.out.box
  go_upto_region 5 with fail
  replace HX:=Lib.hid (HX.out.setA u v z)
  replace MW:=Lib.hid (((MW.out.then (mod_set (g:=g) (i:=4) (nv u))).then (mod_set (g:=g) (i:=5) (nv v))).then (mod_set (g:=g) (i:=6) (nv z)))
  obtain ⟨w4,hw4⟩: ∃W,((w3.setCell ⟨g,4,none⟩ (nv u)).setCell ⟨g,5,none⟩ (nv v)).setCell ⟨g,6,none⟩ (nv z)=W:=⟨_,rfl⟩
  rw [hw4]at HX MW
  rw [hw4]
  clear hw4
  clear x0 x1 x2 x3 x4 x5 x6 x7 x8 x9 f0 f1 f2 f3 f4 f5 f6 f7 f8 f9
  obtain ⟨⟨⟨x0,x1⟩,x2,x3⟩,⟨⟨x4,x5⟩,x6,x7⟩,x8,x9⟩:=cells10 HX.out.box
  obtain ⟨⟨⟨f0,f1⟩,f2,f3⟩,⟨⟨f4,f5⟩,f6,f7⟩,f8,f9⟩:=frozen10 HX.out.box
  go_wp2_with fail
  first | go_end0 | refine bodyPost_ret (results_none rfl _ _ _) rfl ?_
  exact ⟨rfl,⟨_,_,_,_,her,HX.out.setI _⟩,MW.out.then (mod_set (g:=g) (i:=1) _)⟩
 ·obtain rfl:n=i:=by omega
  go_enter Tryz.func29,Tryz.ntmps29
  obtain ⟨⟨⟨x0,x1⟩,x2,x3⟩,⟨⟨x4,x5⟩,x6,x7⟩,x8,x9⟩:=cells10 HX.out.box
  obtain ⟨⟨⟨f0,f1⟩,f2,f3⟩,⟨⟨f4,f5⟩,f6,f7⟩,f8,f9⟩:=frozen10 HX.out.box
  go_wp2_with fail
  clear x0 x1 x2 x3 x4 x5 x6 x7 x8 x9 f0 f1 f2 f3 f4 f5 f6 f7 f8 f9
  refine wp_region_sched [(0,true),(1,true),(2,true),(3,true),(4,true),(5,true),(6,true),(7,true),(8,true),(9,true)] (by kernel_rfl) (by kernel_rfl) (fun _ _ d _ _ h=> by cases d <;> exact h) ?_
  refine swith (fun W hW=> (cells10 (box_next HX.out.box ((Below.refl _ _).drew.trans hW.out)))) (fun qx=> ?_)
  repeat (first | (refine srE ?_;simp only [Act.put,sA,sB,sC]) | (refine skE ?_;simp only [Act.put,sA,sB,sC]))
  refine sdone ?_
  (try clear qx)
  obtain ⟨w1,hw1⟩: ∃W,w.drew=W:=⟨_,rfl⟩
  replace HX:=Lib.hid HX.out.drew
  rw [hw1]at HX
  have MW:Hid (Mod [g] w w1):=Lib.hid (by rw [← hw1];exact (Mod.refl _ _).drew)
  rw [hw1]
  clear hw1
  obtain ⟨⟨⟨x0,x1⟩,x2,x3⟩,⟨⟨x4,x5⟩,x6,x7⟩,x8,x9⟩:=cells10 HX.out.box
  obtain ⟨⟨⟨f0,f1⟩,f2,f3⟩,⟨⟨f4,f5⟩,f6,f7⟩,f8,f9⟩:=frozen10 HX.out.box
  go_upto_region 4 with fail
  replace HX:=Lib.hid (HX.out.setE 12)
  replace MW:=Lib.hid (MW.out.then (mod_set (g:=g) (i:=3) (nv 12)))
  obtain ⟨w2,hw2⟩: ∃W,w1.setCell ⟨g,3,none⟩ (nv 12)=W:=⟨_,rfl⟩
  rw [hw2]at HX MW
  rw [hw2]
  clear hw2
  clear x0 x1 x2 x3 x4 x5 x6 x7 x8 x9 f0 f1 f2 f3 f4 f5 f6 f7 f8 f9
  go_wp2_with fail
  refine (here_end HX.out).mono ?_;rintro e w3 ⟨⟨u,v,z,rfl⟩,b3⟩
  replace HX:=Lib.hid (HX.out.next b3)
  replace MW:=Lib.hid (MW.out.then (.of_below b3))
  clear b3
  obtain ⟨⟨⟨x0,x1⟩,x2,x3⟩,⟨⟨x4,x5⟩,x6,x7⟩,x8,x9⟩:=cells10 HX.out.box
  obtain ⟨⟨⟨f0,f1⟩,f2,f3⟩,⟨⟨f4,f5⟩,f6,f7⟩,f8,f9⟩:=frozen10 HX.out.box
  go_upto_region 5 with fail
  replace HX:=Lib.hid (HX.out.setA u v z)
  replace MW:=Lib.hid (((MW.out.then (mod_set (g:=g) (i:=4) (nv u))).then (mod_set (g:=g) (i:=5) (nv v))).then (mod_set (g:=g) (i:=6) (nv z)))
  obtain ⟨w4,hw4⟩: ∃W,((w3.setCell ⟨g,4,none⟩ (nv u)).setCell ⟨g,5,none⟩ (nv v)).setCell ⟨g,6,none⟩ (nv z)=W:=⟨_,rfl⟩
  rw [hw4]at HX MW
  rw [hw4]
  clear hw4
  clear x0 x1 x2 x3 x4 x5 x6 x7 x8 x9 f0 f1 f2 f3 f4 f5 f6 f7 f8 f9
  obtain ⟨⟨⟨x0,x1⟩,x2,x3⟩,⟨⟨x4,x5⟩,x6,x7⟩,x8,x9⟩:=cells10 HX.out.box
  obtain ⟨⟨⟨f0,f1⟩,f2,f3⟩,⟨⟨f4,f5⟩,f6,f7⟩,f8,f9⟩:=frozen10 HX.out.box
  go_wp2_with fail
  first | go_end0 | refine bodyPost_ret (results_none rfl _ _ _) rfl ?_
  exact ⟨rfl,⟨_,_,_,_,(by decide),HX.out.setI _⟩,MW.out.then (mod_set (g:=g) (i:=1) _)⟩
end
end Go.Proofs.YtnbmpfdffoidaaaGreatDoor.Y
namespace Go.Proofs.YtnbmpfdffoidaaaGreatDoor.Y
open Go.RowKit O V S X
def ST (w:World)(g:Nat):Option (Nat × List Tok)→Prop
 | none=> ∃(A:Option Addr) (n c:Nat) (L:List Tok) (d e a b x p q r:Int),e≠0∧RfA w g A n c L n d e a b x p q r
 | some (d,l)=> ∃(A:Option Addr) (n c:Nat) (L:List Tok) (i:Nat) (a b x p q r:Int),(l=L.drop i∧i≤L.length∧d≤16)∧RfA w g A n c L i d 0 a b x p q r
abbrev Sg:=Option (Nat × List Tok)
theorem ST.lt {w:World}{g:Nat}: ∀{σ:Sg},ST w g σ→g < w.heap.size
 | none,⟨_,_,_,_,_,_,_,_,_,_,_,_,_,h⟩=> h.lt
 | some (_,_),⟨_,_,_,_,_,_,_,_,_,_,_,_,h⟩=> h.lt
theorem ST.next {w w':World}{g:Nat}: ∀{σ:Sg},ST w g σ→Below w.heap.size w w'→ST w' g σ
 | none,⟨A,n,c,L,d,e,a,b,x,p,q,r,he,h⟩,hb=> ⟨A,n,c,L,d,e,a,b,x,p,q,r,he,h.next hb⟩
 | some (_,_),⟨A,n,c,L,i,a,b,x,p,q,r,he,h⟩,hb=> ⟨A,n,c,L,i,a,b,x,p,q,r,he,h.next hb⟩
def txS:Sg→List UInt8
 | some (_,t::_)=> tkT t
 | _=> []
def adv:Sg→Sg
 | some (d,_::l)=> some (d,l)
 | _=> none
def wantS (σ:Sg)(s:List UInt8):Sg:=if txS σ=s then adv σ else none
def openS (σ:Sg)(s:List UInt8):Sg:=if txS σ=s then (match σ with
 | some (d,_::l)=> if d < 16 then some (d+1,l)else none
 | _=> none)else none
def shutS (σ:Sg)(s:List UInt8):Sg:=(wantS σ s).map fun (d,l)=> (d - 1,l)
theorem txS_pos {σ:Sg}{s:List UInt8}(h:txS σ=s)(hs:s≠[]): ∃d t l,σ=some (d,t::l)∧tkT t=s:=by
 match σ,h with
 | none,h=> exact absurd h.symm hs
 | some (_,[]),h=> exact absurd h.symm hs
 | some (d,t::l),h=> exact ⟨d,t,l,rfl,h⟩
theorem drop_cons {α:Type}{L l:List α}{t:α}{i:Nat}(h:t::l=L.drop i): ∃hi:i < L.length,L[i]=t∧l=L.drop (i+1):=by
 have hi:i < L.length:=by
  rcases Nat.lt_or_ge i L.length with h1 | h1
  ·exact h1
  ·rw [List.drop_of_length_le h1]at h;cases h
 refine ⟨hi,?_⟩
 rw [List.drop_eq_getElem_cons hi]at h
 injection h with h1 h2
 exact ⟨h1.symm,h2⟩
theorem f_text (g:Nat)(σ:Sg)(w:World)(h:ST w g σ):Calls Tryz.prog 28 #[.pointer (some ⟨g,0,none⟩)] w fun e w'=> e= .returned (sv (txS σ))∧Below w.heap.size w w':=by
 match σ,h with
 | none,⟨A,n,c,L,d,e,a,b,x,p,q,r,_,h⟩=> exact text_end h
 | some (d,[]),⟨A,n,c,L,i,a,b,x,p,q,r,⟨hl,hi,_⟩,h⟩=>
  have hin:i=n:=by
   have:=congrArg List.length hl
   have hn:=h.row.len
   simp at this
   omega
  subst hin
  exact text_end h
 | some (d,t::l),⟨A,n,c,L,i,a,b,x,p,q,r,⟨hl,_,_⟩,h⟩=>
  obtain ⟨hi,e1,_⟩:=drop_cons hl
  have:=text_at h hi
  rw [e1]at this
  exact this
theorem f_fail (g:Nat)(σ:Sg)(er:Int)(her:er≠0)(w:World)(h:ST w g σ):Calls Tryz.prog 29 #[.pointer (some ⟨g,0,none⟩),nv er] w fun e w'=> e= .returned (.tuple #[])∧ST w' g none∧Mod [g] w w':=by
 match σ,h with
 | none,⟨A,n,c,L,d,e,a,b,x,p,q,r,he,h⟩=>
  refine (fail_bad h he er).mono ?_
  rintro z w' ⟨rfl,rfl⟩
  exact ⟨rfl,⟨A,n,c,L,d,e,a,b,x,p,q,r,he,h⟩,Mod.refl _ _⟩
 | some (d,l),⟨A,n,c,L,i,a,b,x,p,q,r,⟨hl,hi,_⟩,h⟩=>
  refine (fail_go h hi er her).mono ?_
  rintro z w' ⟨rfl,⟨er',a',b',x',he,h'⟩,m⟩
  exact ⟨rfl,⟨A,n,c,L,d,er',a',b',x',p,q,r,he,h'⟩,m⟩
theorem ST.inc {w:World}{g d i n c:Nat}{t:Tok}{l L:List Tok}{A:Option Addr}{a b x p q r:Int}(hl:t::l=L.drop i)(hd:d≤16)(h:RfA w g A n c L i d 0 a b x p q r):ST (w.setCell ⟨g,1,none⟩ (nv ((i+1:Nat):Int))) g (some (d,l)):=by
 obtain ⟨hi,_,e⟩:=drop_cons hl
 exact ⟨A,n,c,L,i+1,a,b,x,p,q,r,⟨e,hi,hd⟩,h.setI _⟩
theorem f_want (g:Nat)(σ:Sg)(s:List UInt8)(hs:s≠[])(w:World)(h:ST w g σ):Calls Tryz.prog 63 #[.pointer (some ⟨g,0,none⟩),sv s] w fun e w'=> e= .returned (.tuple #[])∧ST w' g (wantS σ s)∧Mod [g] w w':=by
 by_cases ht:txS σ=s
 ·obtain ⟨d,t,l,rfl,hts⟩:=txS_pos ht hs
  have hw:wantS (some (d,t::l)) s=some (d,l):=by unfold wantS;rw [if_pos ht];rfl
  rw [hw]
  have s1:=fun w=> sneq_no s w
  have HT:=Lib.hid (f_text g _ w h)
  have HS:=Lib.hid h
  rw [ht]at HT
  clear h hw ht hts
  go_enter Tryz.func63,Tryz.ntmps63
  go_wp2_with fail
  refine HT.out.mono ?_;rintro e w2 ⟨rfl,b2⟩
  obtain ⟨A,n,c,L,i,a,b,x,p,q,r,⟨hl,hi,hd⟩,h2⟩:=HS.out.next b2
  have hlen:=h2.len
  have hrl:=h2.row.len
  have HX:=Lib.hid h2
  have HL:=Lib.hid hl
  clear h2 hl
  obtain ⟨⟨⟨x0,x1⟩,x2,x3⟩,⟨⟨x4,x5⟩,x6,x7⟩,x8,x9⟩:=cells10 HX.out.box
  obtain ⟨⟨⟨f0,f1⟩,f2,f3⟩,⟨⟨f4,f5⟩,f6,f7⟩,f8,f9⟩:=frozen10 HX.out.box
  go_wp2_with fail
  first | go_end0 | refine bodyPost_ret (results_none rfl _ _ _) rfl ?_
  refine ⟨rfl,?_,(Mod.of_below b2).then (mod_set _)⟩
  have:=ST.inc HL.out hd HX.out
  exact this
 ·have s1:(txS σ==s)=false:=by simpa using ht
  have hw:wantS σ s=none:=by unfold wantS;rw [if_neg ht]
  rw [hw]
  have HT:=Lib.hid (f_text g _ w h)
  have HS:=Lib.hid h
  clear h hw
  go_enter Tryz.func63,Tryz.ntmps63
  go_wp2_with fail
  refine HT.out.mono ?_;rintro e w2 ⟨rfl,b2⟩
  go_wp2_with fail
  refine (f_fail g σ 13 (by decide) w2 (HS.out.next b2)).mono ?_;rintro e w3 ⟨rfl,h3,m3⟩
  have H3:=Lib.hid h3
  have M3:=Lib.hid ((Mod.of_below b2).then m3)
  clear h3 m3 b2
  go_wp2_with fail
  first | go_end0 | refine bodyPost_ret (results_none rfl _ _ _) rfl ?_
  exact ⟨rfl,H3.out,M3.out⟩
def takeB (σ:Sg)(s:List UInt8):Bool:=decide (txS σ=s)
def takeS (σ:Sg)(s:List UInt8):Sg:=if txS σ=s then adv σ else σ
theorem f_take (g:Nat)(σ:Sg)(s:List UInt8)(hs:s≠[])(w:World)(h:ST w g σ):Calls Tryz.prog 66 #[.pointer (some ⟨g,0,none⟩),sv s] w fun e w'=> e= .returned (.bool (takeB σ s))∧ST w' g (takeS σ s)∧Mod [g] w w':=by
 by_cases ht:txS σ=s
 ·obtain ⟨d,t,l,rfl,hts⟩:=txS_pos ht hs
  have hw:takeS (some (d,t::l)) s=some (d,l):=by unfold takeS;rw [if_pos ht];rfl
  have hb:takeB (some (d,t::l)) s=true:=by unfold takeB;simpa using ht
  rw [hw,hb]
  have HT:=Lib.hid (f_text g _ w h)
  have HS:=Lib.hid h
  rw [ht]at HT
  obtain ⟨A,n,c,L,i,a,b,x,p,q,r,⟨hl,hi,hd⟩,h2⟩:=h
  have hlen:=h2.len
  have hrl:=h2.row.len
  have HX:=Lib.hid h2
  have HL:=Lib.hid hl
  have H2:=Lib.hid hd
  clear h2 hl hw ht hts hb hd
  go_enter Tryz.func66,Tryz.ntmps66
  obtain ⟨⟨⟨x0,x1⟩,x2,x3⟩,⟨⟨x4,x5⟩,x6,x7⟩,x8,x9⟩:=cells10 HX.out.box
  obtain ⟨⟨⟨f0,f1⟩,f2,f3⟩,⟨⟨f4,f5⟩,f6,f7⟩,f8,f9⟩:=frozen10 HX.out.box
  go_wp2_with fail
  refine HT.out.mono ?_;rintro e w2 ⟨rfl,b2⟩
  replace HX:=Lib.hid (HX.out.next b2)
  clear x0 x1 x2 x3 x4 x5 x6 x7 x8 x9 f0 f1 f2 f3 f4 f5 f6 f7 f8 f9
  obtain ⟨⟨⟨x0,x1⟩,x2,x3⟩,⟨⟨x4,x5⟩,x6,x7⟩,x8,x9⟩:=cells10 HX.out.box
  obtain ⟨⟨⟨f0,f1⟩,f2,f3⟩,⟨⟨f4,f5⟩,f6,f7⟩,f8,f9⟩:=frozen10 HX.out.box
  go_wp2_with fail
  go_ret
  refine ⟨rfl,?_,(Mod.of_below b2).then (mod_set _)⟩
  have:=ST.inc HL.out H2.out HX.out
  exact this
 ·have s1:(txS σ==s)=false:=by simpa using ht
  have hw:takeS σ s=σ:=by unfold takeS;rw [if_neg ht]
  have hb:takeB σ s=false:=by unfold takeB;simpa using ht
  rw [hw,hb]
  have HT:=Lib.hid (f_text g _ w h)
  have HS:=Lib.hid h
  match σ,h,HT,HS with
  | none,⟨A,n,c,L,d,e,a,b,x,p,q,r,he,h2⟩,HT,HS=>
   have d0:(e !=0)=true:=by simp [he]
   have HX:=Lib.hid h2
   clear h2 hw hb ht s1
   go_enter Tryz.func66,Tryz.ntmps66
   obtain ⟨⟨⟨x0,x1⟩,x2,x3⟩,⟨⟨x4,x5⟩,x6,x7⟩,x8,x9⟩:=cells10 HX.out.box
   obtain ⟨⟨⟨f0,f1⟩,f2,f3⟩,⟨⟨f4,f5⟩,f6,f7⟩,f8,f9⟩:=frozen10 HX.out.box
   go_wp2_with fail
   go_ret
   exact ⟨rfl,HS.out,Mod.refl _ _⟩
  | some (d,l),⟨A,n,c,L,i,a,b,x,p,q,r,⟨hl,hi,hd⟩,h2⟩,HT,HS=>
   have HX:=Lib.hid h2
   clear h2 hw hb hl
   go_enter Tryz.func66,Tryz.ntmps66
   obtain ⟨⟨⟨x0,x1⟩,x2,x3⟩,⟨⟨x4,x5⟩,x6,x7⟩,x8,x9⟩:=cells10 HX.out.box
   obtain ⟨⟨⟨f0,f1⟩,f2,f3⟩,⟨⟨f4,f5⟩,f6,f7⟩,f8,f9⟩:=frozen10 HX.out.box
   go_wp2_with fail
   refine HT.out.mono ?_;rintro e w2 ⟨rfl,b2⟩
   go_wp2_with fail
   go_ret
   exact ⟨rfl,HS.out.next b2,.of_below b2⟩
theorem f_open (g:Nat)(σ:Sg)(s:List UInt8)(hs:s≠[])(w:World)(h:ST w g σ):Calls Tryz.prog 121 #[.pointer (some ⟨g,0,none⟩),sv s] w fun e w'=> e= .returned (.tuple #[])∧ST w' g (openS σ s)∧Mod [g] w w':=by
 by_cases ht:txS σ=s
 ·obtain ⟨d,t,l,rfl,hts⟩:=txS_pos ht hs
  have HT:=Lib.hid (f_text g _ w h)
  have HS:=Lib.hid h
  rw [ht]at HT
  by_cases h16:d < 16
  ·have hw:openS (some (d,t::l)) s=some (d+1,l):=by unfold openS;rw [if_pos ht];simp [h16]
   rw [hw]
   have hdi: ¬(16:Int)≤(d:Int):=by omega
   have hdn: ¬16≤d:=by omega
   clear h hw ht hts
   go_enter Tryz.func121,Tryz.ntmps121
   go_wp2_with fail
   refine HT.out.mono ?_;rintro e w2 ⟨rfl,b2⟩
   obtain ⟨A,n,c,L,i,a,b,x,p,q,r,⟨hl,hi,hd⟩,h2⟩:=HS.out.next b2
   have hlen:=h2.len
   have hrl:=h2.row.len
   have HX:=Lib.hid h2
   have HL:=Lib.hid hl
   clear h2 hl
   obtain ⟨⟨⟨x0,x1⟩,x2,x3⟩,⟨⟨x4,x5⟩,x6,x7⟩,x8,x9⟩:=cells10 HX.out.box
   obtain ⟨⟨⟨f0,f1⟩,f2,f3⟩,⟨⟨f4,f5⟩,f6,f7⟩,f8,f9⟩:=frozen10 HX.out.box
   go_upto_region 5 with fail
   replace HX:=Lib.hid (HX.out.setI ((i:Int)+1))
   have MW:=Lib.hid ((Mod.of_below b2).then (mod_set (g:=g) (i:=1) (nv ((i:Int)+1))))
   obtain ⟨w3,hw3⟩: ∃W,w2.setCell ⟨g,1,none⟩ (nv ((i:Int)+1))=W:=⟨_,rfl⟩
   rw [hw3]at HX MW
   rw [hw3]
   clear hw3 x0 x1 x2 x3 x4 x5 x6 x7 x8 x9 f0 f1 f2 f3 f4 f5 f6 f7 f8 f9
   obtain ⟨⟨⟨x0,x1⟩,x2,x3⟩,⟨⟨x4,x5⟩,x6,x7⟩,x8,x9⟩:=cells10 HX.out.box
   obtain ⟨⟨⟨f0,f1⟩,f2,f3⟩,⟨⟨f4,f5⟩,f6,f7⟩,f8,f9⟩:=frozen10 HX.out.box
   go_wp2_with fail
   first | go_end0 | refine bodyPost_ret (results_none rfl _ _ _) rfl ?_
   refine ⟨rfl,?_,MW.out.then (mod_set _)⟩
   obtain ⟨hi2,_,e2⟩:=drop_cons HL.out
   have:=HX.out.setD ((d:Int)+1)
   exact ⟨_,_,_,_,i+1,_,_,_,_,_,_,⟨e2,hi2,by omega⟩,this⟩
  ·have hw:openS (some (d,t::l)) s=none:=by unfold openS;rw [if_pos ht];simp [h16]
   rw [hw]
   have hdi:(16:Int)≤(d:Int):=by omega
   have hdn:16≤d:=by omega
   clear h hw ht hts
   go_enter Tryz.func121,Tryz.ntmps121
   go_wp2_with fail
   refine HT.out.mono ?_;rintro e w2 ⟨rfl,b2⟩
   have HS2:=Lib.hid (HS.out.next b2)
   obtain ⟨A,n,c,L,i,a,b,x,p,q,r,⟨hl,hi,hd⟩,h2⟩:=HS.out.next b2
   have HX:=Lib.hid h2
   clear h2 hl
   obtain ⟨⟨⟨x0,x1⟩,x2,x3⟩,⟨⟨x4,x5⟩,x6,x7⟩,x8,x9⟩:=cells10 HX.out.box
   obtain ⟨⟨⟨f0,f1⟩,f2,f3⟩,⟨⟨f4,f5⟩,f6,f7⟩,f8,f9⟩:=frozen10 HX.out.box
   go_wp2_with fail
   refine (f_fail g _ 14 (by decide) w2 HS2.out).mono ?_;rintro e w3 ⟨rfl,h3,m3⟩
   have H3:=Lib.hid h3
   have M3:=Lib.hid ((Mod.of_below b2).then m3)
   clear h3 m3 b2 x0 x1 x2 x3 x4 x5 x6 x7 x8 x9 f0 f1 f2 f3 f4 f5 f6 f7 f8 f9
   go_wp2_with fail
   first | go_end0 | refine bodyPost_ret (results_none rfl _ _ _) rfl ?_
   exact ⟨rfl,H3.out,M3.out⟩
 ·have s1:(txS σ==s)=false:=by simpa using ht
  have hw:openS σ s=none:=by unfold openS;rw [if_neg ht]
  rw [hw]
  have HT:=Lib.hid (f_text g _ w h)
  have HS:=Lib.hid h
  clear h hw
  go_enter Tryz.func121,Tryz.ntmps121
  go_wp2_with fail
  refine HT.out.mono ?_;rintro e w2 ⟨rfl,b2⟩
  go_wp2_with fail
  refine (f_fail g σ 13 (by decide) w2 (HS.out.next b2)).mono ?_;rintro e w3 ⟨rfl,h3,m3⟩
  have H3:=Lib.hid h3
  have M3:=Lib.hid ((Mod.of_below b2).then m3)
  clear h3 m3 b2
  go_wp2_with fail
  first | go_end0 | refine bodyPost_ret (results_none rfl _ _ _) rfl ?_
  exact ⟨rfl,H3.out,M3.out⟩
theorem f_shut (g:Nat)(σ:Sg)(s:List UInt8)(hs:s≠[])(w:World)(h:ST w g σ)(h1: ∀d l,σ=some (d,l)→1≤d):Calls Tryz.prog 123 #[.pointer (some ⟨g,0,none⟩),sv s] w fun e w'=> e= .returned (.tuple #[])∧ST w' g (shutS σ s)∧Mod [g] w w':=by
 have HT:=f_want g σ s hs w h
 clear h
 unfold shutS
 cases hw:wantS σ s with
 | none=>
  rw [hw]at HT
  replace HT:=Lib.hid HT
  clear h1 hw
  go_enter Tryz.func123,Tryz.ntmps123
  go_wp2_with fail
  refine HT.out.mono ?_;rintro e w2 ⟨rfl,h2,m2⟩
  have M2:=Lib.hid m2
  clear m2 HT
  obtain ⟨A,n,c,L,d,e,a,b,x,p,q,r,he,h2⟩:=h2
  have HX:=Lib.hid h2
  have HE:=Lib.hid he
  clear h2 he
  obtain ⟨⟨⟨x0,x1⟩,x2,x3⟩,⟨⟨x4,x5⟩,x6,x7⟩,x8,x9⟩:=cells10 HX.out.box
  obtain ⟨⟨⟨f0,f1⟩,f2,f3⟩,⟨⟨f4,f5⟩,f6,f7⟩,f8,f9⟩:=frozen10 HX.out.box
  go_wp2_with fail
  first | go_end0 | refine bodyPost_ret (results_none rfl _ _ _) rfl ?_
  exact ⟨rfl,⟨A,n,c,L,_,e,a,b,x,p,q,r,HE.out,HX.out.setD _⟩,M2.out.then (mod_set _)⟩
 | some y=>
  obtain ⟨d,l⟩:=y
  rw [hw]at HT
  replace HT:=Lib.hid HT
  have hd1:1≤d:=by
   unfold wantS at hw
   split at hw
   ·match σ,hw with
    | some (d',t::l'),hw=>
     injection hw with hw
     injection hw with e1 e2
     subst e1
     exact h1 _ _ rfl
   ·cases hw
  clear h1 hw
  go_enter Tryz.func123,Tryz.ntmps123
  go_wp2_with fail
  refine HT.out.mono ?_;rintro e w2 ⟨rfl,h2,m2⟩
  have M2:=Lib.hid m2
  clear m2 HT
  obtain ⟨A,n,c,L,i,a,b,x,p,q,r,⟨hl,hi,hd⟩,h2⟩:=h2
  have HX:=Lib.hid h2
  have HL:=Lib.hid hl
  clear h2 hl
  obtain ⟨⟨⟨x0,x1⟩,x2,x3⟩,⟨⟨x4,x5⟩,x6,x7⟩,x8,x9⟩:=cells10 HX.out.box
  obtain ⟨⟨⟨f0,f1⟩,f2,f3⟩,⟨⟨f4,f5⟩,f6,f7⟩,f8,f9⟩:=frozen10 HX.out.box
  have hwr:IntKind.i64.wrap ((d:Int) - 1)=((d - 1:Nat):Int):=by rw [IntWalk.i64_in _ (by omega)];omega
  go_wp2_with fail
  first | go_end0 | refine bodyPost_ret (results_none rfl _ _ _) rfl ?_
  refine ⟨rfl,?_,M2.out.then (mod_set _)⟩
  exact ⟨A,n,c,L,i,a,b,x,p,q,r,⟨HL.out,hi,by omega⟩,HX.out.setD _⟩
end Go.Proofs.YtnbmpfdffoidaaaGreatDoor.Y
namespace Go.Proofs.YtnbmpfdffoidaaaGreatDoor.Y
open Go.RowKit O V S
theorem f_notC {s:List UInt8}(h:s.length=0∨s.length > 16∨isWordL s=true):isNameL s=false:=by
 unfold isNameL
 rcases h with h | h | h
 ·simp [h]
 ·simp;omega
 ·simp [h]
theorem f_isN6 (s:List UInt8)(w:World)(hs:s.length≤1000000000000):Calls Tryz.prog 120 #[.string ⟨s.toArray⟩] w fun e w'=> e= .returned (.bool (isNameL s))∧Below w.heap.size w w':=by
 have hsz:(ByteArray.mk s.toArray).size=s.length:=by simp [ByteArray.size]
 by_cases h0:s.length=0
 ·have hn:=Lib.hid (f_notC (s:=s) (.inl h0))
  have d1:((s.length:Int)==0)=true:=beq_iff_eq.2 (by omega)
  have h0':s=[]:=List.eq_nil_of_length_eq_zero h0
  subst h0'
  go_enter Tryz.func120,Tryz.ntmps120
  go_wp2_with fail
  go_ret
  exact ⟨by rw [hn.out];rfl,Below.refl _ _⟩
 by_cases h16:s.length > 16
 ·have hn:=Lib.hid (f_notC (s:=s) (.inr (.inl h16)))
  have d1:((s.length:Int)==0)=false:=beq_eq_false_iff_ne.2 (by omega)
  have d2:decide ((s.length:Int) > 16)=true:=decide_eq_true (by omega)
  go_enter Tryz.func120,Tryz.ntmps120
  go_wp2_with fail
  go_ret
  exact ⟨by rw [hn.out];rfl,Below.refl _ _⟩
 have d1:((s.length:Int)==0)=false:=beq_eq_false_iff_ne.2 (by omega)
 have d2:decide ((s.length:Int) > 16)=false:=decide_eq_false (by omega)
 go_enter Tryz.func120,Tryz.ntmps120
 go_wp2_with fail
 refine (risWord_any s _).mono ?_;rintro e w1 ⟨rfl,b1⟩
 cases hq:isWordL s
 ·have HQ:=Lib.hid hq
  have HB1:=Lib.hid b1
  clear hq b1
  go_wp2_with fail
  go_loopw [3,4,5] (fun i _ _ wr=> ∃k:Nat,k≤s.length∧i= .int .i64 k∧Hid (goodL (s.take k)=true)∧Below w.heap.size w wr) (fun i _ _ _=> s.length - (intOf i).toNat)
  case atStart=> exact ⟨0,by omega,rfl,Lib.hid (by simp [goodL]),HB1.out⟩
  case round=>
   obtain ⟨k,hk,rfl,H,hb⟩:=hrel
   by_cases hlt:k < s.length
   ·have hn:=Lib.hid (good_step hlt H.out)
    have hno:=Lib.hid (isNameL_no (s:=s) (k:=k+1))
    generalize hc:s[k]=c at hn
    have hx:=ba_at s k hlt hc
    obtain h | h | h | h | h | h | h:(c.toNat:Int) < 48∨(48≤(c.toNat:Int)∧(c.toNat:Int)≤57)∨(58≤(c.toNat:Int)∧(c.toNat:Int)≤94)∨(c.toNat:Int)=95∨(c.toNat:Int)=96∨(97≤(c.toNat:Int)∧(c.toNat:Int)≤122)∨123≤(c.toNat:Int):=by omega
    ·have e95:((c.toNat:Int)==95)=false:=beq_eq_false_iff_ne.2 (by omega)
     have g97:decide ((c.toNat:Int) ≥ 97)=false:=by simp;omega
     have g122:decide ((c.toNat:Int)≤122)=true:=by simp;omega
     have g48:decide ((c.toNat:Int) ≥ 48)=false:=by simp;omega
     have g57:decide ((c.toNat:Int)≤57)=true:=by simp;omega
     by_cases h0:k=0
     ·subst h0
      have hno':=Lib.hid (hno.out (by rw [hn.out,if_pos rfl];simp [restC,smallC,otherC];omega))
      go_wp2_with fail
      go_ret
      exact ⟨by rw [hno'.out];rfl,hb⟩
     ·have hk0:((k:Int)==0)=false:=by simp;omega
      have hno':=Lib.hid (hno.out (by rw [hn.out,if_neg h0];simp [restC,smallC,otherC];omega))
      go_wp2_with fail
      go_ret
      exact ⟨by rw [hno'.out];rfl,hb⟩
    ·have e95:((c.toNat:Int)==95)=false:=beq_eq_false_iff_ne.2 (by omega)
     have g97:decide ((c.toNat:Int) ≥ 97)=false:=by simp;omega
     have g122:decide ((c.toNat:Int)≤122)=true:=by simp;omega
     have g48:decide ((c.toNat:Int) ≥ 48)=true:=by simp;omega
     have g57:decide ((c.toNat:Int)≤57)=true:=by simp;omega
     by_cases h0:k=0
     ·subst h0
      have hno':=Lib.hid (hno.out (by rw [hn.out,if_pos rfl];simp [restC,smallC,otherC];omega))
      go_wp2_with fail
      go_ret
      exact ⟨by rw [hno'.out];rfl,hb⟩
     ·have hk0:((k:Int)==0)=false:=by simp;omega
      have hst:=Lib.hid (show goodL (s.take (k+1))=true by rw [hn.out,if_neg h0];simp [restC,smallC,otherC];omega)
      go_wp2_with fail
      go_roundw
      case rel=> exact ⟨k+1,by omega,by go_num,hst,hb⟩
      case measure=> simp [intOf];omega
    ·have e95:((c.toNat:Int)==95)=false:=beq_eq_false_iff_ne.2 (by omega)
     have g97:decide ((c.toNat:Int) ≥ 97)=false:=by simp;omega
     have g122:decide ((c.toNat:Int)≤122)=true:=by simp;omega
     have g48:decide ((c.toNat:Int) ≥ 48)=true:=by simp;omega
     have g57:decide ((c.toNat:Int)≤57)=false:=by simp;omega
     by_cases h0:k=0
     ·subst h0
      have hno':=Lib.hid (hno.out (by rw [hn.out,if_pos rfl];simp [restC,smallC,otherC];omega))
      go_wp2_with fail
      go_ret
      exact ⟨by rw [hno'.out];rfl,hb⟩
     ·have hk0:((k:Int)==0)=false:=by simp;omega
      have hno':=Lib.hid (hno.out (by rw [hn.out,if_neg h0];simp [restC,smallC,otherC];omega))
      go_wp2_with fail
      go_ret
      exact ⟨by rw [hno'.out];rfl,hb⟩
    ·have g1:95≤(c.toNat:Int)∧(c.toNat:Int)≤95:=by omega
     clear h
     have e95:((c.toNat:Int)==95)=true:=beq_iff_eq.2 (by omega)
     have g97:decide ((c.toNat:Int) ≥ 97)=false:=by simp;omega
     have g122:decide ((c.toNat:Int)≤122)=true:=by simp;omega
     have g48:decide ((c.toNat:Int) ≥ 48)=true:=by simp;omega
     have g57:decide ((c.toNat:Int)≤57)=false:=by simp;omega
     by_cases h0:k=0
     ·subst h0
      have hno':=Lib.hid (hno.out (by rw [hn.out,if_pos rfl];simp [restC,smallC,otherC];omega))
      go_wp2_with fail
      go_ret
      exact ⟨by rw [hno'.out];rfl,hb⟩
     ·have hk0:((k:Int)==0)=false:=by simp;omega
      have hst:=Lib.hid (show goodL (s.take (k+1))=true by rw [hn.out,if_neg h0];simp [restC,smallC,otherC];omega)
      go_wp2_with fail
      go_roundw
      case rel=> exact ⟨k+1,by omega,by go_num,hst,hb⟩
      case measure=> simp [intOf];omega
    ·have g1:96≤(c.toNat:Int)∧(c.toNat:Int)≤96:=by omega
     clear h
     have e95:((c.toNat:Int)==95)=false:=beq_eq_false_iff_ne.2 (by omega)
     have g97:decide ((c.toNat:Int) ≥ 97)=false:=by simp;omega
     have g122:decide ((c.toNat:Int)≤122)=true:=by simp;omega
     have g48:decide ((c.toNat:Int) ≥ 48)=true:=by simp;omega
     have g57:decide ((c.toNat:Int)≤57)=false:=by simp;omega
     by_cases h0:k=0
     ·subst h0
      have hno':=Lib.hid (hno.out (by rw [hn.out,if_pos rfl];simp [restC,smallC,otherC];omega))
      go_wp2_with fail
      go_ret
      exact ⟨by rw [hno'.out];rfl,hb⟩
     ·have hk0:((k:Int)==0)=false:=by simp;omega
      have hno':=Lib.hid (hno.out (by rw [hn.out,if_neg h0];simp [restC,smallC,otherC];omega))
      go_wp2_with fail
      go_ret
      exact ⟨by rw [hno'.out];rfl,hb⟩
    ·have e95:((c.toNat:Int)==95)=false:=beq_eq_false_iff_ne.2 (by omega)
     have g97:decide ((c.toNat:Int) ≥ 97)=true:=by simp;omega
     have g122:decide ((c.toNat:Int)≤122)=true:=by simp;omega
     have g48:decide ((c.toNat:Int) ≥ 48)=true:=by simp;omega
     have g57:decide ((c.toNat:Int)≤57)=false:=by simp;omega
     by_cases h0:k=0
     ·subst h0
      have hst:=Lib.hid (show goodL (s.take (0+1))=true by rw [hn.out,if_pos rfl];simp [restC,smallC,otherC];omega)
      go_wp2_with fail
      go_roundw
      case rel=> exact ⟨0+1,by omega,by go_num,hst,hb⟩
      case measure=> simp [intOf];omega
     ·have hk0:((k:Int)==0)=false:=by simp;omega
      have hst:=Lib.hid (show goodL (s.take (k+1))=true by rw [hn.out,if_neg h0];simp [restC,smallC,otherC];omega)
      go_wp2_with fail
      go_roundw
      case rel=> exact ⟨k+1,by omega,by go_num,hst,hb⟩
      case measure=> simp [intOf];omega
    ·have e95:((c.toNat:Int)==95)=false:=beq_eq_false_iff_ne.2 (by omega)
     have g97:decide ((c.toNat:Int) ≥ 97)=true:=by simp;omega
     have g122:decide ((c.toNat:Int)≤122)=false:=by simp;omega
     have g48:decide ((c.toNat:Int) ≥ 48)=true:=by simp;omega
     have g57:decide ((c.toNat:Int)≤57)=false:=by simp;omega
     by_cases h0:k=0
     ·subst h0
      have hno':=Lib.hid (hno.out (by rw [hn.out,if_pos rfl];simp [restC,smallC,otherC];omega))
      go_wp2_with fail
      go_ret
      exact ⟨by rw [hno'.out];rfl,hb⟩
     ·have hk0:((k:Int)==0)=false:=by simp;omega
      have hno':=Lib.hid (hno.out (by rw [hn.out,if_neg h0];simp [restC,smallC,otherC];omega))
      go_wp2_with fail
      go_ret
      exact ⟨by rw [hno'.out];rfl,hb⟩
   ·obtain rfl:k=s.length:=by omega
    go_wp2_with fail
    go_ret
    refine ⟨?_,hb⟩
    rw [name_end H.out,HQ.out,decide_eq_true (by omega),decide_eq_true (by omega)]
    rfl
 ·have hn:=Lib.hid (f_notC (s:=s) (.inr (.inr hq)))
  go_wp2_with fail
  go_ret
  exact ⟨by rw [hn.out];rfl,b1⟩
end Go.Proofs.YtnbmpfdffoidaaaGreatDoor.Y
