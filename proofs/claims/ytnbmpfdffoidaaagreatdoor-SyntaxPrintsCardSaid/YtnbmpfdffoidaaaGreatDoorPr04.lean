/- Texts of the proof, joined: ValPrint, SchFns, SynFns, SynFns2, SynLit, SchedE, SchedApp, SynTree, SynSize. -/
import Derived.Test.YtnbmpfdffoidaaaGreatDoorPr01
import Derived.Test.YtnbmpfdffoidaaaGreatDoorPr02
import Derived.Test.YtnbmpfdffoidaaaGreatDoorPr03
import Derived.Outline
set_option linter.unusedVariables false
set_option linter.unusedSimpArgs false
set_option maxHeartbeats 8000000
set_option maxRecDepth 100000
namespace Go.Proofs.YtnbmpfdffoidaaaGreatDoor.V
open Go.RowKit O
theorem printV_no {v:Val}(h:right v=false):printV v=[]:=by rw [printV,h];rfl
theorem printV_one {n:Int}{s:List UInt8}(h:right ⟨1,n,s⟩=true):printV ⟨1,n,s⟩=decL n:=by rw [printV,if_pos h];simp
theorem printV_two {n:Int}{s:List UInt8}(h:right ⟨2,n,s⟩=true):printV ⟨2,n,s⟩=if n=1 then [116,114,117,101]else [102,97,108,115,101]:=by rw [printV,if_pos h];simp
theorem printV_three {n:Int}{s:List UInt8}(h:right ⟨3,n,s⟩=true):printV ⟨3,n,s⟩=quoteL s:=by rw [printV,if_pos h];simp
theorem box_nextD {w w':World}{g:Nat}{o:Obj}(h:w.heap[g]? =some o)(b:Below w.drew.heap.size w.drew w'):w'.heap[g]? =some o:=box_next (w:=w.drew) h b
theorem cells3 {W:World}{g:Nat}{x y z:Value}{T:TypeId}(h:W.heap[g]? =some (.cells #[x,y,z] T (0,0))):W.cell? ⟨g,0,none⟩=some x∧W.cell? ⟨g,1,none⟩=some y∧W.cell? ⟨g,2,none⟩=some z:=
 ⟨by rw [Lib.cell_of_heap h];rfl,by rw [Lib.cell_of_heap h];rfl,by rw [Lib.cell_of_heap h];rfl⟩
theorem print_any (v:Val)(w:World)(hs:v.s.length≤1000000000)(h1:-9223372036854775808≤v.n)(h2:v.n≤9223372036854775807):
  Calls Tryz.prog 51 #[vv v] w fun e w'=> e= .returned (.string ⟨(printV v).toArray⟩)∧Below w.heap.size w w':=by
 obtain ⟨k,m,s⟩:=v
 have hs':(⟨k,m,s⟩:Val).s.length≤1000000000000:=by omega
 have hs2:s.length≤1000000000:=hs
 clear hs
 have h1':-9223372036854775808≤m:=h1
 have h2':m≤9223372036854775807:=h2
 clear h1 h2
 simp only [vv]
 cases hr:right ⟨k,m,s⟩
 ·have hp:=printV_no hr
  have Hhp:=Lib.hid hp;clear hp
  go_enter Tryz.func51,Tryz.ntmps51
  go_wp2_with fail
  refine (right_any ⟨k,m,s⟩ _ hs').mono ?_;rintro e w1 ⟨rfl,b1⟩
  have B1:Below w.heap.size w w1:=bthen (by repeat (first | exact Below.refl _ _ | refine Below.alloc ?_ (by simp <;> omega) _)) b1
  go_wp2_with fail
  go_ret
  exact ⟨by rw [Hhp.out];rfl,B1⟩
 ·rcases (show k=1∨(k=2∧s=[]∧(m=0∨m=1))∨(k=3∧m=0) by rcases right_cases hr with ⟨e,_⟩ | ⟨e,e2,e3⟩ | ⟨e,e2,_⟩ <;> simp_all)with rfl | ⟨rfl,rfl,hm⟩ | ⟨rfl,rfl⟩
  ·have hp:=printV_one hr
   have Hhp:=Lib.hid hp;clear hp
   go_enter Tryz.func51,Tryz.ntmps51
   go_wp2_with fail
   refine (right_any ⟨1,m,s⟩ _ hs').mono ?_;rintro e w1 ⟨rfl,b1⟩
   have B1:Below w.heap.size w w1:=bthen (by repeat (first | exact Below.refl _ _ | refine Below.alloc ?_ (by simp <;> omega) _)) b1
   have x:w1.heap[w.heap.size]? =some (.cells #[.int .i64 1,.int .i64 m,.string ⟨s.toArray⟩] 57 (0,0)):=box_next (by repeat (first | (refine alloc_at ?_;simp;done) | refine alloc_old' ?_)) b1
   have xc0:w1.cell? ⟨w.heap.size,0,none⟩=some (.int .i64 1):=by rw [Lib.cell_of_heap x];rfl
   have xf0:w1.frozen? ⟨w.heap.size,0,none⟩=false:=Lib.frozen_of_heap x 0
   have xc1:w1.cell? ⟨w.heap.size,1,none⟩=some (.int .i64 m):=by rw [Lib.cell_of_heap x];rfl
   have xf1:w1.frozen? ⟨w.heap.size,1,none⟩=false:=Lib.frozen_of_heap x 1
   have xc2:w1.cell? ⟨w.heap.size,2,none⟩=some (.string ⟨s.toArray⟩):=by rw [Lib.cell_of_heap x];rfl
   have xf2:w1.frozen? ⟨w.heap.size,2,none⟩=false:=Lib.frozen_of_heap x 2
   go_wp2_with fail
   refine (dec_any m _ h1' h2').mono ?_;rintro e w2 ⟨rfl,b2⟩
   go_wp2_with fail
   go_ret
   exact ⟨by rw [Hhp.out];rfl,bthen B1 b2⟩
  ·have hp:=printV_two hr
   have Hhp:=Lib.hid hp;clear hp
   rcases hm with rfl | rfl
   ·go_enter Tryz.func51,Tryz.ntmps51
    go_wp2_with fail
    refine (right_any ⟨2,0,[]⟩ _ hs').mono ?_;rintro e w1 ⟨rfl,b1⟩
    have B1:Below w.heap.size w w1:=bthen (by repeat (first | exact Below.refl _ _ | refine Below.alloc ?_ (by simp <;> omega) _)) b1
    have x:w1.heap[w.heap.size]? =some (.cells #[.int .i64 2,.int .i64 0,.string ⟨#[]⟩] 57 (0,0)):=box_next (by repeat (first | (refine alloc_at ?_;simp;done) | refine alloc_old' ?_)) b1
    have xc0:w1.cell? ⟨w.heap.size,0,none⟩=some (.int .i64 2):=by rw [Lib.cell_of_heap x];rfl
    have xf0:w1.frozen? ⟨w.heap.size,0,none⟩=false:=Lib.frozen_of_heap x 0
    have xc1:w1.cell? ⟨w.heap.size,1,none⟩=some (.int .i64 0):=by rw [Lib.cell_of_heap x];rfl
    have xf1:w1.frozen? ⟨w.heap.size,1,none⟩=false:=Lib.frozen_of_heap x 1
    have xc2:w1.cell? ⟨w.heap.size,2,none⟩=some (.string ⟨#[]⟩):=by rw [Lib.cell_of_heap x];rfl
    have xf2:w1.frozen? ⟨w.heap.size,2,none⟩=false:=Lib.frozen_of_heap x 2
    go_wp2_with fail
    refine wp_region_sched [(0,true),(1,false),(2,true),(3,true)] (by kernel_rfl) (by kernel_rfl) (fun _ _ d _ _ h=> by cases d <;> exact h) ?_
    refine swith (fun W hW=> (cells3 (box_next (w:=w1.drew) x hW.out))) (fun q=> ?_)
    repeat (first | (refine srE ?_;simp only [Act.put,sA,sB,sC]) | (refine skE ?_;simp only [Act.put,sA,sB,sC]))
    refine scall rfl rfl (fun K hK=> ?_)
    go_simp
    refine (bool_any true _).mono ?_;rintro e w2 ⟨rfl,b2⟩
    go_wp2_with fail
    refine hK.out _ _ (by exact b2) ?_
    clear hK K
    try simp only [Act.put,sA,sB,sC]
    simp only [vv,if_true]
    repeat (first | (refine srE ?_;simp only [Act.put,sA,sB,sC]) | (refine skE ?_;simp only [Act.put,sA,sB,sC]))
    refine sdone ?_
    clear q
    have B2:=bthen (B1.drew) b2
    have x':w2.heap[w.heap.size]? =some (.cells #[.int .i64 2,.int .i64 0,.string ⟨#[]⟩] 57 (0,0)):=box_nextD x b2
    have x'c0:w2.cell? ⟨w.heap.size,0,none⟩=some (.int .i64 2):=by rw [Lib.cell_of_heap x'];rfl
    have x'f0:w2.frozen? ⟨w.heap.size,0,none⟩=false:=Lib.frozen_of_heap x' 0
    have x'c1:w2.cell? ⟨w.heap.size,1,none⟩=some (.int .i64 0):=by rw [Lib.cell_of_heap x'];rfl
    have x'f1:w2.frozen? ⟨w.heap.size,1,none⟩=false:=Lib.frozen_of_heap x' 1
    have x'c2:w2.cell? ⟨w.heap.size,2,none⟩=some (.string ⟨#[]⟩):=by rw [Lib.cell_of_heap x'];rfl
    have x'f2:w2.frozen? ⟨w.heap.size,2,none⟩=false:=Lib.frozen_of_heap x' 2
    clear xc0 xc1 xc2 xf0 xf1 xf2
    go_wp2_with fail
    refine wp_region_sched [(0,true),(1,false),(2,true),(3,true)] (by kernel_rfl) (by kernel_rfl) (fun _ _ d _ _ h=> by cases d <;> exact h) ?_
    refine swith (fun W hW=> (cells3 (box_next (w:=w2.drew) x' hW.out))) (fun q=> ?_)
    repeat (first | (refine srE ?_;simp only [Act.put,sA,sB,sC]) | (refine skE ?_;simp only [Act.put,sA,sB,sC]))
    refine scall rfl rfl (fun K hK=> ?_)
    go_simp
    refine (bool_any false _).mono ?_;rintro e w3 ⟨rfl,b3⟩
    go_wp2_with fail
    refine hK.out _ _ (by exact b3) ?_
    clear hK K
    try simp only [Act.put,sA,sB,sC]
    simp only [vv,if_true,Bool.false_eq_true,if_false]
    repeat (first | (refine srE ?_;simp only [Act.put,sA,sB,sC]) | (refine skE ?_;simp only [Act.put,sA,sB,sC]))
    refine sdone ?_
    clear q
    go_wp2_with fail
    go_ret
    exact ⟨by rw [Hhp.out];rfl,bthen (B2.drew) b3⟩
   ·go_enter Tryz.func51,Tryz.ntmps51
    go_wp2_with fail
    refine (right_any ⟨2,1,[]⟩ _ hs').mono ?_;rintro e w1 ⟨rfl,b1⟩
    have B1:Below w.heap.size w w1:=bthen (by repeat (first | exact Below.refl _ _ | refine Below.alloc ?_ (by simp <;> omega) _)) b1
    have x:w1.heap[w.heap.size]? =some (.cells #[.int .i64 2,.int .i64 1,.string ⟨#[]⟩] 57 (0,0)):=box_next (by repeat (first | (refine alloc_at ?_;simp;done) | refine alloc_old' ?_)) b1
    have xc0:w1.cell? ⟨w.heap.size,0,none⟩=some (.int .i64 2):=by rw [Lib.cell_of_heap x];rfl
    have xf0:w1.frozen? ⟨w.heap.size,0,none⟩=false:=Lib.frozen_of_heap x 0
    have xc1:w1.cell? ⟨w.heap.size,1,none⟩=some (.int .i64 1):=by rw [Lib.cell_of_heap x];rfl
    have xf1:w1.frozen? ⟨w.heap.size,1,none⟩=false:=Lib.frozen_of_heap x 1
    have xc2:w1.cell? ⟨w.heap.size,2,none⟩=some (.string ⟨#[]⟩):=by rw [Lib.cell_of_heap x];rfl
    have xf2:w1.frozen? ⟨w.heap.size,2,none⟩=false:=Lib.frozen_of_heap x 2
    go_wp2_with fail
    refine wp_region_sched [(0,true),(1,false),(2,true),(3,true)] (by kernel_rfl) (by kernel_rfl) (fun _ _ d _ _ h=> by cases d <;> exact h) ?_
    refine swith (fun W hW=> (cells3 (box_next (w:=w1.drew) x hW.out))) (fun q=> ?_)
    repeat (first | (refine srE ?_;simp only [Act.put,sA,sB,sC]) | (refine skE ?_;simp only [Act.put,sA,sB,sC]))
    refine scall rfl rfl (fun K hK=> ?_)
    go_simp
    refine (bool_any true _).mono ?_;rintro e w2 ⟨rfl,b2⟩
    go_wp2_with fail
    refine hK.out _ _ (by exact b2) ?_
    clear hK K
    try simp only [Act.put,sA,sB,sC]
    simp only [vv,if_true,Bool.false_eq_true,if_false]
    repeat (first | (refine srE ?_;simp only [Act.put,sA,sB,sC]) | (refine skE ?_;simp only [Act.put,sA,sB,sC]))
    refine sdone ?_
    clear q
    go_wp2_with fail
    go_ret
    exact ⟨by rw [Hhp.out];rfl,bthen (B1.drew) b2⟩
  ·have hp:=printV_three hr
   have Hhp:=Lib.hid hp;clear hp
   go_enter Tryz.func51,Tryz.ntmps51
   go_wp2_with fail
   refine (right_any ⟨3,0,s⟩ _ hs').mono ?_;rintro e w1 ⟨rfl,b1⟩
   have B1:Below w.heap.size w w1:=bthen (by repeat (first | exact Below.refl _ _ | refine Below.alloc ?_ (by simp <;> omega) _)) b1
   have x:w1.heap[w.heap.size]? =some (.cells #[.int .i64 3,.int .i64 0,.string ⟨s.toArray⟩] 57 (0,0)):=box_next (by repeat (first | (refine alloc_at ?_;simp;done) | refine alloc_old' ?_)) b1
   have xc0:w1.cell? ⟨w.heap.size,0,none⟩=some (.int .i64 3):=by rw [Lib.cell_of_heap x];rfl
   have xf0:w1.frozen? ⟨w.heap.size,0,none⟩=false:=Lib.frozen_of_heap x 0
   have xc1:w1.cell? ⟨w.heap.size,1,none⟩=some (.int .i64 0):=by rw [Lib.cell_of_heap x];rfl
   have xf1:w1.frozen? ⟨w.heap.size,1,none⟩=false:=Lib.frozen_of_heap x 1
   have xc2:w1.cell? ⟨w.heap.size,2,none⟩=some (.string ⟨s.toArray⟩):=by rw [Lib.cell_of_heap x];rfl
   have xf2:w1.frozen? ⟨w.heap.size,2,none⟩=false:=Lib.frozen_of_heap x 2
   go_wp2_with fail
   refine wp_region_sched [(0,true),(1,false),(2,true),(3,true)] (by kernel_rfl) (by kernel_rfl) (fun _ _ d _ _ h=> by cases d <;> exact h) ?_
   refine swith (fun W hW=> (cells3 (box_next (w:=w1.drew) x hW.out))) (fun q=> ?_)
   repeat (first | (refine srE ?_;simp only [Act.put,sA,sB,sC]) | (refine skE ?_;simp only [Act.put,sA,sB,sC]))
   refine scall rfl rfl (fun K hK=> ?_)
   go_simp
   refine (bool_any true _).mono ?_;rintro e w2 ⟨rfl,b2⟩
   go_wp2_with fail
   refine hK.out _ _ (by exact b2) ?_
   clear hK K
   try simp only [Act.put,sA,sB,sC]
   simp only [vv,if_true,Bool.false_eq_true,if_false]
   repeat (first | (refine srE ?_;simp only [Act.put,sA,sB,sC]) | (refine skE ?_;simp only [Act.put,sA,sB,sC]))
   refine sdone ?_
   clear q
   have B2:=bthen (B1.drew) b2
   have x':w2.heap[w.heap.size]? =some (.cells #[.int .i64 3,.int .i64 0,.string ⟨s.toArray⟩] 57 (0,0)):=box_nextD x b2
   have x'c0:w2.cell? ⟨w.heap.size,0,none⟩=some (.int .i64 3):=by rw [Lib.cell_of_heap x'];rfl
   have x'f0:w2.frozen? ⟨w.heap.size,0,none⟩=false:=Lib.frozen_of_heap x' 0
   have x'c1:w2.cell? ⟨w.heap.size,1,none⟩=some (.int .i64 0):=by rw [Lib.cell_of_heap x'];rfl
   have x'f1:w2.frozen? ⟨w.heap.size,1,none⟩=false:=Lib.frozen_of_heap x' 1
   have x'c2:w2.cell? ⟨w.heap.size,2,none⟩=some (.string ⟨s.toArray⟩):=by rw [Lib.cell_of_heap x'];rfl
   have x'f2:w2.frozen? ⟨w.heap.size,2,none⟩=false:=Lib.frozen_of_heap x' 2
   clear xc0 xc1 xc2 xf0 xf1 xf2
   go_wp2_with fail
   refine wp_region_sched [(0,true),(1,false),(2,true),(3,true)] (by kernel_rfl) (by kernel_rfl) (fun _ _ d _ _ h=> by cases d <;> exact h) ?_
   refine swith (fun W hW=> (cells3 (box_next (w:=w2.drew) x' hW.out))) (fun q=> ?_)
   repeat (first | (refine srE ?_;simp only [Act.put,sA,sB,sC]) | (refine skE ?_;simp only [Act.put,sA,sB,sC]))
   refine scall rfl rfl (fun K hK=> ?_)
   go_simp
   refine (bool_any false _).mono ?_;rintro e w3 ⟨rfl,b3⟩
   go_wp2_with fail
   refine hK.out _ _ (by exact b3) ?_
   clear hK K
   try simp only [Act.put,sA,sB,sC]
   simp only [vv,if_true,Bool.false_eq_true,if_false]
   repeat (first | (refine srE ?_;simp only [Act.put,sA,sB,sC]) | (refine skE ?_;simp only [Act.put,sA,sB,sC]))
   refine sdone ?_
   clear q
   have B3:=bthen (B2.drew) b3
   have x'':w3.heap[w.heap.size]? =some (.cells #[.int .i64 3,.int .i64 0,.string ⟨s.toArray⟩] 57 (0,0)):=box_nextD x' b3
   have x''c0:w3.cell? ⟨w.heap.size,0,none⟩=some (.int .i64 3):=by rw [Lib.cell_of_heap x''];rfl
   have x''f0:w3.frozen? ⟨w.heap.size,0,none⟩=false:=Lib.frozen_of_heap x'' 0
   have x''c1:w3.cell? ⟨w.heap.size,1,none⟩=some (.int .i64 0):=by rw [Lib.cell_of_heap x''];rfl
   have x''f1:w3.frozen? ⟨w.heap.size,1,none⟩=false:=Lib.frozen_of_heap x'' 1
   have x''c2:w3.cell? ⟨w.heap.size,2,none⟩=some (.string ⟨s.toArray⟩):=by rw [Lib.cell_of_heap x''];rfl
   have x''f2:w3.frozen? ⟨w.heap.size,2,none⟩=false:=Lib.frozen_of_heap x'' 2
   clear x'c0 x'c1 x'c2
   go_wp2_with fail
   refine (quoted_any s _ hs2).mono ?_;rintro e w4 ⟨rfl,b4⟩
   go_wp2_with fail
   go_ret
   exact ⟨by rw [Hhp.out];rfl,bthen B3 b4⟩
end Go.Proofs.YtnbmpfdffoidaaaGreatDoor.V
namespace Go.Proofs.YtnbmpfdffoidaaaGreatDoor.S
open Go.RowKit O V
theorem small_any (c:UInt8)(w:World):Calls Tryz.prog 161 #[.int .u8 (c.toNat:Int)] w fun e w'=> e= .returned (.bool (smallC c))∧w=w':=by
 by_cases h:97≤(c.toNat:Int)
 ·have hd:decide ((c.toNat:Int) ≥ 97)=true:=by simpa using h
  have hr:Hid (smallC c=decide ((c.toNat:Int)≤122)):=Lib.hid (by unfold smallC;rw [decide_eq_true (by omega),Bool.true_and];simp;omega)
  go_enter Tryz.func161,Tryz.ntmps161
  go_wp2_with fail
  go_ret
  exact ⟨by rw [hr.out];rfl,rfl⟩
 ·have hd:decide ((c.toNat:Int) ≥ 97)=false:=by simpa using h
  have hr:Hid (smallC c=false):=Lib.hid (by unfold smallC;rw [decide_eq_false (by omega)];rfl)
  go_enter Tryz.func161,Tryz.ntmps161
  go_wp2_with fail
  go_ret
  exact ⟨by rw [hr.out];rfl,rfl⟩
theorem isWord_any (s:List UInt8)(w:World):Calls Tryz.prog 162 #[.string ⟨s.toArray⟩] w fun e w'=> e= .returned (.bool (isWordL s))∧w=w':=by
 go_enter Tryz.func162,Tryz.ntmps162
 go_wp2_with fail
 all_goals go_ret
 all_goals (refine ⟨?_,rfl⟩;unfold isWordL words;simp_all)
theorem word_cell (w:World)(T:TypeId)(k:Nat)(hk:k < 23):(w.alloc (.cells (words.map fun s=> Value.string ⟨s.toArray⟩).toArray T)).cell? ⟨w.heap.size,k,none⟩=some (.string ⟨(words.getD k []).toArray⟩):=by
 rw [cell_of_row _ w.heap.size k _ T _ (heap_alloc_new w _)]
 have:k < words.length:=hk
 simp [this]
theorem beq_sym (a b:List UInt8):(a==b)=(b==a):=by
 rw [Bool.eq_iff_iff,beq_iff_eq,beq_iff_eq]
 exact ⟨Eq.symm,Eq.symm⟩
theorem any_step {s:List UInt8}{k:Nat}(hk:k < 23):(words.take (k+1)).any (fun w=> s==w)=((words.take k).any (fun w=> s==w) || s==words.getD k []):=by
 have:k < words.length:=hk
 rw [List.take_succ_eq_append_getElem this,List.any_append]
 simp [this]
theorem any_yes {s:List UInt8}{k:Nat}(hk:k < 23)(h:(s==words.getD k [])=true):isWordL s=true:=by
 have:k < words.length:=hk
 unfold isWordL
 rw [List.any_eq_true]
 exact ⟨words.getD k [],by simp [this],h⟩
theorem risWord_any (s:List UInt8)(w:World):Calls Tryz.prog 151 #[.string ⟨s.toArray⟩] w fun e w'=> e= .returned (.bool (isWordL s))∧Below w.heap.size w w':=by
 have hc:=fun k hk=> word_cell w 9 k hk
 have HC:=Lib.hid hc;clear hc
 go_enter Tryz.func151,Tryz.ntmps151
 go_wp2_with fail
 go_loop [4,7] (fun _ i=> ∃k:Nat,k≤23∧i= .int .i64 k∧Hid ((words.take k).any (fun w=> s==w)=false)) (fun _ i=> 23 - (intOf i).toNat)
 case atStart=> exact ⟨0,by omega,rfl,Lib.hid (by simp)⟩
 case round=>
  obtain ⟨k,hk,rfl,H⟩:=hrel
  by_cases hlt:k < 23
  ·have hcell:=HC.out k hlt
   have hst:=Lib.hid (any_step (s:=s) hlt)
   have hye:=Lib.hid (any_yes (s:=s) hlt)
   generalize words.getD k []=x at hcell hst hye
   rw [show (words.map fun s=> Value.string ⟨s.toArray⟩).toArray=_ from rfl]at hcell
   simp only [words,List.map_cons,List.map_nil]at hcell
   cases he:(s==x)
   ·have he':(x==s)=false:=by rw [beq_sym];exact he
    go_wp2_with fail
    go_round
    case rel=> exact ⟨k+1,by omega,by go_num,Lib.hid (by rw [hst.out,H.out,he];rfl)⟩
    case measure=> simp [intOf];omega
   ·have he':(x==s)=true:=by rw [beq_sym];exact he
    go_wp2_with fail
    go_ret
    exact ⟨by rw [hye.out he];rfl,(Below.refl _ _).alloc (Nat.le_refl _) _⟩
  ·obtain rfl:k=23:=by omega
   go_wp2_with fail
   go_ret
   refine ⟨?_,(Below.refl _ _).alloc (Nat.le_refl _) _⟩
   have:=H.out
   rw [show (words.take 23)=words from rfl]at this
   rw [isWordL,this]
   rfl
theorem name_end {s:List UInt8}(h:goodL (s.take s.length)=true):isNameL s=((decide (1≤s.length) && decide (s.length≤16)) && !isWordL s):=by
 rw [List.take_length]at h
 unfold isNameL
 rw [h];rfl
theorem isName_any (s:List UInt8)(w:World)(hs:s.length≤1000000000000):Calls Tryz.prog 137 #[.string ⟨s.toArray⟩] w fun e w'=> e= .returned (.bool (isNameL s))∧w=w':=by
 have hsz:(ByteArray.mk s.toArray).size=s.length:=by simp [ByteArray.size]
 go_enter Tryz.func137,Tryz.ntmps137
 go_wp2_with fail
 go_loop [2,3,6] (fun _ _ i=> ∃k:Nat,k≤s.length∧i= .int .i64 k∧Hid (goodL (s.take k)=true)) (fun _ _ i=> s.length - (intOf i).toNat)
 case atStart=> exact ⟨0,by omega,rfl,Lib.hid (by simp [goodL])⟩
 case round=>
  obtain ⟨k,hk,rfl,H⟩:=hrel
  by_cases hlt:k < s.length
  ·have hn:=Lib.hid (good_step hlt H.out)
   have hno:=Lib.hid (isNameL_no (s:=s) (k:=k+1))
   generalize hc:s[k]=c at hn
   have hx:=ba_at s k hlt hc
   cases ho:smallC c
   ·by_cases h0:k=0
    ·have hno':=Lib.hid (hno.out (by rw [hn.out,if_pos h0,ho]))
     subst h0
     go_wp2_with fail
     refine (small_any c _).mono ?_;rintro e w1 ⟨rfl,rfl⟩
     rw [ho]
     go_wp2_with fail
     go_ret
     exact ⟨by rw [hno'.out];rfl,rfl⟩
    ·have hk0:((k:Int)==0)=false:=by simp;omega
     by_cases h95:c.toNat=95
     ·have g1:((c.toNat:Int) !=95)=false:=by simp;omega
      have hst:=Lib.hid (show goodL (s.take (k+1))=true by rw [hn.out,if_neg h0];simp [restC,otherC,h95])
      clear h95 hn hno
      go_wp2_with fail
      refine (small_any c _).mono ?_;rintro e w1 ⟨rfl,rfl⟩
      rw [ho]
      go_wp2_with fail
      go_round
      case rel=> exact ⟨k+1,by omega,by go_num,hst⟩
      case measure=> simp [intOf];omega
     ·have g1:((c.toNat:Int) !=95)=true:=by simp;omega
      by_cases h48:(c.toNat:Int) < 48
      ·have hno':=Lib.hid (hno.out (by rw [hn.out,if_neg h0];simp [restC,otherC,h95,ho];omega))
       have g2:decide ((c.toNat:Int) < 48)=true:=by simp;omega
       go_wp2_with fail
       refine (small_any c _).mono ?_;rintro e w1 ⟨rfl,rfl⟩
       rw [ho]
       go_wp2_with fail
       go_ret
       exact ⟨by rw [hno'.out];rfl,rfl⟩
      ·have g2:decide ((c.toNat:Int) < 48)=false:=by simp;omega
       by_cases h57:(c.toNat:Int) > 57
       ·have hno':=Lib.hid (hno.out (by rw [hn.out,if_neg h0];simp [restC,otherC,h95,ho];omega))
        have g3:decide ((c.toNat:Int) > 57)=true:=by simp;omega
        go_wp2_with fail
        refine (small_any c _).mono ?_;rintro e w1 ⟨rfl,rfl⟩
        rw [ho]
        go_wp2_with fail
        go_ret
        exact ⟨by rw [hno'.out];rfl,rfl⟩
       ·have g3:decide ((c.toNat:Int) > 57)=false:=by simp;omega
        go_wp2_with fail
        refine (small_any c _).mono ?_;rintro e w1 ⟨rfl,rfl⟩
        rw [ho]
        go_wp2_with fail
        go_round
        case rel=> exact ⟨k+1,by omega,by go_num,Lib.hid (by rw [hn.out,if_neg h0];simp [restC,otherC];omega)⟩
        case measure=> simp [intOf];omega
   ·go_wp2_with fail
    refine (small_any c _).mono ?_;rintro e w1 ⟨rfl,rfl⟩
    rw [ho]
    go_wp2_with fail
    go_round
    case rel=> exact ⟨k+1,by omega,by go_num,Lib.hid (by rw [hn.out];split <;> simp [restC,ho])⟩
    case measure=> simp [intOf];omega
  ·obtain rfl:k=s.length:=by omega
   have he:=Lib.hid (name_end H.out)
   by_cases h1:(1:Int)≤(s.length:Int)
   ·have d1:decide ((s.length:Int) ≥ 1)=true:=by simp;omega
    by_cases h2:(s.length:Int)≤16
    ·have d2:decide ((s.length:Int)≤16)=true:=by simp;omega
     have he':=Lib.hid (show isNameL s=!isWordL s by rw [he.out,decide_eq_true (by omega),decide_eq_true (by omega)];rfl)
     go_wp2_with fail
     refine (isWord_any s _).mono ?_;rintro e w1 ⟨rfl,rfl⟩
     go_wp2_with fail
     go_ret
     exact ⟨by rw [he'.out];rfl,rfl⟩
    ·have d2:decide ((s.length:Int)≤16)=false:=by simp;omega
     have he':=Lib.hid (show isNameL s=false by rw [he.out,decide_eq_true (by omega),decide_eq_false (by omega)];rfl)
     go_wp2_with fail
     go_ret
     exact ⟨by rw [he'.out];rfl,rfl⟩
   ·have d1:decide ((s.length:Int) ≥ 1)=false:=by simp;omega
    have he':=Lib.hid (show isNameL s=false by rw [he.out,decide_eq_false (by omega)];rfl)
    go_wp2_with fail
    go_ret
    exact ⟨by rw [he'.out];rfl,rfl⟩
def printT (k m:Int):List UInt8:=if rightT k m then (if k=1 then [105,110,116]else if k=2 then [98,111,111,108]else [116,101,120,116,32] ++decL m)else []
theorem rightT_cases {k m:Int}(h:rightT k m=true):k=1∨k=2∨(k=3∧1≤m∧m≤32):=by
 unfold rightT at h
 simp at h
 omega
theorem printType_any (k m:Int)(w:World):Calls Tryz.prog 54 #[tv k m] w fun e w'=> e= .returned (.string ⟨(printT k m).toArray⟩)∧Below w.heap.size w w':=by
 simp only [tv]
 cases hr:rightT k m
 ·have hp:Hid (printT k m=[]):=Lib.hid (by rw [printT,hr];rfl)
  go_enter Tryz.func54,Tryz.ntmps54
  go_wp2_with fail
  refine (rightType_any k m _).mono ?_;rintro e w1 ⟨rfl,b1⟩
  rw [hr]
  have B1:Below w.heap.size w w1:=bthen (by repeat (first | exact Below.refl _ _ | refine Below.alloc ?_ (by simp <;> omega) _)) b1
  go_wp2_with fail
  go_ret
  exact ⟨by rw [hp.out];rfl,B1⟩
 ·rcases rightT_cases hr with rfl | rfl | ⟨rfl,m1,m2⟩
  ·have hp:Hid (printT 1 m=[105,110,116]):=Lib.hid (by rw [printT,hr];rfl)
   go_enter Tryz.func54,Tryz.ntmps54
   go_wp2_with fail
   refine (rightType_any 1 m _).mono ?_;rintro e w1 ⟨rfl,b1⟩
   rw [hr]
   have B1:Below w.heap.size w w1:=bthen (by repeat (first | exact Below.refl _ _ | refine Below.alloc ?_ (by simp <;> omega) _)) b1
   have x:w1.heap[w.heap.size]? =some (.cells #[.int .i64 1,.int .i64 m] 70 (0,0)):=box_next (by repeat (first | (refine alloc_at ?_;simp;done) | refine alloc_old' ?_)) b1
   have xc0:w1.cell? ⟨w.heap.size,0,none⟩=some (.int .i64 1):=by rw [Lib.cell_of_heap x];rfl
   have xf0:w1.frozen? ⟨w.heap.size,0,none⟩=false:=Lib.frozen_of_heap x 0
   have xc1:w1.cell? ⟨w.heap.size,1,none⟩=some (.int .i64 m):=by rw [Lib.cell_of_heap x];rfl
   have xf1:w1.frozen? ⟨w.heap.size,1,none⟩=false:=Lib.frozen_of_heap x 1
   go_wp2_with fail
   go_ret
   exact ⟨by rw [hp.out];rfl,B1⟩
  ·have hp:Hid (printT 2 m=[98,111,111,108]):=Lib.hid (by rw [printT,hr];rfl)
   go_enter Tryz.func54,Tryz.ntmps54
   go_wp2_with fail
   refine (rightType_any 2 m _).mono ?_;rintro e w1 ⟨rfl,b1⟩
   rw [hr]
   have B1:Below w.heap.size w w1:=bthen (by repeat (first | exact Below.refl _ _ | refine Below.alloc ?_ (by simp <;> omega) _)) b1
   have x:w1.heap[w.heap.size]? =some (.cells #[.int .i64 2,.int .i64 m] 70 (0,0)):=box_next (by repeat (first | (refine alloc_at ?_;simp;done) | refine alloc_old' ?_)) b1
   have xc0:w1.cell? ⟨w.heap.size,0,none⟩=some (.int .i64 2):=by rw [Lib.cell_of_heap x];rfl
   have xf0:w1.frozen? ⟨w.heap.size,0,none⟩=false:=Lib.frozen_of_heap x 0
   have xc1:w1.cell? ⟨w.heap.size,1,none⟩=some (.int .i64 m):=by rw [Lib.cell_of_heap x];rfl
   have xf1:w1.frozen? ⟨w.heap.size,1,none⟩=false:=Lib.frozen_of_heap x 1
   go_wp2_with fail
   go_ret
   exact ⟨by rw [hp.out];rfl,B1⟩
  ·have hp:Hid (printT 3 m=[116,101,120,116,32] ++decL m):=Lib.hid (by rw [printT,hr];rfl)
   have hl:=digN_len20 m.natAbs (by omega)
   have hl2:(decL m).length≤21:=by unfold decL;split <;> first | omega | (simp;omega)
   have hlim:(5:Nat)+(decL m).length≤9223372036854775807:=by omega
   go_enter Tryz.func54,Tryz.ntmps54
   go_wp2_with fail
   refine (rightType_any 3 m _).mono ?_;rintro e w1 ⟨rfl,b1⟩
   rw [hr]
   have B1:Below w.heap.size w w1:=bthen (by repeat (first | exact Below.refl _ _ | refine Below.alloc ?_ (by simp <;> omega) _)) b1
   have x:w1.heap[w.heap.size]? =some (.cells #[.int .i64 3,.int .i64 m] 70 (0,0)):=box_next (by repeat (first | (refine alloc_at ?_;simp;done) | refine alloc_old' ?_)) b1
   have xc0:w1.cell? ⟨w.heap.size,0,none⟩=some (.int .i64 3):=by rw [Lib.cell_of_heap x];rfl
   have xf0:w1.frozen? ⟨w.heap.size,0,none⟩=false:=Lib.frozen_of_heap x 0
   have xc1:w1.cell? ⟨w.heap.size,1,none⟩=some (.int .i64 m):=by rw [Lib.cell_of_heap x];rfl
   have xf1:w1.frozen? ⟨w.heap.size,1,none⟩=false:=Lib.frozen_of_heap x 1
   go_wp2_with fail
   refine (dec_any m _ (by omega) (by omega)).mono ?_;rintro e w2 ⟨rfl,b2⟩
   go_wp2_with fail
   go_ret
   rw [show (ByteArray.mk #[116,101,120,116,32])=ByteArray.mk [116,101,120,116,32].toArray from rfl,ba_append]
   exact ⟨by rw [hp.out];rfl,bthen B1 b2⟩
end Go.Proofs.YtnbmpfdffoidaaaGreatDoor.S
namespace Go.Proofs.YtnbmpfdffoidaaaGreatDoor.Y
open Go.RowKit O V S X
def tokV (t:Tok)(p q r:Int):Value:= .agg #[nv t.1,sv t.2.1,nv t.2.2.k,nv t.2.2.n,sv t.2.2.s,nv p,nv q,nv r]
theorem tok_f1 (a k n p q r:Int)(x s:List UInt8)(w:World):(Instr.field 101 (.agg #[nv a,sv x,nv k,nv n,sv s,nv p,nv q,nv r]) 1).run Tryz.prog w= .ok (sv x) w:=by kernel_rfl
theorem tok_f3 (a k n p q r:Int)(x s:List UInt8)(w:World):(Instr.field 101 (.agg #[nv a,sv x,nv k,nv n,sv s,nv p,nv q,nv r]) 3).run Tryz.prog w= .ok (.agg #[nv p,nv q,nv r]) w:=by kernel_rfl
end Go.Proofs.YtnbmpfdffoidaaaGreatDoor.Y
namespace Go.Proofs.YtnbmpfdffoidaaaGreatDoor.Y
open Go.RowKit O V S X
theorem binary_any (s:List UInt8)(w:World):Calls Tryz.prog 142 #[sv s] w fun e w'=> e= .returned (.tuple #[nv (binS s).1,nv (binS s).2])∧w'=w:=by
 go_enter Tryz.func142,Tryz.ntmps142
 go_wp2_with fail
 all_goals
  go_ret2
  refine ⟨?_,rfl⟩
  simp_all [binS]
end Go.Proofs.YtnbmpfdffoidaaaGreatDoor.Y
namespace Go.Proofs.YtnbmpfdffoidaaaGreatDoor.Y
open Go.RowKit O V S X
end Go.Proofs.YtnbmpfdffoidaaaGreatDoor.Y
namespace Go.Proofs.YtnbmpfdffoidaaaGreatDoor
open Go.RowKit
section
variable {P:Program} {Q:Exit→Act→World→Prop} {md:Region.Mode}
def lastQ (P:Program)(ops:Array Oper)(Q:Exit→Act→World→Prop)(m:Nat):Exit→Act→World→Prop
 | .normal,a,w=> wpOp P ops Q m (Q .normal) a w
 | .exit id,a,w=> Q (.exit id) a w
 | .goto n,a,w=> Q (.goto n) a w
 | .ret,a,w=> Q .ret a w
 | .panic c,a,w=> Q (.panic c) a w
 | .outgrown,a,w=> Q .outgrown a w
theorem wp_lastQ {ops:Array Oper}{m:Nat}{o:Oper}{a:Act}{w:World}{K K':Act→World→Prop}(hK: ∀a w,K a w→K' a w)(h:o.wp P a w K (lastQ P ops Q m)):o.wp P a w K' Q:=by
 unfold Oper.wp at *
 generalize (execOp a.eval o).run P w=r at *
 cases r with
 | ok n w'=>
  cases n <;> simp only [Oper.upon]at h⊢
  case value u=> exact hK _ _ h
  case skip=> exact hK _ _ h
  case defer d=> exact hK _ _ h
  case enter f args=>
   refine Calls.mono h fun e w'' he=> ?_
   cases e with
   | returned u=> exact hK _ _ he
   | panicked c=> exact he
   | outgrown=> exact he
  case row row args=> exact Rows.mono h fun u w'' he=> hK _ _ he
 | halt x w'=>
  cases x <;> simp only [Oper.upon]at h⊢
  case panic u=> exact h
def lastB (md:Region.Mode)(l:List Oper)(o:Oper):Bool:=
 o.after.all (fun e=> decide (e.on < l.length)) &&
 (List.range l.length).all fun j=> (match l[j]? with
  | some oj=> oj.after.all (fun e=> decide (e.on < j)) && (match oj.guard with
   | none=> true
   | some (g,_)=> decide (g < l.length))
  | none=> true) && ((o.after.any fun e=> Region.binds md e && e.on==j) || (List.range l.length).any fun k=> (o.after.any fun e=> Region.binds md e && e.on==k) && (match l[k]? with
   | some ok=> ok.after.any fun e=> Region.binds md e && e.on==j
   | none=> false))
structure LastOk (md:Region.Mode)(l:List Oper)(o:Oper):Prop where
 last: ∀e ∈ o.after,e.on < l.length
 b: ∀(j:Nat) (oj:Oper),l[j]? =some oj→∀e ∈ oj.after,e.on < j
 g: ∀(j:Nat) (oj:Oper) (g:Nat) (b:Bool),l[j]? =some oj→oj.guard=some (g,b)→g < l.length
 w: ∀j,j < l.length→(∃e ∈ o.after,Region.binds md e=true∧e.on=j)∨∃k ok,l[k]? =some ok∧(∃e ∈ o.after,Region.binds md e=true∧e.on=k)∧∃e ∈ ok.after,Region.binds md e=true∧e.on=j
def Closed (md:Region.Mode)(l:List Oper)(listed:Array Bool):Prop:= ∀(j:Nat) (oj:Oper),l[j]? =some oj→listed.getD j false=true→∀e ∈ oj.after,Region.binds md e=true→listed.getD e.on false=true
theorem getD_set {listed:Array Bool}{i j:Nat}:(listed.setIfInBounds i true).getD j false=true ↔ (listed.getD j false=true∨(i=j∧j < listed.size)):=by
 rw [Array.getD_eq_getD_getElem?,Array.getD_eq_getD_getElem?,Array.getElem?_setIfInBounds]
 by_cases h:i=j
 ·subst h
  by_cases h2:i < listed.size <;> simp [h2]
 ·simp [h]
theorem lastB_ok {l:List Oper}{o:Oper}(h:lastB md l o=true):LastOk md l o:=by
 unfold lastB at h
 simp only [Bool.and_eq_true,List.all_eq_true,Array.all_eq_true',Array.any_eq_true',List.mem_range,decide_eq_true_eq]at h
 obtain ⟨h1,h2⟩:=h
 refine ⟨h1,fun j oj hj e he=> ?_,fun j oj g b hj hg=> ?_,fun j hj=> ?_⟩
 ·have hjl:j < l.length:=(List.getElem?_eq_some_iff.1 hj).1
  have h3:=(h2 j hjl).1
  rw [hj]at h3
  simp only [Bool.and_eq_true,Array.all_eq_true',decide_eq_true_eq]at h3
  exact h3.1 e he
 ·have hjl:j < l.length:=(List.getElem?_eq_some_iff.1 hj).1
  have h3:=(h2 j hjl).1
  rw [hj]at h3
  simp only [Bool.and_eq_true]at h3
  have h4:=h3.2
  rw [hg]at h4
  simpa using h4
 ·have h3:=(h2 j hj).2
  simp only [Bool.or_eq_true,Array.any_eq_true',List.any_eq_true,Bool.and_eq_true,beq_iff_eq]at h3
  rcases h3 with ⟨e,he,h3⟩ | ⟨k,_,⟨e,he,h3⟩,h4⟩
  ·exact .inl ⟨e,he,h3⟩
  ·refine .inr ?_
   cases hk:l[k]? with
   | none=> rw [hk]at h4;cases h4
   | some ok=>
    rw [hk]at h4
    simp only [Array.any_eq_true',Bool.and_eq_true,beq_iff_eq]at h4
    obtain ⟨e2,he2,h5⟩:=h4
    exact ⟨k,ok,hk,⟨e,he,h3⟩,e2,he2,h5⟩
variable {l:List Oper} {o:Oper}
theorem push_old {listed:Array Bool}{i:Nat}{d:Bool}(h:i < listed.size):(listed.push false).getD i d=listed.getD i d:=by
 rw [Array.getD_eq_getD_getElem?,Array.getD_eq_getD_getElem?,Array.getElem?_push_lt h,Array.getElem?_eq_getElem h]
theorem push_new {listed:Array Bool}{d:Bool}:(listed.push false).getD listed.size d=false:=by
 rw [Array.getD_eq_getD_getElem?,Array.getElem?_push_size];rfl
theorem ops_old {i:Nat}(h:i < l.length):(l ++ [o]).toArray[i]? =l[i]? :=by simp [List.getElem?_append_left h]
theorem ops_new:(l ++ [o]).toArray[l.length]? =some o:=by simp
theorem ready_old {listed:Array Bool}(ok:LastOk md l o)(hs:listed.size=l.length){i:Nat}(hi:i < l.length):
  i ∈ Region.ready md (l ++ [o]).toArray (listed.push false) ↔ i ∈ Region.ready md l.toArray listed:=by
 rw [mem_ready,mem_ready,push_old (by omega),ops_old hi]
 simp only [List.getElem?_toArray]
 constructor
 ·rintro ⟨h1,oj,h2,h3⟩
  exact ⟨h1,oj,h2,fun e he hb=> by have:=h3 e he hb;rwa [push_old (by have:=ok.b i oj h2 e he;omega)]at this⟩
 ·rintro ⟨h1,oj,h2,h3⟩
  exact ⟨h1,oj,h2,fun e he hb=> by rw [push_old (by have:=ok.b i oj h2 e he;omega)];exact h3 e he hb⟩
theorem ready_lt {ops:Array Oper}{listed:Array Bool}{i:Nat}(h:i ∈ Region.ready md ops listed):i < ops.size:=by
 obtain ⟨_,oj,h2,_⟩:=mem_ready.1 h
 exact (Array.getElem?_eq_some_iff.1 h2).1
theorem all_listed {listed:Array Bool}(ok:LastOk md l o)(hs:listed.size=l.length)(h:Region.ready md l.toArray listed=[]): ∀i,i < l.length→listed.getD i false=true:=by
 intro i
 induction i using Nat.strongRecOn with
 | _ i ih=>
  intro hi
  cases hl:listed.getD i false with
  | true=> rfl
  | false=>
   have h1:listed.getD i true=false:=by
    rw [Array.getD_eq_getD_getElem?,Array.getElem?_eq_getElem (by omega)]at hl⊢
    exact hl
   have:i ∈ Region.ready md l.toArray listed:=mem_ready.2 ⟨h1,l[i],by simp [hi],fun e he _=> ih e.on (ok.b i l[i] (by simp [hi]) e he) (by have:=ok.b i l[i] (by simp [hi]) e he;omega)⟩
   rw [h]at this;cases this
theorem ready_last {listed:Array Bool}(ok:LastOk md l o)(hs:listed.size=l.length)(h: ∀i,i < l.length→listed.getD i false=true):l.length ∈ Region.ready md (l ++ [o]).toArray (listed.push false):=
 mem_ready.2 ⟨by rw [← hs];exact push_new,o,ops_new,fun e he _=> by have h1:=ok.last e he;rw [push_old (by omega)];exact h _ h1⟩
theorem listed_last {listed:Array Bool}(ok:LastOk md l o)(hs:listed.size=l.length)(hc:Closed md l listed)(h:l.length ∈ Region.ready md (l ++ [o]).toArray (listed.push false)): ∀i,i < l.length→listed.getD i false=true:=by
 intro i hi
 obtain ⟨_,oj,h2,h3⟩:=mem_ready.1 h
 rw [ops_new]at h2
 injection h2 with h2
 subst h2
 rcases ok.w i hi with ⟨e,he,hb,rfl⟩ | ⟨k,oc,hk,⟨e,he,hb,rfl⟩,e2,he2,hb2,rfl⟩
 ·have:=h3 e he hb
  rwa [push_old (by omega)]at this
 ·have h4:=h3 e he hb
  rw [push_old (by have:=ok.last e he;omega)]at h4
  exact hc _ _ hk h4 e2 he2 hb2
theorem closed_step {listed:Array Bool}{i:Nat}(hs:listed.size=l.length)(hc:Closed md l listed)(h:i ∈ Region.ready md l.toArray listed):Closed md l (listed.setIfInBounds i true):=by
 intro j oj hj hl e he hb
 rw [getD_set]
 rcases getD_set.1 hl with h1 | ⟨rfl,h1⟩
 ·exact .inl (hc j oj hj h1 e he hb)
 ·obtain ⟨_,oi,h2,h3⟩:=mem_ready.1 h
  rw [List.getElem?_toArray,hj]at h2
  injection h2 with h2
  subst h2
  exact .inl (h3 e he hb)
theorem none_ready {listed:Array Bool}(hs:listed.size=l.length)(h: ∀i,i < l.length→listed.getD i false=true):Region.ready md l.toArray listed=[]:=by
 refine List.eq_nil_iff_forall_not_mem.2 fun i hi=> ?_
 have hil:i < l.length:=by have:=ready_lt hi;simpa using this
 have h1:=(mem_ready.1 hi).1
 have h2:=h i hil
 rw [Array.getD_eq_getD_getElem?,Array.getElem?_eq_getElem (by omega)]at h1 h2
 simp at h1 h2
 rw [h1]at h2;cases h2
theorem none_last {listed:Array Bool}(ok:LastOk md l o)(hs:listed.size=l.length)(h: ∀i,i < l.length→listed.getD i false=true):Region.ready md (l ++ [o]).toArray ((listed.push false).setIfInBounds l.length true)=[]:=by
 have e:(listed.push false).setIfInBounds l.length true=listed.push true:=by
  apply Array.ext
  ·simp
  ·intro i h1 h2
   simp only [Array.size_push,hs]at h2
   rcases Nat.lt_or_ge i l.length with h3 | h3
   ·rw [Array.getElem_setIfInBounds_ne (by simp;omega) (by omega),Array.getElem_push_lt (by omega),Array.getElem_push_lt (by omega)]
   ·have:i=l.length:=by omega
    subst this
    rw [Array.getElem_setIfInBounds_self]
    simp [← hs]
 rw [e]
 refine List.eq_nil_iff_forall_not_mem.2 fun i hi=> ?_
 have hil:i < l.length+1:=by have:=ready_lt hi;simpa using this
 have h1:=(mem_ready.1 hi).1
 rcases Nat.lt_or_ge i l.length with h3 | h3
 ·have h2:=h i h3
  rw [Array.getD_eq_getD_getElem?,Array.getElem?_push_lt (by omega)]at h1
  rw [Array.getD_eq_getD_getElem?,Array.getElem?_eq_getElem (by omega)]at h2
  simp at h1 h2
  rw [h1]at h2;cases h2
 ·have:i=listed.size:=by omega
  subst this
  rw [Array.getD_eq_getD_getElem?,Array.getElem?_push_size]at h1
  cases h1
theorem wpOp_old {Q':Exit→Act→World→Prop}(hQ':Q'=lastQ P (l ++ [o]).toArray Q l.length)(ok:LastOk md l o){i:Nat}(hi:i < l.length){K K':Act→World→Prop}(hK: ∀a w,K a w→K' a w){a:Act}{w:World}(h:wpOp P l.toArray Q' i K a w):wpOp P (l ++ [o]).toArray Q i K' a w:=by
 subst hQ'
 have hli:l.toArray[i]? =some l[i]:=by simp [hi]
 have hoi:(l ++ [o]).toArray[i]? =some l[i]:=by rw [ops_old hi];simp [hi]
 unfold wpOp at h⊢
 simp only [hli]at h
 simp only [hoi]
 have hw:Region.wanted l[i] (yielded (l ++ [o]).toArray a.tmps)=Region.wanted l[i] (yielded l.toArray a.tmps):=by
  unfold Region.wanted
  cases hg:l[i].guard with
  | none=> rfl
  | some p=>
   obtain ⟨g,b⟩:=p
   have hgl:=ok.g i l[i] g b (by simp [hi]) hg
   show (yielded (l ++ [o]).toArray a.tmps g==some b)=(yielded l.toArray a.tmps g==some b)
   have:yielded (l ++ [o]).toArray a.tmps g=yielded l.toArray a.tmps g:=by
    unfold yielded
    rw [ops_old hgl,List.getElem?_toArray]
   rw [this]
 rw [hw]
 split at h
 ·rename_i hx
  rw [if_pos hx]
  rcases h with h | ⟨h1,h2⟩
  ·exact .inl (wp_lastQ hK h)
  ·exact .inr ⟨h1,h2⟩
 ·rename_i hx
  rw [if_neg hx]
  exact hK _ _ h
theorem any_done {ops:Array Oper}{listed:Array Bool}{a:Act}{w:World}(hr:Region.ready md ops listed=[])(h:Q .normal a w): ∀fuel,wpAny P md ops Q fuel listed a w
 | 0=> ⟨hr,h⟩
 | _+1=> ⟨fun _=> h,by rw [hr];simp⟩
theorem any_last (ok:LastOk md l o): ∀(fuel:Nat) (listed:Array Bool) (a:Act) (w:World),listed.size=l.length→Closed md l listed→wpAny P md l.toArray (lastQ P (l ++ [o]).toArray Q l.length) fuel listed a w→wpAny P md (l ++ [o]).toArray Q (fuel+1) (listed.push false) a w:=by
 have fin: ∀(fuel:Nat) (listed:Array Bool) (a:Act) (w:World),listed.size=l.length→(∀i,i < l.length→listed.getD i false=true)→lastQ P (l ++ [o]).toArray Q l.length .normal a w→wpOp P (l ++ [o]).toArray Q l.length (wpAny P md (l ++ [o]).toArray Q fuel ((listed.push false).setIfInBounds l.length true)) a w:=
  fun fuel listed a w hs hall h=> wpOp_mono (fun a' w' h'=> any_done (none_last ok hs hall) h' fuel) h
 intro fuel
 induction fuel with
 | zero=>
  intro listed a w hs hc h
  have hall:=all_listed ok hs h.1
  refine ⟨fun h0=> (by have:=ready_last ok hs hall;rw [h0]at this;cases this),fun i hi=> ?_⟩
  have hil:i < l.length+1:=by have:=ready_lt hi;simpa using this
  rcases Nat.lt_or_ge i l.length with h3 | h3
  ·have:=(ready_old ok hs h3).1 hi
   rw [h.1]at this;cases this
  ·have:i=l.length:=by omega
   subst this
   exact fin 0 listed a w hs hall h.2
 | succ fuel ih=>
  intro listed a w hs hc h
  have hset: ∀i,i < l.length→(listed.push false).setIfInBounds i true=(listed.setIfInBounds i true).push false:=by
   intro i hi
   apply Array.ext
   ·simp
   ·intro j h1 h2
    simp only [Array.size_push,Array.size_setIfInBounds,hs]at h2
    rcases Nat.lt_or_ge j l.length with h3 | h3
    ·rw [Array.getElem_push_lt (by simp;omega)]
     by_cases e:i=j
     ·subst e;simp
     ·rw [Array.getElem_setIfInBounds_ne (by simp;omega) e,Array.getElem_setIfInBounds_ne (by omega) e,Array.getElem_push_lt (by omega)]
    ·have:j=l.length:=by omega
     subst this
     rw [Array.getElem_setIfInBounds_ne (by simp;omega) (by omega)]
     simp [Array.getElem_push,hs]
  refine ⟨fun h0=> ?_,fun i hi=> ?_⟩
  ·exfalso
   have hr:Region.ready md l.toArray listed=[]:=List.eq_nil_iff_forall_not_mem.2 fun i hi=> by
    have hil:i < l.length:=by have:=ready_lt hi;simpa using this
    have:=(ready_old ok hs hil).2 hi
    rw [h0]at this;cases this
   have:=ready_last ok hs (all_listed ok hs hr)
   rw [h0]at this;cases this
  ·have hil:i < l.length+1:=by have:=ready_lt hi;simpa using this
   rcases Nat.lt_or_ge i l.length with h3 | h3
   ·have h4:=h.2 i ((ready_old ok hs h3).1 hi)
    refine wpOp_old rfl ok h3 (fun a' w' h5=> ?_) h4
    rw [hset i h3]
    exact ih _ a' w' (by simp [hs]) (closed_step hs hc ((ready_old ok hs h3).1 hi)) h5
   ·have:i=l.length:=by omega
    subst this
    have hall:=listed_last ok hs hc hi
    exact fin (fuel+1) listed a w hs hall (h.1 (none_ready hs hall))
theorem wp_region_last (bs:List Nat){id:Nat}{a:Act}{w:World}(steps:Plan)(hm:P.follows .mixedOrders=true)(hl:lastB .any l o=true)
  (hok:(Region.noSelect l.toArray && steps.len==l.length && planOk .any l.toArray (Array.replicate l.length false) steps)=true)
  (hQ: ∀c a d v w,Q (.panic c) (a.put d v) w→Q (.panic c) a w) (h:wpPlan bs P l.toArray (lastQ P (l ++ [o]).toArray Q l.length) steps a w.drew):(Code.region id (l ++ [o]).toArray true).wp P Q a w:=by
 simp only [Bool.and_eq_true,beq_iff_eq]at hok
 obtain ⟨⟨hs,hlen⟩,hok⟩:=hok
 have h1:=wpAnyH_plan (Q:=lastQ P (l ++ [o]).toArray Q l.length) hs (fun c a d v w h=> hQ c a d v w h) steps _ a w.drew hok h
 rw [hlen]at h1
 have h2:=any_last (lastB_ok hl) _ _ _ _ (by simp) (fun j oj _ h=> by simp [Array.getD_eq_getD_getElem?,Array.getElem?_replicate]at h;split at h <;> simp at h) (wpAny_of_held _ _ _ _ h1)
 refine wp_region_any hm ?_
 have e:(Array.replicate l.length false).push false=Array.replicate (l ++ [o]).toArray.size false:=by simp [Array.replicate_succ]
 rw [e]at h2
 have e2:(l ++ [o]).toArray.size=l.length+1:=by simp
 rw [e2]at h2⊢
 exact h2
theorem last_step {a:Act}{w:World}(hg:o.guard=none)(h: ∀K:Act→World→Prop,Shut (∀a' w',Q .normal a' w'→K a' w')→o.wp P a w K Q):lastQ P (l ++ [o]).toArray Q l.length .normal a w:=by
 show wpOp P (l ++ [o]).toArray Q l.length (Q .normal) a w
 unfold wpOp
 simp only [ops_new]
 have:Region.wanted o (yielded (l ++ [o]).toArray a.tmps)=true:=by unfold Region.wanted;rw [hg]
 rw [if_pos this]
 exact .inl (h _ (fun _ _ hk=> hk))
end
end Go.Proofs.YtnbmpfdffoidaaaGreatDoor
namespace Go.Proofs.YtnbmpfdffoidaaaGreatDoor
open Go.RowKit
end Go.Proofs.YtnbmpfdffoidaaaGreatDoor
namespace Go.Proofs.YtnbmpfdffoidaaaGreatDoor.Y
open Go.RowKit O V S X
theorem heap_set' {w:World}{b:Nat}{cs:Array Value}{T:TypeId}(hb:w.heap[b]? =some (.cells cs T (0,0)))(v:Value)(i:Nat){cs':Array Value}(e:cs.setIfInBounds i v=cs'):(w.setCell ⟨b,i,none⟩ v).heap[b]? =some (.cells cs' T (0,0)):=by
 subst e
 exact heap_set hb v
theorem box11_set {w:World}{b:Nat}{vs:List Value}{T:TypeId}(hb:w.heap[b]? =some (.cells vs.toArray T (0,0)))(hl:vs.length=11)(u0 u1 u2 u3 u4 u5 u6 u7 u8 u9 u10:Value):
  (((((((((((w.setCell ⟨b,0,none⟩ u0).setCell ⟨b,1,none⟩ u1).setCell ⟨b,2,none⟩ u2).setCell ⟨b,3,none⟩ u3).setCell ⟨b,4,none⟩ u4).setCell ⟨b,5,none⟩ u5).setCell ⟨b,6,none⟩ u6).setCell ⟨b,7,none⟩ u7).setCell ⟨b,8,none⟩ u8).setCell ⟨b,9,none⟩ u9).setCell ⟨b,10,none⟩ u10).heap[b]? =some (.cells #[u0,u1,u2,u3,u4,u5,u6,u7,u8,u9,u10] T (0,0)):=by
 match vs,hl with
 | [a0,a1,a2,a3,a4,a5,a6,a7,a8,a9,a10],_=>
  have h0:=heap_set' hb u0 0 (cs':=#[u0,a1,a2,a3,a4,a5,a6,a7,a8,a9,a10]) rfl
  have h1:=heap_set' h0 u1 1 (cs':=#[u0,u1,a2,a3,a4,a5,a6,a7,a8,a9,a10]) rfl
  have h2:=heap_set' h1 u2 2 (cs':=#[u0,u1,u2,a3,a4,a5,a6,a7,a8,a9,a10]) rfl
  have h3:=heap_set' h2 u3 3 (cs':=#[u0,u1,u2,u3,a4,a5,a6,a7,a8,a9,a10]) rfl
  have h4:=heap_set' h3 u4 4 (cs':=#[u0,u1,u2,u3,u4,a5,a6,a7,a8,a9,a10]) rfl
  have h5:=heap_set' h4 u5 5 (cs':=#[u0,u1,u2,u3,u4,u5,a6,a7,a8,a9,a10]) rfl
  have h6:=heap_set' h5 u6 6 (cs':=#[u0,u1,u2,u3,u4,u5,u6,a7,a8,a9,a10]) rfl
  have h7:=heap_set' h6 u7 7 (cs':=#[u0,u1,u2,u3,u4,u5,u6,u7,a8,a9,a10]) rfl
  have h8:=heap_set' h7 u8 8 (cs':=#[u0,u1,u2,u3,u4,u5,u6,u7,u8,a9,a10]) rfl
  have h9:=heap_set' h8 u9 9 (cs':=#[u0,u1,u2,u3,u4,u5,u6,u7,u8,u9,a10]) rfl
  have h10:=heap_set' h9 u10 10 (cs':=#[u0,u1,u2,u3,u4,u5,u6,u7,u8,u9,u10]) rfl
  exact h10
def set11 (w:World)(b:Nat)(u0 u1 u2 u3 u4 u5 u6 u7 u8 u9 u10:Value):World:=
 (((((((((((w.setCell ⟨b,0,none⟩ u0).setCell ⟨b,1,none⟩ u1).setCell ⟨b,2,none⟩ u2).setCell ⟨b,3,none⟩ u3).setCell ⟨b,4,none⟩ u4).setCell ⟨b,5,none⟩ u5).setCell ⟨b,6,none⟩ u6).setCell ⟨b,7,none⟩ u7).setCell ⟨b,8,none⟩ u8).setCell ⟨b,9,none⟩ u9).setCell ⟨b,10,none⟩ u10)
section
variable {w:World} {b:Nat} {u0 u1 u2 u3 u4 u5 u6 u7 u8 u9 u10:Value}
theorem set11_box {vs:List Value}{T:TypeId}(hb:w.heap[b]? =some (.cells vs.toArray T (0,0)))(hl:vs.length=11):(set11 w b u0 u1 u2 u3 u4 u5 u6 u7 u8 u9 u10).heap[b]? =some (.cells #[u0,u1,u2,u3,u4,u5,u6,u7,u8,u9,u10] T (0,0)):=
 box11_set hb hl u0 u1 u2 u3 u4 u5 u6 u7 u8 u9 u10
theorem set11_mod:Mod [b] w (set11 w b u0 u1 u2 u3 u4 u5 u6 u7 u8 u9 u10):=by
 unfold set11
 iterate 11 refine Mod.set ?_ (.inl (by simp)) _
 exact Mod.refl _ _
theorem set11_size:(set11 w b u0 u1 u2 u3 u4 u5 u6 u7 u8 u9 u10).heap.size=w.heap.size:=by
 unfold set11
 simp
theorem set11_other {k:Nat}(hk:k≠b):(set11 w b u0 u1 u2 u3 u4 u5 u6 u7 u8 u9 u10).heap[k]? =w.heap[k]? :=by
 unfold set11
 iterate 11 rw [Below.heap_setCell _ _ _ _ hk]
end
theorem cells11 {W:World}{g:Nat}{x0 x1 x2 x3 x4 x5 x6 x7 x8 x9 x10:Value}{T:TypeId}(h:W.heap[g]? =some (.cells #[x0,x1,x2,x3,x4,x5,x6,x7,x8,x9,x10] T (0,0))):
  (((W.cell? ⟨g,0,none⟩=some x0∧W.cell? ⟨g,1,none⟩=some x1)∧(W.cell? ⟨g,2,none⟩=some x2∧W.cell? ⟨g,3,none⟩=some x3))∧
  ((W.cell? ⟨g,4,none⟩=some x4∧W.cell? ⟨g,5,none⟩=some x5)∧(W.cell? ⟨g,6,none⟩=some x6∧W.cell? ⟨g,7,none⟩=some x7)))∧(W.cell? ⟨g,8,none⟩=some x8∧W.cell? ⟨g,9,none⟩=some x9)∧W.cell? ⟨g,10,none⟩=some x10:=by
 refine ⟨⟨⟨⟨?_,?_⟩,?_,?_⟩,⟨?_,?_⟩,?_,?_⟩,⟨?_,?_⟩,?_⟩ <;> (rw [Lib.cell_of_heap h];rfl)
theorem frozen11 {W:World}{g:Nat}{cs:Array Value}{T:TypeId}(h:W.heap[g]? =some (.cells cs T (0,0))):
  (((W.frozen? ⟨g,0,none⟩=false∧W.frozen? ⟨g,1,none⟩=false)∧(W.frozen? ⟨g,2,none⟩=false∧W.frozen? ⟨g,3,none⟩=false))∧
  ((W.frozen? ⟨g,4,none⟩=false∧W.frozen? ⟨g,5,none⟩=false)∧(W.frozen? ⟨g,6,none⟩=false∧W.frozen? ⟨g,7,none⟩=false)))∧(W.frozen? ⟨g,8,none⟩=false∧W.frozen? ⟨g,9,none⟩=false)∧W.frozen? ⟨g,10,none⟩=false:=
 ⟨⟨⟨⟨Lib.frozen_of_heap h 0,Lib.frozen_of_heap h 1⟩,Lib.frozen_of_heap h 2,Lib.frozen_of_heap h 3⟩,⟨Lib.frozen_of_heap h 4,Lib.frozen_of_heap h 5⟩,Lib.frozen_of_heap h 6,Lib.frozen_of_heap h 7⟩,⟨Lib.frozen_of_heap h 8,Lib.frozen_of_heap h 9⟩,Lib.frozen_of_heap h 10⟩
theorem Row.of_block {w:World}{S:Nat→Prop}{size n c b:Nat}{xs:List Value}{T:TypeId}(h:w.heap[b]? =some (.cells xs.toArray T (0,0)))(hS:S b)(hl:xs.length=n * size)(hn:n≤c)(hc:c≤9223372036854775807):Row w S size (some ⟨b,0,none⟩) n c xs:=
 ⟨hl,⟨hn,hc⟩,fun hp=> ⟨b,0,rfl,hS,fun j hj=> by
  rw [Nat.zero_add,Lib.cell_of_heap h]
  simp⟩⟩
def ExG (lo:Nat)(x:Ex)(w':World)(v:Value):Prop:= ∃vs S,v= .agg vs.toArray∧ExR w' S x vs∧In lo w' S
theorem ExR.leaf {w:World}{S:Nat→Prop}{x:Ex}{vs:List Value}(hx:parts x=[]){A:Option Addr}{c:Nat}{p q r:Int}(hc:c≤9223372036854775807)(e:vs=exC x (.slice A 0 c) p q r):ExR w S x vs:=by
 rw [ExR_eq,hx]
 exact ⟨A,c,[],p,q,r,e,⟨by simp,⟨Nat.zero_le _,hc⟩,fun h=> absurd h (by simp)⟩,rfl⟩
theorem ExR.two {w:World}{S:Nat→Prop}{x y z:Ex}{vs us ts:List Value}(hx:parts x=[y,z]){A:Option Addr}{c:Nat}{p q r:Int}(e:vs=exC x (.slice A 2 c) p q r)(hr:Row w S 11 A 2 c (us ++ts))(hy:ExR w S y us)(hz:ExR w S z ts):ExR w S x vs:=by
 rw [ExR_eq,hx]
 exact ⟨A,c,us ++ts,p,q,r,e,hr,us,ts,rfl,hy,ts,[],by simp,hz,rfl⟩
theorem ExR.form {w:World}{S:Nat→Prop}{x:Ex}{vs:List Value}(h:ExR w S x vs): ∃(A:Option Addr) (n c:Nat) (p q r:Int),vs=exC x (.slice A n c) p q r:=by
 obtain ⟨A,c,es,p,q,r,e,_⟩:=(ExR_eq x vs).1 h
 exact ⟨A,_,c,p,q,r,e⟩
end Go.Proofs.YtnbmpfdffoidaaaGreatDoor.Y
namespace Go.Proofs.YtnbmpfdffoidaaaGreatDoor.Y
open O V S
def TokZ (t:Tok):Prop:=TokW t∧(t.1=2→(decL t.2.2.n).length≤t.2.1.length)
def AllZ (l:List Tok):Prop:= ∀t ∈ l,TokZ t
theorem AllZ.w {l:List Tok}(h:AllZ l):AllW l:=fun t ht=> (h t ht).1
def cw (e:Nat)(t:Tok):Nat:=(if t.1=3 then (quoteL t.2.2.s).length else t.2.1.length)+e
def W (e:Nat):List Tok→Nat
 | []=> 0
 | t::l=> cw e t+W e l
variable {α β:Type} {e:Nat}
theorem W_nil:W e []=0:=rfl
theorem W_cons (t:Tok)(l:List Tok):W e (t::l)=cw e t+W e l:=rfl
theorem W_app: ∀l m:List Tok,W e (l ++m)=W e l+W e m
 | [],m=> by simp [W]
 | t::l,m=> by rw [List.cons_append,W_cons,W_cons,W_app l m];omega
theorem cw_w (s:List UInt8):cw e (tw s)=s.length+e:=rfl
theorem cw_g (s:List UInt8):cw e (tg s)=s.length+e:=rfl
theorem cw_n (n:Int):cw e (tn n)=(decL n).length+e:=rfl
theorem W_br (x:Ex)(least:Nat)(t:List Tok):W e t≤W e (br x least t)∧W e (br x least t)≤1+e+W e t+(1+e):=by
 unfold br
 split
 ·rw [W_cons,W_app,W_cons,W_nil,cw_g,cw_g]
  simp only [List.length_cons,List.length_nil]
  omega
 ·omega
theorem W_br_mono (x:Ex){a b:Nat}(h:a≤b)(t:List Tok):W e (br x a t)≤W e (br x b t):=by
 by_cases hb:lvlX x < b
 ·have:=(W_br (e:=e) x a t).2
  rw [show br x b t=tg [40]::(t ++ [tg [41]]) by unfold br;rw [if_pos hb],W_cons,W_app,W_cons,W_nil,cw_g,cw_g]
  simp only [List.length_cons,List.length_nil]
  omega
 ·rw [show br x b t=t by unfold br;rw [if_neg hb],show br x a t=t by unfold br;rw [if_neg (by omega)]]
  exact Nat.le_refl _
theorem W_0 (x:Ex)(least:Nat):W e (toks0 x)≤W e (toksX x least):=(W_br x least _).1
theorem binS_inv (s:List UInt8){op:Nat}(h:(binS s).1=op)(hop:1≤op∧op≤12):s=signS op:=by
 by_cases h1:s=[124,124]
 ·subst h1;obtain rfl:1=op:=h;rfl
 by_cases h2:s=[38,38]
 ·subst h2;obtain rfl:2=op:=h;rfl
 by_cases h3:s=[61,61]
 ·subst h3;obtain rfl:3=op:=h;rfl
 by_cases h4:s=[33,61]
 ·subst h4;obtain rfl:4=op:=h;rfl
 by_cases h5:s=[60]
 ·subst h5;obtain rfl:5=op:=h;rfl
 by_cases h6:s=[60,61]
 ·subst h6;obtain rfl:6=op:=h;rfl
 by_cases h7:s=[43]
 ·subst h7;obtain rfl:7=op:=h;rfl
 by_cases h8:s=[45]
 ·subst h8;obtain rfl:8=op:=h;rfl
 by_cases h9:s=[43,43]
 ·subst h9;obtain rfl:9=op:=h;rfl
 by_cases h10:s=[42]
 ·subst h10;obtain rfl:10=op:=h;rfl
 by_cases h11:s=[47]
 ·subst h11;obtain rfl:11=op:=h;rfl
 by_cases h12:s=[37]
 ·subst h12;obtain rfl:12=op:=h;rfl
 unfold binS at h
 rw [if_neg h1,if_neg h2,if_neg h3,if_neg h4,if_neg h5,if_neg h6,if_neg h7,if_neg h8,if_neg h9,if_neg h10,if_neg h11,if_neg h12]at h
 simp only at h
 omega
theorem lit_wt {l:List Tok}(h:AllZ l){v:Val}(hv:pLit l=some v):cw e (tv v)+W e l.tail≤W e l:=by
 cases l with
 | nil=> cases hv
 | cons t r=>
  show cw e (tv v)+W e r≤cw e t+W e r
  unfold pLit at hv
  simp only at hv
  have hz:=h t (by simp)
  have:cw e (tv v)≤cw e t:=by
   split at hv
   ·rename_i h1
    cases hv
    rw [tv,if_neg (by simp),if_pos rfl,if_pos rfl,cw_w,cw,if_neg (by omega),h1.2]
    exact Nat.le_refl _
   ·split at hv
    ·rename_i h1
     cases hv
     rw [tv,if_neg (by simp),if_pos rfl,if_neg (by simp),cw_w,cw,if_neg (by omega),h1.2]
     exact Nat.le_refl _
    ·split at hv
     ·rename_i h1
      injection hv with hv
      subst hv
      rcases h1 with h2 | h3
      ·obtain ⟨n,hn,en⟩:=hz.1.1 h2
       have:=hz.2 h2
       rw [en]at this⊢
       rw [tv,if_pos rfl,cw_n,cw,if_neg (by omega)]
       omega
      ·obtain ⟨s,hs,es⟩:=hz.1.2 h3
       have:cw e (tv t.2.2)=(quoteL s).length+e:=by rw [es,tv,if_neg (by simp),if_neg (by simp),cw,if_pos rfl]
       rw [this,cw,if_pos h3,es]
       exact Nat.le_refl _
     ·cases hv
  omega
theorem W_els (b:Sts)(t:List Tok):W e (elsT b t)≤4+e+(1+e)+W e t+(1+e):=by
 cases b with
 | nil=> rw [elsT,W_nil];omega
 | cons s r=> rw [show elsT (.cons s r) t=tw w_else::tg [123]::(t ++ [tg [125]]) from rfl,W_cons,W_cons,W_app,W_cons,W_nil,cw_w,cw_g,cw_g];simp only [w_else,List.length_cons,List.length_nil];omega
end Go.Proofs.YtnbmpfdffoidaaaGreatDoor.Y
