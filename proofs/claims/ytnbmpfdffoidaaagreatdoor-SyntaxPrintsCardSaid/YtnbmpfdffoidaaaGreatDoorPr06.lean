/- Texts of the proof, joined: RfN, LexPrint, SynPut, ValPlain3, ValPlain4, LexRefN, SynLex. -/
import Derived.Test.YtnbmpfdffoidaaaGreatDoorPr01
import Derived.Test.YtnbmpfdffoidaaaGreatDoorPr02
import Derived.Test.YtnbmpfdffoidaaaGreatDoorPr03
import Derived.Test.YtnbmpfdffoidaaaGreatDoorPr04
import Derived.Test.YtnbmpfdffoidaaaGreatDoorPr05
import Derived.WalkKit
set_option linter.unusedVariables false
set_option linter.unusedSimpArgs false
set_option maxHeartbeats 8000000
set_option maxRecDepth 100000
namespace Go.Proofs.YtnbmpfdffoidaaaGreatDoor.Y
open Go.RowKit O V S X
def nmS:Sg→Bool
 | some (_,t::_)=> decide (t.1=1) && isNameL t.2.1
 | _=> false
def numS:Sg→Bool
 | some (_,t::_)=> decide (t.1=2)
 | _=> false
def opS:Sg→Nat
 | some (_,t::_)=> if t.1=4 then (binS t.2.1).1 else 0
 | _=> 0
section
variable {w:World} {g:Nat} {A:Option Addr} {n c:Nat} {L:List Tok} {d e a b x p q r:Int}
theorem isn_end (h:RfA w g A n c L n d e a b x p q r):Calls Tryz.prog 67 #[.pointer (some ⟨g,0,none⟩)] w fun e w'=> e= .returned (.bool false)∧Below w.heap.size w w':=by
 have HB:=Lib.hid h.box
 have hcap:=h.row.cap
 clear h
 go_enter Tryz.func67,Tryz.ntmps67
 go_wp2_with fail
 refine wp_region_sched [(0,true),(1,true),(2,true),(3,true),(4,true),(5,true),(6,true),(7,true),(8,true),(9,true),(10,true),(11,true),(12,true),(13,true),(14,true),(15,true),(16,true),(17,true),(18,true),(19,true),(20,true),(21,true),(22,true),(23,true),(24,true),(25,true),(26,true),(27,true),(28,true),(29,true),(30,true),(31,true),(32,true),(33,true),(34,true),(35,true),(36,false),(37,true),(38,true)] (by kernel_rfl) (by kernel_rfl) (fun _ _ d _ _ h=> by cases d <;> exact h) ?_
 refine swith (fun W hW=> (cells10 (box_next HB.out ((Below.refl _ _).drew.trans hW.out)))) (fun qx=> ?_)
 repeat (first | (refine srE ?_;simp only [Act.put,sA,sB,sC]) | (refine skE ?_;simp only [Act.put,sA,sB,sC]))
 refine sdone ?_
 go_wp2_with fail
 go_ret
 exact ⟨rfl,(Below.refl _ _).drew⟩
theorem isn_at {i:Nat}(h:RfA w g A n c L i d e a b x p q r)(hi:i < L.length):Calls Tryz.prog 67 #[.pointer (some ⟨g,0,none⟩)] w fun e w'=> e= .returned (.bool (decide (L[i].1=1) && isNameL L[i].2.1))∧Below w.heap.size w w':=by
 have HB:=Lib.hid h.box
 have hcap:=h.row.cap
 have hn:=h.row.len
 have hlt:=h.lt
 have hin:i < n:=by omega
 have htx:=h.txt _ (List.getElem_mem hi)
 obtain ⟨tb,off,tp,tq,tr,rfl,hb,hc⟩:=h.tk hi
 have HC:=Lib.hid hc
 clear h hc
 have hii:(i:Int) < (n:Int):=by omega
 have hnn: ¬n≤i:=by omega
 generalize L[i]=t at *
 by_cases hk:t.1=1
 ·rw [show (decide (t.1=1) && isNameL t.2.1)=isNameL t.2.1 by simp [hk]]
  have d1:(t.1==1)=true:=by simp [hk]
  have hnm:=fun w=> f_isN6 t.2.1 w (by omega)
  have HNM:=Lib.hid hnm
  clear hnm
  go_enter Tryz.func67,Tryz.ntmps67
  go_wp2_with fail
  refine wp_region_sched [(0,true),(1,true),(2,true),(3,true),(4,true),(5,true),(6,true),(7,true),(8,true),(9,true),(10,true),(11,true),(12,true),(13,true),(14,true),(15,true),(16,true),(17,true),(18,true),(19,true),(20,true),(21,true),(22,true),(23,true),(24,true),(25,true),(26,true),(27,true),(28,true),(29,true),(30,true),(31,true),(32,true),(33,true),(34,true),(35,true),(36,false),(37,true),(38,true)] (by kernel_rfl) (by kernel_rfl) (fun _ _ d _ _ h=> by cases d <;> exact h) ?_
  refine swith (fun W hW=> (cells10 (box_next HB.out ((Below.refl _ _).drew.trans hW.out)))) (fun qx=> ?_)
  refine swith (fun W hW=> (HC.out W ((Below.refl _ _).drew.trans hW.out))) (fun qt=> ?_)
  repeat (first | (refine srE ?_;simp only [Act.put,sA,sB,sC]) | (refine skE ?_;simp only [Act.put,sA,sB,sC]))
  refine scall rfl rfl (fun K hK=> ?_)
  go_simp
  refine (HNM.out _).mono ?_;rintro e w6 ⟨rfl,b6⟩
  go_wp2_with fail
  refine hK.out _ _ (by exact b6) ?_
  clear hK K
  try simp only [Act.put,sA,sB,sC]
  replace qx:=fun (W:World) (hW:Grow w6 W)=> qx W (Grow.trans (b6) hW)
  replace qt:=fun (W:World) (hW:Grow w6 W)=> qt W (Grow.trans (b6) hW)
  repeat (first | (refine srE ?_;simp only [Act.put,sA,sB,sC]) | (refine skE ?_;simp only [Act.put,sA,sB,sC]))
  refine sdone ?_
  go_wp2_with fail
  go_ret
  exact ⟨rfl,bthen (Below.refl _ _).drew b6⟩
 ·rw [show (decide (t.1=1) && isNameL t.2.1)=false by simp [hk]]
  have d1:(t.1==1)=false:=by simp [hk]
  go_enter Tryz.func67,Tryz.ntmps67
  go_wp2_with fail
  refine wp_region_sched [(0,true),(1,true),(2,true),(3,true),(4,true),(5,true),(6,true),(7,true),(8,true),(9,true),(10,true),(11,true),(12,true),(13,true),(14,true),(15,true),(16,true),(17,true),(18,true),(19,true),(20,true),(21,true),(22,true),(23,true),(24,true),(25,true),(26,true),(27,true),(28,true),(29,true),(30,true),(31,true),(32,true),(33,true),(34,true),(35,true),(36,false),(37,true),(38,true)] (by kernel_rfl) (by kernel_rfl) (fun _ _ d _ _ h=> by cases d <;> exact h) ?_
  refine swith (fun W hW=> (cells10 (box_next HB.out ((Below.refl _ _).drew.trans hW.out)))) (fun qx=> ?_)
  refine swith (fun W hW=> (HC.out W ((Below.refl _ _).drew.trans hW.out))) (fun qt=> ?_)
  repeat (first | (refine srE ?_;simp only [Act.put,sA,sB,sC]) | (refine skE ?_;simp only [Act.put,sA,sB,sC]))
  refine sdone ?_
  go_wp2_with fail
  go_ret
  exact ⟨rfl,(Below.refl _ _).drew⟩
end
theorem f_isName (g:Nat)(σ:Sg)(w:World)(h:ST w g σ):Calls Tryz.prog 67 #[.pointer (some ⟨g,0,none⟩)] w fun e w'=> e= .returned (.bool (nmS σ))∧Below w.heap.size w w':=by
 match σ,h with
 | none,⟨A,n,c,L,d,e,a,b,x,p,q,r,_,h⟩=> exact isn_end h
 | some (d,[]),⟨A,n,c,L,i,a,b,x,p,q,r,⟨hl,hi,_⟩,h⟩=>
  have hin:i=n:=by
   have:=congrArg List.length hl
   have hn:=h.row.len
   simp at this
   omega
  subst hin
  exact isn_end h
 | some (d,t::l),⟨A,n,c,L,i,a,b,x,p,q,r,⟨hl,_,_⟩,h⟩=>
  obtain ⟨hi,e1,_⟩:=drop_cons hl
  have:=isn_at h hi
  rw [e1]at this
  exact this
def nameS (σ:Sg):List UInt8:=match σ with
 | some (_,t::_)=> if nmS σ=true then t.2.1 else []
 | _=> []
def nnS (σ:Sg):Int:=match σ with
 | some (_,t::_)=> if t.1=2 then t.2.2.n else 0
 | _=> 0
theorem nmS_pos {σ:Sg}(h:nmS σ=true): ∃d t l,σ=some (d,t::l)∧t.1=1∧isNameL t.2.1=true:=by
 match σ,h with
 | some (d,t::l),h=>
  simp only [nmS,Bool.and_eq_true,decide_eq_true_eq]at h
  exact ⟨d,t,l,rfl,h⟩
theorem numS_pos {σ:Sg}(h:numS σ=true): ∃d t l,σ=some (d,t::l)∧t.1=2:=by
 match σ,h with
 | some (d,t::l),h=>
  simp only [numS,decide_eq_true_eq]at h
  exact ⟨d,t,l,rfl,h⟩
theorem f_name (g:Nat)(σ:Sg)(w:World)(h:ST w g σ):Calls Tryz.prog 64 #[.pointer (some ⟨g,0,none⟩)] w fun e w'=> e= .returned (sv (nameS σ))∧ST w' g (if nmS σ=true then adv σ else none)∧Mod [g] w w':=by
 have HT:=f_isName g σ w h
 have HS:=Lib.hid h
 by_cases hb:nmS σ=true
 ·obtain ⟨d,t,l,rfl,ht1,ht2⟩:=nmS_pos hb
  rw [if_pos hb,show nameS (some (d,t::l))=t.2.1 from if_pos hb,show adv (some (d,t::l))=some (d,l) from rfl]
  rw [hb]at HT
  replace HT:=Lib.hid HT
  clear h hb ht1 ht2
  go_enter Tryz.func64,Tryz.ntmps64
  go_wp2_with fail
  refine HT.out.mono ?_;rintro e w2 ⟨rfl,b2⟩
  obtain ⟨A,n,c,L,i,a,b,x,p,q,r,⟨hl,hi,hd⟩,h2⟩:=HS.out.next b2
  have HX:=Lib.hid h2
  have HL:=Lib.hid hl
  have HD:=Lib.hid hd
  clear h2 hl hd
  obtain ⟨hi2,e1,e2⟩:=drop_cons HL.out
  have hlen:=HX.out.len
  have hrl:=HX.out.row.len
  have hcap:=HX.out.row.cap
  have hin:i < n:=by omega
  obtain ⟨⟨⟨x0,x1⟩,x2,x3⟩,⟨⟨x4,x5⟩,x6,x7⟩,x8,x9⟩:=cells10 HX.out.box
  obtain ⟨⟨⟨f0,f1⟩,f2,f3⟩,⟨⟨f4,f5⟩,f6,f7⟩,f8,f9⟩:=frozen10 HX.out.box
  go_upto_region 5 with fail
  replace HX:=Lib.hid (HX.out.setI ((i:Int)+1))
  have MW:=Lib.hid ((Mod.of_below b2).then (mod_set (g:=g) (i:=1) (nv ((i:Int)+1))))
  obtain ⟨w3,hw3⟩: ∃W,w2.setCell ⟨g,1,none⟩ (nv ((i:Int)+1))=W:=⟨_,rfl⟩
  rw [hw3]at HX MW
  rw [hw3]
  clear hw3
  clear x0 x1 x2 x3 x4 x5 x6 x7 x8 x9 f0 f1 f2 f3 f4 f5 f6 f7 f8 f9
  obtain ⟨tb,off,tp,tq,tr,hA,hb,hc⟩:=HX.out.tk hi2
  first | subst hA | (injection hA with hA;injection hA with hA1 hA2;subst hA1 hA2)
  rw [e1]at hc
  have HC:=Lib.hid hc
  clear hc
  have HB:=Lib.hid HX.out.box
  have hii:(i:Int) < (n:Int):=by omega
  have hnn: ¬n≤i:=by omega
  have hsub:IntKind.i64.wrap (i:Int)=(i:Int):=by rw [IntWalk.i64_in _ (by omega)]
  go_wp2_with fail
  refine wp_region_sched [(0,true),(1,true),(2,true),(3,true),(4,true),(5,true),(6,true),(7,true),(8,true),(9,true),(10,true),(11,true),(12,true)] (by kernel_rfl) (by kernel_rfl) (fun _ _ d _ _ h=> by cases d <;> exact h) ?_
  refine swith (fun W hW=> (cells10 (box_next HB.out ((Below.refl _ _).drew.trans hW.out)))) (fun qx=> ?_)
  refine swith (fun W hW=> (HC.out W ((Below.refl _ _).drew.trans hW.out))) (fun qt=> ?_)
  repeat (first | (refine srE ?_;simp only [Act.put,sA,sB,sC]) | (refine skE ?_;simp only [Act.put,sA,sB,sC]))
  refine sdone ?_
  clear qx qt
  go_wp2_with fail
  go_ret
  refine ⟨rfl,?_,MW.out.then (Mod.refl _ _).drew⟩
  exact ⟨_,_,_,_,i+1,_,_,_,_,_,_,⟨e2,hi2,HD.out⟩,HX.out.drew⟩
 ·rw [if_neg hb,show nameS σ=[] by unfold nameS;split <;> simp_all]
  have hb':nmS σ=false:=by simpa using hb
  rw [hb']at HT
  replace HT:=Lib.hid HT
  clear h hb hb'
  go_enter Tryz.func64,Tryz.ntmps64
  go_wp2_with fail
  refine HT.out.mono ?_;rintro e w2 ⟨rfl,b2⟩
  go_wp2_with fail
  refine (f_fail g _ 13 (by decide) w2 (HS.out.next b2)).mono ?_;rintro e w3 ⟨rfl,h3,m3⟩
  have H3:=Lib.hid h3
  have M3:=Lib.hid ((Mod.of_below b2).then m3)
  clear h3 m3 b2
  go_wp2_with fail
  go_ret
  exact ⟨rfl,H3.out,M3.out⟩
theorem f_num (g:Nat)(σ:Sg)(w:World)(h:ST w g σ):Calls Tryz.prog 65 #[.pointer (some ⟨g,0,none⟩)] w fun e w'=> e= .returned (nv (nnS σ))∧ST w' g (if numS σ=true then adv σ else none)∧Mod [g] w w':=by
 have HS:=Lib.hid h
 match σ,h,HS with
 | none,h,HS=>
  rw [if_neg (by simp [numS]),show nnS none=0 from rfl]
  obtain ⟨A,n,c,L,d,e,a,b,x,p,q,r,_,h⟩:=h
  have HB:=Lib.hid h.box
  have hcap:=h.row.cap
  clear h
  go_enter Tryz.func65,Tryz.ntmps65
  go_wp2_with fail
  refine wp_region_sched [(0,true),(1,true),(2,true),(3,true),(4,true),(5,true),(6,true),(7,true),(8,true),(9,true),(10,true),(11,true),(12,true),(13,true),(14,true),(15,true),(16,true),(17,true),(18,true),(19,true),(20,true),(21,true),(22,true),(23,true)] (by kernel_rfl) (by kernel_rfl) (fun _ _ d _ _ h=> by cases d <;> exact h) ?_
  refine swith (fun W hW=> (cells10 (box_next HB.out ((Below.refl _ _).drew.trans hW.out)))) (fun qx=> ?_)
  repeat (first | (refine srE ?_;simp only [Act.put,sA,sB,sC]) | (refine skE ?_;simp only [Act.put,sA,sB,sC]))
  refine sdone ?_
  go_wp2_with fail
  refine (f_fail g _ 13 (by decide) _ (HS.out.next (Below.refl _ _).drew)).mono ?_;rintro e w3 ⟨rfl,h3,m3⟩
  have H3:=Lib.hid h3
  have M3:=Lib.hid ((Mod.of_below (Below.refl _ _).drew).then m3)
  clear h3 m3
  go_wp2_with fail
  go_ret
  exact ⟨rfl,H3.out,M3.out⟩
 | some (d,[]),h,HS=>
  rw [if_neg (by simp [numS]),show nnS (some (d,[]))=0 from rfl]
  obtain ⟨A,n,c,L,i,a,b,x,p,q,r,⟨hl,hi,_⟩,h⟩:=h
  have hin:i=n:=by
   have:=congrArg List.length hl
   have hn:=h.row.len
   simp at this
   omega
  have HB:=Lib.hid h.box
  have hcap:=h.row.cap
  have dii:n≤i:=by omega
  clear h hl
  go_enter Tryz.func65,Tryz.ntmps65
  go_wp2_with fail
  refine wp_region_sched [(0,true),(1,true),(2,true),(3,true),(4,true),(5,true),(6,true),(7,true),(8,true),(9,true),(10,true),(11,true),(12,true),(13,true),(14,true),(15,true),(16,true),(17,true),(18,true),(19,true),(20,true),(21,true),(22,true),(23,true)] (by kernel_rfl) (by kernel_rfl) (fun _ _ d _ _ h=> by cases d <;> exact h) ?_
  refine swith (fun W hW=> (cells10 (box_next HB.out ((Below.refl _ _).drew.trans hW.out)))) (fun qx=> ?_)
  repeat (first | (refine srE ?_;simp only [Act.put,sA,sB,sC]) | (refine skE ?_;simp only [Act.put,sA,sB,sC]))
  refine sdone ?_
  go_wp2_with fail
  refine (f_fail g _ 13 (by decide) _ (HS.out.next (Below.refl _ _).drew)).mono ?_;rintro e w3 ⟨rfl,h3,m3⟩
  have H3:=Lib.hid h3
  have M3:=Lib.hid ((Mod.of_below (Below.refl _ _).drew).then m3)
  clear h3 m3
  go_wp2_with fail
  go_ret
  exact ⟨rfl,H3.out,M3.out⟩
 | some (d,t::l),h,HS=>
  obtain ⟨A,n,c,L,i,a,b,x,p,q,r,⟨hl,_,hd⟩,h⟩:=h
  obtain ⟨hi,e1,e2⟩:=drop_cons hl
  have HX:=Lib.hid h
  have HL:=Lib.hid hl
  have HD:=Lib.hid hd
  have HB:=Lib.hid h.box
  have hcap:=h.row.cap
  have hn:=h.row.len
  have hin:i < n:=by omega
  obtain ⟨tb,off,tp,tq,tr,hA,hb,hc⟩:=h.tk hi
  rw [e1]at hc
  have HC:=Lib.hid hc
  subst hA
  clear h hc hl hd
  have hii:(i:Int) < (n:Int):=by omega
  have hnn: ¬n≤i:=by omega
  by_cases hk:t.1=2
  ·rw [if_pos (by simp [numS,hk]),show nnS (some (d,t::l))=t.2.2.n from if_pos hk,show adv (some (d,t::l))=some (d,l) from rfl]
   have d1:(t.1 !=2)=false:=by simp [hk]
   go_enter Tryz.func65,Tryz.ntmps65
   go_wp2_with fail
   refine wp_region_sched [(0,true),(1,true),(2,true),(3,true),(4,true),(5,true),(6,true),(7,true),(8,true),(9,true),(10,true),(11,true),(12,true),(13,true),(14,true),(15,true),(16,true),(17,true),(18,true),(19,true),(20,true),(21,true),(22,true),(23,true)] (by kernel_rfl) (by kernel_rfl) (fun _ _ d _ _ h=> by cases d <;> exact h) ?_
   refine swith (fun W hW=> (cells10 (box_next HB.out ((Below.refl _ _).drew.trans hW.out)))) (fun qx=> ?_)
   refine swith (fun W hW=> (HC.out W ((Below.refl _ _).drew.trans hW.out))) (fun qt=> ?_)
   repeat (first | (refine srE ?_;simp only [Act.put,sA,sB,sC]) | (refine skE ?_;simp only [Act.put,sA,sB,sC]))
   refine sdone ?_
   clear qx qt HB HC hi e1 e2 hin hcap hn hii hnn
   obtain ⟨w2,hw2⟩: ∃W,w.drew=W:=⟨_,rfl⟩
   replace HX:=Lib.hid HX.out.drew
   have hb2:Below w.heap.size w w2:=by rw [← hw2];exact (Below.refl _ _).drew
   rw [hw2]at HX⊢
   clear hw2
   obtain ⟨hi2,e1,e2⟩:=drop_cons HL.out
   have hlen:=HX.out.len
   have hrl:=HX.out.row.len
   have hcap:=HX.out.row.cap
   have hin:i < n:=by omega
   obtain ⟨⟨⟨x0,x1⟩,x2,x3⟩,⟨⟨x4,x5⟩,x6,x7⟩,x8,x9⟩:=cells10 HX.out.box
   obtain ⟨⟨⟨f0,f1⟩,f2,f3⟩,⟨⟨f4,f5⟩,f6,f7⟩,f8,f9⟩:=frozen10 HX.out.box
   go_upto_region 5 with fail
   replace HX:=Lib.hid (HX.out.setI ((i:Int)+1))
   have MW:=Lib.hid ((Mod.of_below hb2).then (mod_set (g:=g) (i:=1) (nv ((i:Int)+1))))
   obtain ⟨w3,hw3⟩: ∃W,w2.setCell ⟨g,1,none⟩ (nv ((i:Int)+1))=W:=⟨_,rfl⟩
   rw [hw3]at HX MW
   rw [hw3]
   clear hw3
   clear x0 x1 x2 x3 x4 x5 x6 x7 x8 x9 f0 f1 f2 f3 f4 f5 f6 f7 f8 f9
   obtain ⟨tb,off,tp,tq,tr,hA,hb,hc⟩:=HX.out.tk hi2
   first | subst hA | (injection hA with hA;injection hA with hA1 hA2;subst hA1 hA2)
   rw [e1]at hc
   have HC:=Lib.hid hc
   clear hc
   have HB:=Lib.hid HX.out.box
   have hii:(i:Int) < (n:Int):=by omega
   have hnn: ¬n≤i:=by omega
   have hsub:IntKind.i64.wrap (i:Int)=(i:Int):=by rw [IntWalk.i64_in _ (by omega)]
   go_wp2_with fail
   refine wp_region_sched [(0,true),(1,true),(2,true),(3,true),(4,true),(5,true),(6,true),(7,true),(8,true),(9,true),(10,true),(11,true),(12,true),(13,true)] (by kernel_rfl) (by kernel_rfl) (fun _ _ d _ _ h=> by cases d <;> exact h) ?_
   refine swith (fun W hW=> (cells10 (box_next HB.out ((Below.refl _ _).drew.trans hW.out)))) (fun qx=> ?_)
   refine swith (fun W hW=> (HC.out W ((Below.refl _ _).drew.trans hW.out))) (fun qt=> ?_)
   repeat (first | (refine srE ?_;simp only [Act.put,sA,sB,sC]) | (refine skE ?_;simp only [Act.put,sA,sB,sC]))
   refine sdone ?_
   clear qx qt
   go_wp2_with fail
   go_ret
   refine ⟨rfl,?_,MW.out.then (Mod.refl _ _).drew⟩
   exact ⟨_,_,_,_,i+1,_,_,_,_,_,_,⟨e2,hi2,HD.out⟩,HX.out.drew⟩
  ·rw [if_neg (by simp [numS,hk]),show nnS (some (d,t::l))=0 from if_neg hk]
   have d1:(t.1 !=2)=true:=by simp [hk]
   go_enter Tryz.func65,Tryz.ntmps65
   go_wp2_with fail
   refine wp_region_sched [(0,true),(1,true),(2,true),(3,true),(4,true),(5,true),(6,true),(7,true),(8,true),(9,true),(10,true),(11,true),(12,true),(13,true),(14,true),(15,true),(16,true),(17,true),(18,true),(19,true),(20,true),(21,true),(22,true),(23,true)] (by kernel_rfl) (by kernel_rfl) (fun _ _ d _ _ h=> by cases d <;> exact h) ?_
   refine swith (fun W hW=> (cells10 (box_next HB.out ((Below.refl _ _).drew.trans hW.out)))) (fun qx=> ?_)
   refine swith (fun W hW=> (HC.out W ((Below.refl _ _).drew.trans hW.out))) (fun qt=> ?_)
   repeat (first | (refine srE ?_;simp only [Act.put,sA,sB,sC]) | (refine skE ?_;simp only [Act.put,sA,sB,sC]))
   refine sdone ?_
   go_wp2_with fail
   refine (f_fail g _ 13 (by decide) _ (HS.out.next (Below.refl _ _).drew)).mono ?_;rintro e w3 ⟨rfl,h3,m3⟩
   have H3:=Lib.hid h3
   have M3:=Lib.hid ((Mod.of_below (Below.refl _ _).drew).then m3)
   clear h3 m3
   go_wp2_with fail
   go_ret
   exact ⟨rfl,H3.out,M3.out⟩
end Go.Proofs.YtnbmpfdffoidaaaGreatDoor.Y
namespace Go.Proofs.YtnbmpfdffoidaaaGreatDoor.X
open Go.RowKit O V S
theorem joinB_cons (x:List UInt8)(r:List (List UInt8)):joinB (x::r)=x ++Lib.joinTail [32] r:=by
 induction r generalizing x with
 | nil=> simp [joinB,Lib.joinTail]
 | cons y r ih=>
  have e:joinB (x::y::r)=x ++32::joinB (y::r):=rfl
  rw [e,ih y]
  simp [Lib.joinTail]
theorem joinB_eq (l:List (List UInt8)):Lib.join l [32]=joinB l:=by
 cases l with
 | nil=> rfl
 | cons x r=> rw [Lib.join_cons,joinB_cons]
abbrev strV (s:List UInt8):Value:= .string ⟨s.toArray⟩
theorem strE:Elem Tryz.prog 62 9 1 16 (.string ByteArray.empty):=by
 obtain ⟨i,hi,h1,h2,h3⟩:=info_parts (show (Tryz.prog.info? 9).map (fun i=> (i.zero,i.size,i.bytes))=some (some (.string ByteArray.empty),1,16) by kernel_rfl)
 exact ⟨Tryz.underlying62,i,hi,h1,h2,h3,rfl,by omega⟩
theorem own_cap {w:World}{base e size n c:Nat}{A:Option Addr}{xs:List Value}(h:w.ownsRow base e size (.slice A n c) n xs):n≤c:=by
 rcases h.2 with ⟨hv,h0⟩ | ⟨g,cap,cur,hv,_,_,hnc,_⟩
 ·rw [h0];exact Nat.zero_le _
 ·injection hv with _ _ hc;rw [hc];exact hnc
theorem join_rd {w:World}{A:Option Addr}{n c:Nat}(l:List (List UInt8))(sep:List UInt8)(h:Rd w w.heap.size 1 A n (l.map strV))(hnc:n≤c)(hN:n≤140737488355328)(hlen:(Lib.join l sep).length≤140737488355328):
  Calls Tryz.prog 23 #[.slice A n c,.string ⟨sep.toArray⟩] w fun e w'=> e= .returned (.string ⟨(Lib.join l sep).toArray⟩)∧Below w.heap.size w w':=by
 have hl:l.length=n:=by have:=h.1;simp at this;omega
 rcases Nat.eq_zero_or_pos n with h0 | hn
 ·subst h0
  obtain rfl:l=[]:=List.eq_nil_of_length_eq_zero hl
  refine (Tryz.strings_Join_none A c ⟨sep.toArray⟩ w).mono ?_
  rintro e w' ⟨rfl,rfl⟩
  exact ⟨rfl,Below.refl _ _⟩
 obtain ⟨b,off,rfl,hb,hc⟩:=h.pos hn
 have he:(l.map fun s=> ByteArray.mk s.toArray).map (·.data.toList)=l:=by rw [List.map_map];exact List.map_id l
 have:=Tryz.strings_Join b off c (l.map fun s=> ⟨s.toArray⟩) ⟨sep.toArray⟩ w (fun j x hx=> by
  have hj:j < l.length:=by
   rcases Nat.lt_or_ge j l.length with h | h
   ·exact h
   ·rw [List.getElem?_eq_none (by simpa using h)]at hx;cases hx
  rw [hc j (by omega)]
  simp [hj]at hx
  subst hx
  simp [hj,strV]) hb (by rw [List.length_map];omega) (by rw [List.length_map];omega) (by rw [he];exact hlen)
 rw [he,List.length_map,hl]at this
 exact this
end Go.Proofs.YtnbmpfdffoidaaaGreatDoor.X
namespace Go.Proofs.YtnbmpfdffoidaaaGreatDoor.Y
open Go.RowKit O V S X
structure PF (g:Nat)(w w':World):Prop where
 os:w'.os=w.os
 tape:w'.tape=w.tape
 output:w'.output=w.output
 size:w.heap.size≤w'.heap.size
 low: ∀k,k < g→k < w.heap.size→w'.heap[k]? =w.heap[k]?
 box: ∀k vs T d,g < k→w.heap[k]? =some (.cells vs T d)→T≠9→w'.heap[k]? =w.heap[k]?
theorem PF.refl (g:Nat)(w:World):PF g w w:=⟨rfl,rfl,rfl,Nat.le_refl _,fun _ _ _=> rfl,fun _ _ _ _ _ _ _=> rfl⟩
theorem PF.trans {g:Nat}{a b c:World}(h:PF g a b)(k:PF g b c):PF g a c:=
 ⟨k.os.trans h.os,k.tape.trans h.tape,k.output.trans h.output,Nat.le_trans h.size k.size,fun i hi hs=> (k.low i hi (Nat.lt_of_lt_of_le hs h.size)).trans (h.low i hi hs),
  fun i vs T d hi hb hT=> (k.box i vs T d hi ((h.box i vs T d hi hb hT).trans hb) hT).trans (h.box i vs T d hi hb hT)⟩
theorem PF.of_below {g:Nat}{a b:World}(h:Below a.heap.size a b):PF g a b:=
 ⟨h.os,h.tape,h.output,h.size,fun i _ hs=> h.block i hs,fun i vs T d _ hb _=> h.block i (Array.getElem?_eq_some_iff.1 hb).1⟩
theorem PF.then {g:Nat}{a b c:World}(h:PF g a b)(k:Below b.heap.size b c):PF g a c:=h.trans (.of_below k)
theorem PF.below {g:Nat}{a b:World}(h:PF g a b)(hg:g≤a.heap.size):Below g a b:=⟨h.os,h.tape,h.output,h.size,fun k hk=> h.low k hk (by omega)⟩
theorem PF.keep {g k:Nat}{a b:World}{vs:Array Value}{T:TypeId}{d:Nat × Nat}(h:PF g a b)(hk:g < k)(hb:a.heap[k]? =some (.cells vs T d))(hT:T≠9):b.heap[k]? =some (.cells vs T d):=(h.box k vs T d hk hb hT).trans hb
def Pr (w:World)(g:Nat)(L:List (List UInt8)):Prop:= ∃A n c,w.heap[g]? =some (.cells #[.slice A n c] 64 (0,0))∧w.ownsRow (g+1) 9 1 (.slice A n c) n (L.map sv)
theorem Pr.lt {w:World}{g:Nat}{L:List (List UInt8)}(h:Pr w g L):g < w.heap.size:=by
 obtain ⟨A,n,c,hb,_⟩:=h
 exact (Array.getElem?_eq_some_iff.1 hb).1
theorem Pr.next {w w':World}{g:Nat}{L:List (List UInt8)}(h:Pr w g L)(b:Below w.heap.size w w'):Pr w' g L:=by
 have hlt:=h.lt
 obtain ⟨A,n,c,hb,ho⟩:=h
 refine ⟨A,n,c,box_next hb b,ho.1,?_⟩
 rcases ho.2 with hh | ⟨k,cap,cur,hv,h1,h2,h3⟩
 ·exact .inl hh
 ·exact .inr ⟨k,cap,cur,hv,h1,box_next h2 b,h3⟩
theorem own_mod' {w w':World}{base size n:Nat}{e:TypeId}{v:Value}{xs:List Value}(h:w.ownsRow base e size v n xs)(hk: ∀k,v.ownBlock=some k→w'.heap[k]? =w.heap[k]?):w'.ownsRow base e size v n xs:=by
 refine ⟨h.1,?_⟩
 rcases h.2 with hh | ⟨k,cap,cur,hv,h1,h2,h3⟩
 ·exact .inl hh
 ·exact .inr ⟨k,cap,cur,hv,h1,(hk k (by rw [hv];rfl)).trans h2,h3⟩
theorem sv_len (l:List (List UInt8)): ∀u ∈ l.map sv,u.oneCell'=true:=by
 intro u hu
 obtain ⟨s,_,rfl⟩:=List.mem_map.1 hu
 rfl
theorem put_any (g:Nat)(B:Option Addr)(m c':Nat)(news L:List (List UInt8))(w:World){lim:Nat}(h:Pr w g L)(hr:Rd w lim 1 B m (news.map sv))(hlim:L.length+news.length≤1000000000):
  Calls Tryz.prog 19 #[.pointer (some ⟨g,0,none⟩),.slice B m c'] w fun e w'=> e= .returned (.tuple #[])∧Pr w' g (L ++news)∧PF g w w':=by
 have hlt:=h.lt
 obtain ⟨A,n,c,hb,ho⟩:=h
 have hn:L.length=n:=by have:=ho.1;simp at this;omega
 have hm:news.length=m:=by have:=hr.1;simp at this;omega
 have x0:w.cell? ⟨g,0,none⟩=some (.slice A n c):=by rw [Lib.cell_of_heap hb];rfl
 have HO:=Lib.hid ho
 have HR:=Lib.hid hr
 have HB:=Lib.hid hb
 clear ho hr hb
 go_enter Tryz.func19,Tryz.ntmps19
 go_wp2_with (at_builtin;refine wpList_app rfl (.tmp 8) (.tmp 9) strE rfl (g+1) (L.map sv) rfl HO.out rfl (news.map sv) HR.out (sv_len news) (by unfold maxLen;omega) (by omega) (by omega) ?_;intro A2 c2 w2 o2 g2 k2;have B2:w2.heap[g]? =some (.cells #[.slice A n c] 64 (0,0)):=(g2.block g hlt (fun e=> by have:=(HO.out.lt g e.symm).1;omega)).trans HB.out;have xf2:w2.frozen? ⟨g,0,none⟩=false:=Lib.frozen_of_heap B2 0;have x2:w2.cell? ⟨g,0,none⟩=some (.slice A n c):=by rw [Lib.cell_of_heap B2];rfl)
 go_end0
 rw [← List.map_append]at o2
 have hgo: ∀k,(Value.slice A2 (n+m) c2).ownBlock=some k→g+1≤k:=fun k hk=> (o2.lt k hk).1
 refine ⟨rfl,⟨A2,n+m,c2,?_,?_⟩,?_⟩
 ·have:=heap_set (i:=0) B2 (.slice A2 (n+m) c2)
  exact this
 ·exact own_mod' o2 (fun k hk=> Below.heap_setCell _ _ _ _ (by have:=hgo k hk;simp only;omega))
 ·refine ⟨g2.os,g2.tape,g2.output,by simpa using g2.size,fun k hk hs=> ?_,fun k vs T d hk hbk hT=> ?_⟩
  ·rw [Below.heap_setCell _ _ _ _ (by simp only;omega)]
   exact g2.block k hs (fun e=> by have:=(HO.out.lt k e.symm).1;omega)
  ·rw [Below.heap_setCell _ _ _ _ (by simp only;omega)]
   refine g2.block k (Array.getElem?_eq_some_iff.1 hbk).1 (fun e=> ?_)
   rcases HO.out.2 with ⟨hv,_⟩ | ⟨k',cap,cur,hv,h1,h2,h3⟩
   ·rw [hv]at e;cases e
   ·rw [hv]at e
    injection e with e
    subst e
    rw [h2]at hbk
    injection hbk with hbk
    injection hbk with _ e2 _
    exact hT e2.symm
def sgL:List (List UInt8):=[[124,124],[38,38],[61,61],[33,61],[60],[60,61],[43],[45],[43,43],[42],[47],[37]]
theorem sg_bin {k:Nat}(h:k < sgL.length):binS sgL[k]=(k+1,lvlS (k+1))∧signS (k+1)=sgL[k]:=by
 have h':k < 12:=h
 have hk:k=0∨k=1∨k=2∨k=3∨k=4∨k=5∨k=6∨k=7∨k=8∨k=9∨k=10∨k=11:=by omega
 rcases hk with rfl | rfl | rfl | rfl | rfl | rfl | rfl | rfl | rfl | rfl | rfl | rfl <;> exact ⟨rfl,rfl⟩
theorem sign_any (op:Nat)(hop:1≤op∧op≤12)(w:World):Calls Tryz.prog 107 #[nv op] w fun e w'=> e= .returned (.tuple #[sv (signS op),nv (lvlS op)])∧Below w.heap.size w w':=by
 have HOP:=Lib.hid hop
 clear hop
 go_enter Tryz.func107,Tryz.ntmps107
 go_wp2_with fail
 obtain ⟨w1,hw⟩: ∃W,w.alloc (.cells #[.string ⟨#[124,124]⟩,.string ⟨#[38,38]⟩,.string ⟨#[61,61]⟩,.string ⟨#[33,61]⟩,.string ⟨#[60]⟩,.string ⟨#[60,61]⟩,.string ⟨#[43]⟩,.string ⟨#[45]⟩,.string ⟨#[43,43]⟩,.string ⟨#[42]⟩,.string ⟨#[47]⟩,.string ⟨#[37]⟩] 9)=W:=⟨_,rfl⟩
 have hb1:Below w.heap.size w w1:=by rw [← hw];exact (Below.refl _ _).alloc (Nat.le_refl _) _
 have hs1:w.heap.size < w1.heap.size:=by rw [← hw];simp
 have hc: ∀k,(h:k < sgL.length)→w1.cell? ⟨w.heap.size,k,none⟩=some (sv sgL[k]):=fun k h=> by
  have h':k < 12:=h
  have hk:k=0∨k=1∨k=2∨k=3∨k=4∨k=5∨k=6∨k=7∨k=8∨k=9∨k=10∨k=11:=by omega
  rw [← hw]
  rcases hk with rfl | rfl | rfl | rfl | rfl | rfl | rfl | rfl | rfl | rfl | rfl | rfl <;> (rw [Lib.cell_of_heap (alloc_at rfl)];rfl)
 rw [hw]
 have HC:=Lib.hid hc
 clear hc hw
 go_loopw [2,3,10] (fun u v i wr=> ∃k:Nat,k < op∧i= .int .i64 k∧wr=w1) (fun _ _ i _=> 12 - (intOf i).toNat)
 case atStart=> exact ⟨0,by have:=HOP.out;omega,rfl,rfl⟩
 case round=>
  obtain ⟨k,hk,rfl,rfl⟩:=hrel
  have hop:=HOP.out
  have hk12:k < sgL.length:=by show k < 12;omega
  have x0:=HC.out k hk12
  obtain ⟨e1,e2⟩:=sg_bin hk12
  have hlt:(k:Int) < 12:=by omega
  have HE1:=Lib.hid e1
  have HE2:=Lib.hid e2
  clear e1 e2
  generalize sgL[k]=s at *
  clear hop
  go_wp2_with fail
  refine (binary_any s _).mono ?_;rintro e w3 ⟨rfl,rfl⟩
  rw [HE1.out]
  simp only
  by_cases hf:k+1=op
  ·have hd:decide (((k+1:Nat):Int)=(op:Int))=true:=by simp;omega
   go_wp2_with fail
   go_ret2
   refine ⟨?_,hb1⟩
   rw [← hf,HE2.out]
   rfl
  ·have hd:decide (((k+1:Nat):Int)=(op:Int))=false:=by simp;omega
   go_wp2_with fail
   go_roundw
   case rel=> exact ⟨k+1,by omega,by go_num,trivial⟩
   case measure=> simp [intOf];omega
abbrev exVal (k vk vn:Int)(vs n c:List UInt8)(o:Int)(a:Value)(p q r:Int):Value:= .agg #[nv k,nv vk,nv vn,sv vs,sv n,sv c,nv o,a,nv p,nv q,nv r]
abbrev exO (k vk vn:Int)(vs n c:List UInt8)(o:Int)(a:Value)(p q r:Int):Obj:= .cells #[nv k,nv vk,nv vn,sv vs,sv n,sv c,nv o,a,nv p,nv q,nv r] 59
section
variable (vk vn:Int) (vs n c:List UInt8) (a:Value) (p q r:Int)
theorem level_bin (op:Nat)(hop:1≤op∧op≤12)(w:World):Calls Tryz.prog 103 #[exVal 8 vk vn vs n c op a p q r] w fun e w'=> e= .returned (nv (lvlS op))∧Below w.heap.size w w':=by
 go_enter Tryz.func103,Tryz.ntmps103
 go_wp2_with fail
 refine (sign_any op hop _).mono ?_;rintro e w2 ⟨rfl,b2⟩
 go_wp2_with fail
 go_ret
 refine ⟨rfl,bthen ?_ b2⟩
 repeat (first | (with_reducible exact Below.refl _ _) | (with_reducible assumption) | refine Below.setCell ?_ (by simp <;> omega) _ | refine Below.alloc ?_ (by simp <;> omega) _ | refine Below.drew ?_)
theorem level_un (op:Int)(w:World):Calls Tryz.prog 103 #[exVal 7 vk vn vs n c op a p q r] w fun e w'=> e= .returned (nv 6)∧Below w.heap.size w w':=by
 go_enter Tryz.func103,Tryz.ntmps103
 go_wp2_with fail
 go_ret
 refine ⟨rfl,?_⟩
 repeat (first | (with_reducible exact Below.refl _ _) | (with_reducible assumption) | refine Below.setCell ?_ (by simp <;> omega) _ | refine Below.alloc ?_ (by simp <;> omega) _ | refine Below.drew ?_)
theorem level_leaf (k op:Int)(h7:k≠7)(h8:k≠8)(w:World):Calls Tryz.prog 103 #[exVal k vk vn vs n c op a p q r] w fun e w'=> e= .returned (nv 7)∧Below w.heap.size w w':=by
 have d8:decide (k=8)=false:=by simp [h8]
 have d7:decide (k=7)=false:=by simp [h7]
 go_enter Tryz.func103,Tryz.ntmps103
 go_wp2_with fail
 go_ret
 refine ⟨rfl,?_⟩
 repeat (first | (with_reducible exact Below.refl _ _) | (with_reducible assumption) | refine Below.setCell ?_ (by simp <;> omega) _ | refine Below.alloc ?_ (by simp <;> omega) _ | refine Below.drew ?_)
end
theorem level_any (x:Ex)(hx:okX x)(a:Value)(p q r:Int)(w:World):Calls Tryz.prog 103 #[exVal (hdK x) (hdV x).k (hdV x).n (hdV x).s (hdN x) (hdC x) (hdO x:Nat) a p q r] w fun e w'=> e= .returned (nv (lvlX x:Nat))∧Below w.heap.size w w':=by
 cases x with
 | bin op x y=> exact level_bin _ _ _ _ _ _ _ _ _ op hx.1 w
 | un op x=> exact level_un _ _ _ _ _ _ _ _ _ _ w
 | _=> exact level_leaf _ _ _ _ _ _ _ _ _ _ _ (by simp [hdK]) (by simp [hdK]) w
end Go.Proofs.YtnbmpfdffoidaaaGreatDoor.Y
namespace Go.Proofs.YtnbmpfdffoidaaaGreatDoor.V
open Go O RowKit
theorem digN_mem (n:Nat): ∀c ∈ digN n,48≤c.toNat∧c.toNat≤57:=by
 induction n using Nat.strongRecOn with
 | ind n ih=>
  by_cases h:n < 10
  ·rw [digN_lt h]
   intro c hc
   simp at hc
   subst hc
   simp
   omega
  ·rw [digN_ge (by omega)]
   intro c hc
   simp at hc
   rcases hc with hc | hc
   ·exact ih (n / 10) (by omega) c hc
   ·subst hc
    simp
    omega
theorem digN_cons (n:Nat): ∃c r,digN n=c::r∧48≤c.toNat∧c.toNat≤57:=by
 have hm:=digN_mem n
 cases h:digN n with
 | nil=>
  exfalso
  by_cases g:n < 10
  ·rw [digN_lt g]at h;cases h
  ·rw [digN_ge (by omega)]at h;simp at h
 | cons c r=> exact ⟨c,r,rfl,hm c (by rw [h];simp)⟩
def numStep (n:Nat)(c:UInt8):Nat:=(10 * n+(c.toNat+208) % 256) % 18446744073709551616
def numF (l:List UInt8):Nat:=l.foldl numStep 0
theorem numF_snoc (l:List UInt8)(c:UInt8):numF (l ++ [c])=numStep (numF l) c:=by simp [numF]
theorem numF_dig (n:Nat)(h:n < 18446744073709551616):numF (digN n)=n:=by
 induction n using Nat.strongRecOn with
 | ind n ih=>
  by_cases g:n < 10
  ·rw [digN_lt g]
   have:(UInt8.ofNat (48+n)).toNat=48+n:=by simp;omega
   simp only [numF,List.foldl_cons,List.foldl_nil,numStep,this]
   omega
  ·rw [digN_ge (by omega),numF_snoc,ih (n / 10) (by omega) (by omega)]
   have:(UInt8.ofNat (48+n % 10)).toNat=48+n % 10:=by simp;omega
   simp only [numStep,this]
   omega
def toI (n:Nat):Int:=if n < 9223372036854775808 then n else (n:Int) - 18446744073709551616
def numS (s:List UInt8):Int:=match s with
 | []=> 0
 | c::r=> if c.toNat=45 then toI ((18446744073709551616 - numF r) % 18446744073709551616)else toI (numF (c::r))
def unqM:List UInt8→List UInt8
 | []=> []
 | [c]=> if c.toNat=92 then []else [c]
 | c::d::r=> if c.toNat=92 then d::unqM r else c::unqM (d::r)
def unqR:List UInt8→List UInt8
 | []=> []
 | [c]=> [c]
 | c::d::r=> if c.toNat=92 then d::unqR r else c::unqR (d::r)
theorem unqR_cons {c:UInt8}(h: ¬c.toNat=92)(r:List UInt8):unqR (c::r)=c::unqR r:=by
  cases r with
  | nil=> rfl
  | cons d r => conv => lhs; unfold unqR
                rw [if_neg h]
theorem unqR_two {c:UInt8}(h:c.toNat=92)(d:UInt8)(r:List UInt8):unqR (c::d::r)=d::unqR r:=by
 conv=> lhs;unfold unqR
 rw [if_pos h]
def mid (s:List UInt8):List UInt8:=(s.drop 1).take (s.length - 2)
def rstep (n:Int)(c:UInt8):Int:=if 48≤c.toNat∧c.toNat≤57 then wrap64 (wrap64 (wrap64 (n * 10) - c.toNat)+48)else n
def rnum0 (s:List UInt8):Int:=s.foldl rstep 0
theorem rnum0_snoc (l:List UInt8)(c:UInt8):rnum0 (l ++ [c])=rstep (rnum0 l) c:=by simp [rnum0]
theorem rnum0_dig (n:Nat)(h:n≤9223372036854775808):rnum0 (digN n)=-(n:Int):=by
 induction n using Nat.strongRecOn with
 | ind n ih=>
  by_cases g:n < 10
  ·rw [digN_lt g]
   have:(UInt8.ofNat (48+n)).toNat=48+n:=by simp;omega
   simp only [rnum0,List.foldl_cons,List.foldl_nil,rstep,this]
   rw [if_pos (by omega)]
   simp only [wrap64,IntKind.wrap,IntKind.signed,IntKind.bits]
   simp
   omega
  ·rw [digN_ge (by omega),rnum0_snoc,ih (n / 10) (by omega) (by omega)]
   have:(UInt8.ofNat (48+n % 10)).toNat=48+n % 10:=by simp;omega
   simp only [rstep,this]
   rw [if_pos (by omega)]
   simp only [wrap64,IntKind.wrap,IntKind.signed,IntKind.bits]
   simp
   omega
def rnum (s:List UInt8):Int:=if s.head?.map (·.toNat)=some 45 then rnum0 (s.take 21)else wrap64 (-rnum0 (s.take 21))
theorem decL_len (n:Int)(h1:-9223372036854775808≤n)(h2:n≤9223372036854775807):(decL n).length≤21:=by
 have:=digN_len20 n.natAbs (by omega)
 unfold decL
 split <;> simp <;> omega
theorem rnum_dec (n:Int)(h1:-9223372036854775808≤n)(h2:n≤9223372036854775807):rnum (decL n)=n:=by
 unfold rnum
 rw [List.take_of_length_le (decL_len n h1 h2)]
 unfold decL
 split
 ·have e:rnum0 (45::digN n.natAbs)=rnum0 (digN n.natAbs):=by simp [rnum0,rstep]
  rw [if_pos (by simp),e,rnum0_dig _ (by omega)]
  omega
 ·obtain ⟨c,r,e,hc1,hc2⟩:=digN_cons n.natAbs
  rw [if_neg (by rw [e];simp;omega),rnum0_dig _ (by omega)]
  simp only [wrap64,IntKind.wrap,IntKind.signed,IntKind.bits]
  simp
  omega
end Go.Proofs.YtnbmpfdffoidaaaGreatDoor.V
namespace Go.Proofs.YtnbmpfdffoidaaaGreatDoor.V
open Go O RowKit
def fitP (s:List UInt8)(v:Val):Bool:=right v && printV v==s
def parseR (s:List UInt8):Option Val:=
 if s=[116,114,117,101]then some ⟨2,1,[]⟩else if s=[102,97,108,115,101]then some ⟨2,0,[]⟩
 else if 2≤s.length∧s.head?.map (·.toNat)=some 34 then (if fitP s ⟨3,0,unqR (mid s)⟩then some ⟨3,0,unqR (mid s)⟩else none)
 else if decL (rnum s)=s then some ⟨1,rnum s,[]⟩else none
theorem w64 (x:Int):-9223372036854775808≤wrap64 x∧wrap64 x≤9223372036854775807:=by
 unfold wrap64
 omega
theorem rfold (l:List UInt8): ∀n:Int,-9223372036854775808≤n∧n≤9223372036854775807→-9223372036854775808≤l.foldl rstep n∧l.foldl rstep n≤9223372036854775807:=by
 induction l with
 | nil=> intro n h;exact h
 | cons c l ih=>
  intro n h
  rw [List.foldl_cons]
  refine ih _ ?_
  unfold rstep
  split
  ·exact w64 _
  ·exact h
theorem rnum_bounds (s:List UInt8):-9223372036854775808≤rnum s∧rnum s≤9223372036854775807:=by
 unfold rnum
 split
 ·exact rfold _ _ (by omega)
 ·exact w64 _
end Go.Proofs.YtnbmpfdffoidaaaGreatDoor.V
namespace Go.Proofs.YtnbmpfdffoidaaaGreatDoor.X
open O V S
theorem numV_snoc (l:List UInt8)(c:UInt8):numV (l ++ [c])=10 * numV l+(c.toNat - 48):=by simp [numV]
theorem dig1 (n:Nat)(h:n < 10):(UInt8.ofNat (48+n)).toNat=48+n:=by
 simp;omega
theorem numV_dig (n:Nat):numV (digN n)=n:=by
 induction n using Nat.strongRecOn with
 | _ n ih=>
  by_cases h:n < 10
  ·rw [digN_lt h]
   have:=dig1 n h
   simp only [numV,List.foldl_cons,List.foldl_nil,this]
   omega
  ·rw [digN_ge (by omega),numV_snoc,ih (n / 10) (by omega),dig1 (n % 10) (by omega)]
   omega
theorem dig_pos (n:Nat):0 < (digN n).length:=by
 obtain ⟨c,r,h,_⟩:=digN_cons n
 rw [h];simp
theorem getD_app (a b:List UInt8)(h:0 < a.length):(a ++b).getD 0 0=a.getD 0 0:=by
 cases a with
 | nil=> simp at h
 | cons _ _=> rfl
theorem dig_head (n:Nat):((digN n).getD 0 0).toNat≠48∨(digN n).length=1:=by
 induction n using Nat.strongRecOn with
 | _ n ih=>
  by_cases h:n < 10
  ·right;rw [digN_lt h];rfl
  ·left
   rw [digN_ge (by omega),getD_app _ _ (dig_pos _)]
   rcases ih (n / 10) (by omega)with h1 | h1
   ·exact h1
   ·intro h2
    obtain ⟨c,hc⟩: ∃c,digN (n / 10)=[c]:=List.length_eq_one_iff.1 h1
    have h3:=numV_dig (n / 10)
    rw [hc]at h2 h3
    simp [numV]at h2 h3
    omega
theorem chr_back (c:UInt8)(h:digitC c=true):UInt8.ofNat (48+(c.toNat - 48))=c:=by
 simp only [digitC,Bool.and_eq_true,decide_eq_true_eq]at h
 apply UInt8.toNat_inj.1
 simp;omega
theorem dig_of: ∀(n:Nat) (d:List UInt8),d.length=n+1→d.all digitC=true→((d.getD 0 0).toNat≠48∨d.length=1)→digN (numV d)=d
 | 0,d,hl,hd,_=> by
  obtain ⟨c,rfl⟩: ∃c,d=[c]:=List.length_eq_one_iff.1 hl
  simp only [List.all_cons,List.all_nil,Bool.and_true]at hd
  have hb:=chr_back c hd
  have hc:c.toNat - 48 < 10:=by simp only [digitC,Bool.and_eq_true,decide_eq_true_eq]at hd;omega
  have:numV [c]=c.toNat - 48:=by simp [numV]
  rw [this,digN_lt hc,hb]
 | n+1,d,hl,hd,h0=> by
  have hne:d≠[]:=by intro e;rw [e]at hl;simp at hl
  obtain ⟨a,c,rfl⟩: ∃a c,d=a ++ [c]:=⟨d.dropLast,d.getLast hne,(List.dropLast_concat_getLast hne).symm⟩
  rw [List.length_append]at hl
  simp at hl
  rw [List.all_append,Bool.and_eq_true]at hd
  obtain ⟨ha,hc⟩:=hd
  simp only [List.all_cons,List.all_nil,Bool.and_true]at hc
  have hz:(a.getD 0 0).toNat≠48:=by
   rcases h0 with h1 | h1
   ·rwa [getD_app _ _ (by omega)]at h1
   ·rw [List.length_append]at h1;simp only [List.length_cons,List.length_nil]at h1;omega
  have ih:=dig_of n a hl ha (.inl hz)
  have hpos:1≤numV a:=by
   rcases Nat.eq_zero_or_pos (numV a)with h1 | h1
   ·rw [h1]at ih
    rw [← ih]at hz
    exact absurd (by decide +kernel) hz
   ·exact h1
  have hb:=chr_back c hc
  have hc10:c.toNat - 48 < 10:=by simp only [digitC,Bool.and_eq_true,decide_eq_true_eq]at hc;omega
  rw [numV_snoc,digN_ge (by omega),show (10 * numV a+(c.toNat - 48)) / 10=numV a by omega,show (10 * numV a+(c.toNat - 48)) % 10=c.toNat - 48 by omega,ih,hb]
theorem parseR_dig (d:List UInt8)(hp:0 < d.length)(hd:d.all digitC=true):parseR d=if numOk d=true then some ⟨1,(numV d:Nat),[]⟩else none:=by
 obtain ⟨c,r,rfl⟩: ∃c r,d=c::r:=by
  cases d with
  | nil=> simp at hp
  | cons c r=> exact ⟨c,r,rfl⟩
 have hc:digitC c=true:=by simp only [List.all_cons,Bool.and_eq_true]at hd;exact hd.1
 simp only [digitC,Bool.and_eq_true,decide_eq_true_eq]at hc
 have h1: ∀(x:UInt8) (y:List UInt8),57 < x.toNat→c::r≠x::y:=by
  intro x y hx e
  injection e with e _
  rw [← e]at hx;omega
 unfold parseR
 rw [if_neg (h1 116 _ (by decide)),if_neg (h1 102 _ (by decide)),if_neg (by simp;omega)]
 by_cases hok:numOk (c::r)=true
 ·rw [if_pos hok]
  simp only [numOk,Bool.and_eq_true,decide_eq_true_eq,Bool.or_eq_true]at hok
  have h2:=dig_of r.length (c::r) rfl hd hok.2
  have h3:decL ((numV (c::r):Nat):Int)=c::r:=by
   unfold decL;rw [if_neg (by omega),Int.natAbs_natCast,h2]
  have h4:=rnum_dec ((numV (c::r):Nat):Int) (by omega) (by omega)
  rw [h3]at h4
  rw [h4,if_pos h3]
 ·rw [if_neg hok,if_neg]
  intro h
  apply hok
  have hb:=rnum_bounds (c::r)
  have hnn:0≤rnum (c::r):=by
   rcases Int.lt_or_le (rnum (c::r)) 0 with hneg | hneg
   ·unfold decL at h
    rw [if_pos hneg]at h
    injection h with h _
    rw [← h]at hc
    exact absurd hc (by decide)
   ·exact hneg
  unfold decL at h
  rw [if_neg (by omega)]at h
  have h5:=numV_dig (rnum (c::r)).natAbs
  have h6:=dig_head (rnum (c::r)).natAbs
  rw [h]at h5 h6
  simp only [numOk,Bool.and_eq_true,decide_eq_true_eq,Bool.or_eq_true]
  exact ⟨by omega,h6⟩
end Go.Proofs.YtnbmpfdffoidaaaGreatDoor.X
namespace Go.Proofs.YtnbmpfdffoidaaaGreatDoor.Y
open O V S X
def txts (l:List Tok):List (List UInt8):=l.map (·.2.1)
end Go.Proofs.YtnbmpfdffoidaaaGreatDoor.Y
