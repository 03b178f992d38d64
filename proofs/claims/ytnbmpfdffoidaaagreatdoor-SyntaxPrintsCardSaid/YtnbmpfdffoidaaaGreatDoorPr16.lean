/- Texts of the proof, joined: RfB, RfV, BeX, BeS. -/
import Derived.Test.YtnbmpfdffoidaaaGreatDoorPr14
import Derived.Test.YtnbmpfdffoidaaaGreatDoorPr15
set_option linter.unusedVariables false
set_option linter.unusedSimpArgs false
set_option maxHeartbeats 8000000
set_option maxRecDepth 100000
namespace Go.Proofs.YtnbmpfdffoidaaaGreatDoor.Y
open Go.RowKit O V S X
theorem Fr.row1 {α:Type}{rep:World→(Nat→Prop)→α→List Value→Prop}{et:TypeId}{size:Nat}{g b lo k c c7 lo1 i:Nat}{ms:List Nat}{w W w7:World}{σ:Sg}{cs cs':Array Value}{T:TypeId}{G G':Prop}{A A7:Option Addr}{a:List α}{xs vs:List Value}{y:α}{p0:World→Prop}
  (hkeep: ∀(w w':World) (S:Nat→Prop) (a:α) (vs:List Value),(∀b,S b→w'.heap[b]? =w.heap[b]?)→rep w S a vs→rep w' S a vs)
  (hmono: ∀(w:World) (S S':Nat→Prop) (a:α) (vs:List Value),(∀b,S b→S' b)→rep w S a vs→rep w S' a vs)
  (F:Fr g ms w W σ (Bx g b (.cells cs T (0,0)) (fun V=> p0 V∧Ar rep et size G V lo A k c a xs))) (hp: ∀V V':World,(∀j,j < lo→j≠b→V'.heap[j]? =V.heap[j]?)→p0 V→p0 V') (hps: ∀V V':World,Mod [g,b] V V'→p0 V→p0 V') (hms:b ∈ ms∨w.heap.size≤b) (hlw:w.heap.size≤lo) (hb:b < lo) (hG:G'→G) (hlW:lo≤W.heap.size) (hlo:lo≤lo1) (hown: ∀b,(Value.slice A k c).ownBlock=some b→b < lo1)
  (hy:G'→∃S,rep W S y vs∧In lo1 W S)
  (o7:w7.ownsRow lo et size (.slice A7 (k+1) c7) (k+1) (xs ++vs)) (g7:W.grownBy w7 (Value.slice A k c).ownBlock)
  (h7:(Value.slice A7 (k+1) c7).ownBlock=(Value.slice A k c).ownBlock∨(Value.slice A7 (k+1) c7).ownBlock=some W.heap.size) (e:cs.setIfInBounds i (.slice A7 (k+1) c7)=cs'):
  Hid (Fr g ms w (w7.setCell ⟨b,i,none⟩ (.slice A7 (k+1) c7)) σ (Bx g b (.cells cs' T (0,0)) (fun V=> p0 V∧Ar rep et size G' V lo A7 (k+1) c7 (a ++ [y]) (xs ++vs)))):=by
 have hgb:=F.p.ne
 have hbW:b < W.heap.size:=(Array.getElem?_eq_some_iff.1 F.p.x).1
 have hn7: ∀j,j < lo→some j≠(Value.slice A k c).ownBlock:=fun j hj e=> by have:=(F.p.q.2.own.lt j e.symm).1;omega
 have hx7:=(g7.block b hbW (hn7 b hb)).trans F.p.x
 have m2:Mod [b] w7 (w7.setCell ⟨b,i,none⟩ (.slice A7 (k+1) c7)):=(Mod.refl _ _).set (.inl (by simp)) _
 refine Lib.hid ⟨F.gm,fun _ _=> Bx.st,?_,?_,⟨hgb,fun V V' m h=> ⟨hps _ _ m h.1,h.2.mod hkeep m (fun j hj=> by simp at hj;omega)⟩,heap_set' hx7 _ i e,hp _ _ (fun j hj hjb=> ?_) F.p.q.1,?_⟩⟩
 ·exact (F.m.grown g7 (fun j hj=> .inr (by have:=(F.p.q.2.own.lt j hj).1;omega))).trans m2 (fun x hx=> by simp at hx;rw [hx];exact hms)
 ·exact F.s.keep fun j hj=> (m2.block j (by have:=g7.size;omega) (by simp;omega)).trans (g7.block j (by omega) (hn7 j (by omega)))
 ·exact (m2.block j (by have:=g7.size;omega) (by simp;omega)).trans (g7.block j (by omega) (hn7 j hj))
 ·exact F.p.q.2.put hkeep hmono hG hlo hown hy g7 h7 (own_mod o7 m2 (fun j hj=> by have:=(o7.lt j hj).1;simp;omega)) m2 (fun x hx=> by simp at hx;exact .inl (by omega))
theorem cl_E:Elem Tryz.prog 38 72 3 32 (.agg #[.string ByteArray.empty,.int .i64 0,.int .i64 0]):=by
 obtain ⟨i,hi,h1,h2,h3⟩:=info_parts (show (Tryz.prog.info? 72).map (fun i=> (i.zero,i.size,i.bytes))=some (some (.agg #[.string ByteArray.empty,.int .i64 0,.int .i64 0]),3,32) by kernel_rfl)
 exact ⟨Tryz.underlying38,i,hi,h1,h2,h3,rfl,by omega⟩
def lenE (w:World)(g:Nat):Nat:=if (w.cell? ⟨g,3,none⟩).map intOf=some 0 then lenF w g+1 else 0
theorem ST.e {w:World}{g:Nat}{σ:Sg}(h:ST w g σ): ∃ev,w.cell? ⟨g,3,none⟩=some (nv ev)∧(ev==0)=σ.isSome:=by
 obtain ⟨A,n,c,iv,dv,ev,a,b,x,p,q,r,hb,⟨h1,h2⟩,_⟩:=h.box
 refine ⟨ev,by rw [Lib.cell_of_heap hb];rfl,?_⟩
 cases σ with
 | none=> simpa using h1 rfl
 | some y=> simpa using h2 (by simp)
theorem ST.lenE {w:World}{g:Nat}{σ:Sg}(h:ST w g σ):lenE w g=lenG σ:=by
 obtain ⟨ev,h1,h2⟩:=h.e
 unfold Y.lenE
 rw [h1,h.lenF]
 cases σ with
 | none=>
  rw [if_neg (by simpa [intOf]using h2)]
  rfl
 | some y=> rw [if_pos (by simpa [intOf]using h2)];rfl
abbrev ClX:World→(Nat→Prop)→Cl→List Value→Prop:=fun _ _=> ClR
theorem cl_keep (w w':World)(S:Nat→Prop)(a:Cl)(vs:List Value)(_: ∀b,S b→w'.heap[b]? =w.heap[b]?)(k:ClX w S a vs):ClX w' S a vs:=k
theorem cl_mono (w:World)(S S':Nat→Prop)(a:Cl)(vs:List Value)(_: ∀b,S b→S' b)(k:ClX w S a vs):ClX w S' a vs:=k
abbrev tbB (n:List UInt8)(r:Int)(v:Value):Obj:= .cells #[sv n,nv r,v] 66 (0,0)
abbrev tbO (n:List UInt8)(r:Int)(v:Value):Obj:= .cells #[sv n,nv r,v] 66
section
variable {g b:Nat} {ms:List Nat} {w W:World} {σ:Sg} {q:World→Prop} {n:List UInt8} {r:Int} {v:Value}
theorem Fr.tb0 (F:Hid (Fr g ms w W σ (Bx g b (tbB n r v) q)))(hb:b ∈ ms∨w.heap.size≤b){u:List UInt8}:Hid (Fr g ms w (W.setCell ⟨b,0,none⟩ (sv u)) σ (Bx g b (tbB u r v) q)):=F.out.set 0 _ hb rfl
theorem Fr.tb1 (F:Hid (Fr g ms w W σ (Bx g b (tbB n r v) q)))(hb:b ∈ ms∨w.heap.size≤b){u:Int}:Hid (Fr g ms w (W.setCell ⟨b,1,none⟩ (nv u)) σ (Bx g b (tbB n u v) q)):=F.out.set 1 _ hb rfl
end
def WCl (a:List Cl):Nat:=(a.map fun c=> W 1 (toksC c)+2).sum
theorem WCl_snoc (a:List Cl)(c:Cl):WCl (a ++ [c])=WCl a+(W 1 (toksC c)+2):=by unfold WCl;simp
theorem W_colsF: ∀a:List Cl,W 1 (a.flatMap fun c=> toksC c ++ [tg [59]])=WCl a
 | []=> rfl
 | c::a=> by
  rw [List.flatMap_cons,W_app,W_app,W_colsF a,W_cons,W_nil,cw_g]
  unfold WCl
  simp
def TabR (σ:Sg)(g:Nat)(w:World)(e:Ending)(w':World):Prop:= ∃t A c σ',e= .returned (.agg #[sv t.name,nv t.rows,.slice A t.cols.length c])∧ST w' g σ'∧Mod [g] w w'∧
 Eat σ σ' (W 1 (toksTb t))∧(σ'≠none→okT t)∧∃S,TbR w' S t [sv t.name,nv t.rows,.slice A t.cols.length c]∧In w.heap.size w' S
theorem tab_fin {σ σ':Sg}{g b c:Nat}{w V wz:World}{o:Obj}{n:List UInt8}{r:Int}{A:Option Addr}{a:List Cl}{xs:List Value}{p:World→Prop}
  (F:Fr g [g] w V σ' (Bx g b o (fun V=> p V∧Ar ClX 72 3 True V (b+1) A a.length c a xs))) (hlt:g < w.heap.size) (hb1:w.heap.size < b) (M3:Mod [w.heap.size] V wz) (E:Eat σ σ' (17+n.length+(decL r).length+WCl a)) (N:σ'≠none→okT ⟨n,r,a⟩):TabR σ g w (.returned (.agg #[sv n,nv r,.slice A a.length c])) wz:=by
 have h1:=F.m.size
 have h2:=M3.size
 refine ⟨⟨n,r,a⟩,A,c,σ',rfl,F.s.keep fun j hj=> M3.block j (by omega) (by simp;omega),F.m.trans M3 (fun x hx=> .inr (by simp at hx;omega)),E.le ?_,N,fun k=> (Value.slice A a.length c).ownBlock=some k,⟨A,c,xs,rfl,Row.of_own (own_mod F.p.q.2.own M3 (fun j hj hx=> by have:=(F.p.q.2.own.lt j hj).1;simp at hx;omega)) (fun g hg=> hg),?_⟩,fun k hk=> ⟨by have:=(F.p.q.2.own.lt k hk).1;omega,by have:=(F.p.q.2.own.lt k hk).2;omega⟩⟩
 ·unfold toksTb
  simp only [W_cons,W_app,W_colsF,W_nil,cw_w,cw_g,cw_n,w_table,w_rows,List.length_cons,List.length_nil]
  omega
 ·obtain ⟨_,h,_⟩:=F.p.q.2.tr trivial
  exact h
theorem f_table (σ:Sg)(w:World)(g:Nat)(h:ST w g σ):Calls Tryz.prog 30 #[.pointer (some ⟨g,0,none⟩)] w (TabR σ g w):=by
 have hlt:=h.lt
 go_enter Tryz.func30,Tryz.ntmps30
 go_upto_region 2 with fail
 have F2:Hid (Fr g [g] w ((w.alloc (tbO [] 0 (.slice none 0 0))).alloc (tbO [] 0 (.slice none 0 0))) σ (Bx g (w.heap.size+1) (tbB [] 0 (.slice none 0 0)) (fun V=> V.heap[w.heap.size]? =some (tbB [] 0 (.slice none 0 0))))):=Lib.hid ⟨by simp,fun _ _=> Bx.st,((Mod.refl _ _).alloc _).alloc _,h.next (((Below.refl _ _).alloc (Nat.le_refl _) _).alloc (by simp) _),⟨by omega,fun _ _ m h=> m.box h (by simp;omega),alloc_at (by simp),alloc_old' (alloc_at rfl)⟩⟩
 obtain ⟨b,hbe⟩: ∃b,w.heap.size+1=b:=⟨_,rfl⟩
 have hb:b ∈ [g]∨w.heap.size≤b:= .inr (by omega)
 have hb1:w.heap.size < b:=by omega
 rw [hbe]at F2
 rw [hbe]
 clear hbe h
 go_wp2_with fail
 refine (Fr.want F2 [116,97,98,108,101] (by simp)).mono ?_;rintro e w3 ⟨rfl,F3⟩
 have E:=Lib.hid (Eat.want σ (s:=[116,97,98,108,101]) (by simp))
 generalize wantS σ [116,97,98,108,101]=σ3 at *
 go_wp2_with fail
 refine (Fr.name F3).mono ?_;rintro e w4 ⟨rfl,F4⟩
 have N:=Lib.hid (Eat.name σ3)
 generalize nameS σ3=n at *
 generalize nmA σ3=σ4 at *
 obtain ⟨c0,f0⟩:=F4.out.p.cf 0 rfl
 go_wp2_with fail
 clear c0 f0 F2 F3
 refine (Fr.want (Fr.tb0 F4 hb) [114,111,119,115] (by simp)).mono ?_;rintro e w5 ⟨rfl,F5⟩
 have E5:=Lib.hid (Eat.want σ4 (s:=[114,111,119,115]) (by simp))
 generalize wantS σ4 [114,111,119,115]=σ5 at *
 go_wp2_with fail
 refine (Fr.num F5).mono ?_;rintro e w6 ⟨rfl,F6⟩
 have M:=Lib.hid (Eat.num F5.out.s)
 generalize nnS σ5=r at *
 generalize numA σ5=σ6 at *
 obtain ⟨c1,f1⟩:=F6.out.p.cf 1 rfl
 go_wp2_with fail
 clear c1 f1 F4 F5
 refine (Fr.want (Fr.tb1 F6 hb) [123] (by simp)).mono ?_;rintro e w7 ⟨rfl,F7⟩
 have E7:=Lib.hid (Eat.want σ6 (s:=[123]) (by simp))
 generalize wantS σ6 [123]=σ7 at *
 have E8:=Lib.hid ((E.out.trans N.out.1 (Nat.le_refl _)).trans ((E5.out.trans M.out.1 (Nat.le_refl _)).trans E7.out (Nat.le_refl _)) (Nat.le_refl _))
 have N8:Hid (σ7≠none→isNameL n=true∧okNum r):=Lib.hid fun h=> have h6:=E7.out.some h;⟨N.out.2 (E5.out.some (M.out.1.some h6)),M.out.2 h6⟩
 clear E N M E5 E7 F6
 replace F7:Hid (Fr g [g] w w7 σ7 (Bx g b (tbB n r (.slice none 0 0)) (fun V=> V.heap[w.heap.size]? =some (tbB [] 0 (.slice none 0 0))∧Ar ClX 72 3 True V (b+1) none 0 0 [] []))):=F7.out.as (fun V V' m h=> ⟨m.box h.1 (by simp;omega),h.2.mod cl_keep m (fun j hj=> by have:=F7.out.p.ne;simp at hj;omega)⟩) ⟨F7.out.p.q,Ar.nil_ _ _⟩
 go_wp2_with fail
 go_loopw [] (fun wr=> ∃(k:Nat) (A:Option Addr) (c:Nat) (a:List Cl) (xs:List Value) (σr:Sg),Hid (Fr g [g] w wr σr (Bx g b (tbB n r (.slice A k c)) (fun V=> V.heap[w.heap.size]? =some (tbB [] 0 (.slice none 0 0))∧Ar ClX 72 3 True V (b+1) A k c a xs)))∧Hid (Eat σ σr (15+n.length+(decL r).length+WCl a))∧Hid (σr≠none→(isNameL n=true∧okNum r)∧a.length≤8∧∀c ∈ a,okC c)) (fun wr=> lenE wr g)
 case atStart=> exact ⟨0,none,0,[],[],σ7,F7,Lib.hid (E8.out.le (by simp [WCl];omega)),Lib.hid fun h=> ⟨N8.out h,by simp,by simp⟩⟩
 case round=>
  clear F7 E8 N8
  obtain ⟨k,A,c,a,xs,σr,F,E,N⟩:=hrel
  obtain ⟨ev,c3,he⟩:=F.out.s.e
  have HM:=Lib.hid F.out.s.lenE
  cases σr with
  | none=>
   go_upto_region 12 with fail
   obtain rfl:=F.out.p.q.2.len
   obtain ⟨⟨x0,x1⟩,x2⟩:=cells3q F.out.p.x
   obtain ⟨⟨z0,z1⟩,z2⟩:=cells3q F.out.p.q.1
   obtain ⟨⟨v0,v1⟩,v2⟩:=frozen3p F.out.p.q.1
   go_wp2_with fail
   clear x0 x1 x2 z0 z1 z2 v0 v1 v2
   obtain ⟨⟨⟨x0,x1⟩,x2⟩,M3⟩:=set3 (x0:=sv n) (x1:=nv r) (x2:= .slice A a.length c) F.out.p.q.1
   refine bodyPost_ret (v:= .agg #[sv n,nv r,.slice A a.length c]) (by simp [results,Tryz.results30,go_sem,x0,x1,x2]) rfl ?_
   exact tab_fin F.out hlt hb1 M3 (by intro _ _ e;cases e) (fun e=> absurd rfl e)
  | some y=>
   go_wp2_with fail
   refine (Fr.take F [125] (by simp)).mono ?_;rintro e w2 ⟨rfl,F2⟩
   clear c3 he
   cases hk:takeB (some y) [125]with
   | true=>
    have T:=Lib.hid (Eat.take (σ:=some y) (s:=[125]) (by simp) hk)
    generalize takeS (some y) [125]=σ2 at *
    clear hk F
    go_upto_region 12 with fail
    obtain rfl:=F2.out.p.q.2.len
    obtain ⟨⟨x0,x1⟩,x2⟩:=cells3q F2.out.p.x
    obtain ⟨⟨z0,z1⟩,z2⟩:=cells3q F2.out.p.q.1
    obtain ⟨⟨v0,v1⟩,v2⟩:=frozen3p F2.out.p.q.1
    go_wp2_with fail
    clear x0 x1 x2 z0 z1 z2 v0 v1 v2
    obtain ⟨⟨⟨x0,x1⟩,x2⟩,M3⟩:=set3 (x0:=sv n) (x1:=nv r) (x2:= .slice A a.length c) F2.out.p.q.1
    refine bodyPost_ret (v:= .agg #[sv n,nv r,.slice A a.length c]) (by simp [results,Tryz.results30,go_sem,x0,x1,x2]) rfl ?_
    exact tab_fin F2.out hlt hb1 M3 (E.out.trans T.out (by simp;omega)) (fun h=> have h1:=N.out (T.out.some h);⟨h1.1.1,h1.1.2,h1.2⟩)
   | false=>
    rw [takeS_no hk]at F2
    clear hk F
    obtain ⟨σr,hy⟩: ∃s,some y=s:=⟨_,rfl⟩
    rw [hy]at F2 E N HM
    have HM:Hid (0 < lenE wr g∧lenE wr g=lenG σr):=Lib.hid ⟨by rw [HM.out,← hy];simp [lenG],HM.out⟩
    clear hy
    go_upto_region 8 with fail
    go_cut [33] (fun v wx=> v= .bool (decide (k=8) && nmS σr)∧Hid (Fr g [g] w wx σr (Bx g b (tbB n r (.slice A k c)) (fun V=> V.heap[w.heap.size]? =some (tbB [] 0 (.slice none 0 0))∧Ar ClX 72 3 True V (b+1) A k c a xs))))
    case first=>
     obtain ⟨⟨x0,x1⟩,x2⟩:=cells3q F2.out.p.x
     by_cases hk:k=8
     ·subst hk
      go_wp2_with fail
      refine (Fr.isName F2).mono ?_;rintro e w3 ⟨rfl,F3⟩
      go_wp2_with fail
      go_meet
      exact ⟨by simp,F3⟩
     ·have hk1:((k:Int)==8)=false:=by simp;omega
      go_wp2_with fail
      go_meet
      exact ⟨by simp [hk],F2⟩
    case rest=>
     clear F2
     obtain ⟨rfl,F2⟩:=hcut
     obtain ⟨w2,hw⟩: ∃W,wc=W:=⟨_,rfl⟩
     rw [hw]at F2
     rw [hw]
     clear hw
     obtain ⟨bv,hbv⟩: ∃v,(decide (k=8) && nmS σr)=v:=⟨_,rfl⟩
     have HBV:=Lib.hid hbv
     rw [hbv]
     clear hbv
     go_upto_if 33 with fail
     go_cut [] (fun wx=> ∃σ8,Hid (Fr g [g] w wx σ8 (Bx g b (tbB n r (.slice A k c)) (fun V=> V.heap[w.heap.size]? =some (tbB [] 0 (.slice none 0 0))∧Ar ClX 72 3 True V (b+1) A k c a xs)))∧Hid (σ8≠none→σ8=σr∧(k=8→nmS σr=false)))
     case first=>
      cases bv with
      | true=>
       go_wp2_with fail
       refine (Fr.fail F2 2 (by decide)).mono ?_;rintro e w3 ⟨rfl,F3⟩
       go_wp2_with fail
       go_meet
       exact ⟨none,F3,Lib.hid fun h=> absurd rfl h⟩
      | false=>
       go_wp2_with fail
       go_meet
       exact ⟨σr,F2,Lib.hid fun _=> ⟨rfl,fun h=> by simpa [h]using HBV.out⟩⟩
     case rest=>
      clear F2
      obtain ⟨σ8,F8,S8⟩:=hcut
      have hk8:k≤8:=by
       rw [← F8.out.p.q.2.len]
       refine (N.out fun h=> ?_).2.1
       have:=HM.out
       rw [h]at this
       simp [lenG]at this
       omega
      go_upto_region 10 with fail
      obtain ⟨wd,hwd⟩: ∃W,wc.drew=W:=⟨_,rfl⟩
      have Fd:Hid (Fr g _ _ wd σ8 _):=Lib.hid (by rw [← hwd];exact (F8.out.next (Below.refl _ _).drew).out)
      clear F8
      refine wp_region_last (l:=[_,_,_,_,_,_,_]) [b] (.read 0 (.read 1 (.read 2 (.call 3 (.call 4 (.call 5 (.read 6 .done))))))) (by kernel_rfl) (by kernel_rfl) (by kernel_rfl) (fun _ _ d _ _ h=> by cases d <;> exact h) ?_
      rw [hwd]
      clear hwd
      refine pwith (fun W hW=> (show W.cell? ⟨b,2,none⟩=some (.slice A k c) from (World.cell?_of_block (a:=⟨b,2,none⟩) (hW b (by simp))).trans (Fd.out.p.cf 2 rfl).1)) (fun k7=> ?_)
      repeat (first | (refine prE ?_;simp only [Act.put,sA,sB,sC]) | (refine pkE ?_;simp only [Act.put,sA,sB,sC]))
      refine pcall rfl rfl (fun K hK=> ?_)
      go_simp
      have hgb:=Fd.out.p.ne
      have hsd:=Fd.out.m.size
      refine (f_col σ8 wd g Fd.out.s).mono ?_;rintro e w9 ⟨nm,ck,cm,σ9,rfl,h9,m9,e9,n9⟩;have E9:=Lib.hid e9;have N9:=Lib.hid n9;clear e9 n9
      have F9:=Fd.out.mod m9 h9
      have hbd:b < wd.heap.size:=(Array.getElem?_eq_some_iff.1 Fd.out.p.x).1
      have hkb:w9.heap[b]? =wd.heap[b]? :=m9.block _ hbd (by simp;omega)
      have hd9:=m9.size
      have hb9:b < w9.heap.size:=by omega
      go_wp2_with fail
      refine hK.out _ _ (fun b' hb=> by simp at hb;rw [hb];exact hkb) ?_
      clear hK K hkb k7 h9 m9
      try simp only [Act.put,sA,sB,sC]
      refine pcall rfl rfl (fun K hK=> ?_)
      go_simp
      refine hK.out _ _ (fun b' hb=> Below.heap_alloc _ _ _ (by simp at hb;omega)) ?_
      clear hK K
      try simp only [Act.put,sA,sB,sC]
      obtain ⟨wa,hw⟩: ∃W,w9.alloc (.cells #[sv nm,nv ck,nv cm] 72)=W:=⟨_,rfl⟩
      have RD:Hid (Rd wa (w9.heap.size+1) 3 (some ⟨w9.heap.size,0,none⟩) 1 [sv nm,nv ck,nv cm]):=Lib.hid (by rw [← hw];exact Rd.made _ _ rfl rfl)
      have Fa:Hid (Fr g _ _ wa σ9 _):=Lib.hid (by rw [← hw];exact (F9.out.next one_new).out)
      have hza:w9.heap.size < wa.heap.size:=by rw [← hw];simp
      have HA:Hid (∀b,b < w9.heap.size→wa.heap[b]? =w9.heap[b]?):=Lib.hid fun b hb=> by rw [← hw];exact Below.heap_alloc _ _ _ hb
      first | rw [hw] | (simp only [nv,sv]at hw;rw [hw])
      clear hw F9
      refine pcall rfl rfl (fun K hK=> ?_)
      have hown: ∀b,(Value.slice A k c).ownBlock=some b→b < wd.heap.size:=fun b h=> (Fd.out.p.q.2.own.lt b h).2
      clear Fd
      refine wapp4 (.tmp 37) (.tmp 40) cl_E rfl (b+1) xs rfl Fa.out.p.q.2.own rfl [sv nm,nv ck,nv cm] RD.out (by simp [Value.oneCell']) (by unfold maxLen;omega) (by omega) (by omega) rfl ?_
      intro A7 c7 wA o7 g7 h7
      have hn7:some b≠(Value.slice A k c).ownBlock:=fun e=> by have:=(Fa.out.p.q.2.own.lt _ e.symm).1;omega
      refine hK.out _ _ (fun b' hb=> by simp at hb;rw [hb];exact g7.block b (by omega) hn7) ?_
      clear hK K
      try simp only [Act.put,sA,sB,sC]
      repeat (first | (refine prE ?_;simp only [Act.put,sA,sB,sC]) | (refine pkE ?_;simp only [Act.put,sA,sB,sC]))
      refine pdone ?_
      refine last_step rfl (fun K hK=> ?_)
      have x7:=(World.cell?_of_block (a:=⟨b,2,none⟩) (g7.block b (by omega) hn7)).trans (Fa.out.p.cf 2 rfl).1
      have f7:wA.frozen? ⟨b,2,none⟩=false:=Lib.frozen_of_heap ((g7.block b (by omega) hn7).trans Fa.out.p.x) 2
      go_simp
      refine hK.out _ _ ?_
      clear hK K x7 f7
      have FF:=Fa.out.row1 (i:=2) (lo1:=wd.heap.size) cl_keep cl_mono (fun V V' h=> (h _ (by omega) (by omega)).trans) (fun V V' m h=> m.box h (by simp;omega)) hb (by omega) (by omega) (fun h=> h) (by omega) (by omega) hown (y:=(⟨nm,ck,cm⟩:Cl)) (fun _=> ⟨fun _=> False,rfl,fun _ h=> h.elim⟩) o7 g7 h7 rfl
      obtain ⟨wF,hw⟩: ∃W,wA.setCell ⟨b,2,none⟩ (.slice A7 (k+1) c7)=W:=⟨_,rfl⟩
      rw [hw]at FF
      rw [hw]
      clear hw o7 g7 h7 Fa RD hown hn7
      go_wp2_with fail
      refine (Fr.want FF [59] (by simp)).mono ?_;rintro e wG ⟨rfl,FG⟩
      have EG:=Lib.hid (Eat.want σ9 (s:=[59]) (by simp))
      generalize wantS σ9 [59]=σG at *
      have H8:Hid (σ9≠none→σ8=σr∧(k=8→nmS σr=false)):=Lib.hid fun h=> S8.out (E9.out.some h)
      have E9r:Hid (Eat σr σ9 (W 1 (toksC ⟨nm,ck,cm⟩))):=Lib.hid fun d r h=> by
       obtain ⟨e,_⟩:=H8.out (by rw [h];simp)
       rw [← e]
       exact E9.out d r h
      have EF:=Lib.hid (E9r.out.trans EG.out (Nat.le_refl _))
      go_wp2_with fail
      go_roundw
      case rel=> exact ⟨k+1,A7,c7,_,_,σG,FG,Lib.hid (E.out.trans EF.out (by rw [WCl_snoc];simp;omega)),Lib.hid fun h=> by
       have h9:=EG.out.some h
       obtain ⟨e,h8⟩:=H8.out h9
       obtain ⟨h1,h2,h3⟩:=N.out (EF.out.some h)
       obtain ⟨h4,h5⟩:=N9.out h9
       refine ⟨h1,?_,fun x hx=> (List.mem_append.1 hx).elim (h3 x) (fun h=> by simp at h;rw [h];exact h4)⟩
       have:k≠8:=fun hk=> by rw [e,h8 hk]at h5;cases h5
       have:=FG.out.p.q.2.len
       omega⟩
      case measure=>
       have h1:=HM.out
       have h2:=FG.out.s.lenE
       have h3:=EF.out.less (by omega)
       omega
end Go.Proofs.YtnbmpfdffoidaaaGreatDoor.Y
namespace Go.Proofs.YtnbmpfdffoidaaaGreatDoor.Y
open Go.RowKit O V S X
def EatL (σ σ':Sg)(n:Nat):Prop:= ∀d r,σ'=some (d,r)→∃l,σ=some (d,l)∧r.length≤l.length∧n+W 1 r≤W 1 l
theorem EatL.trans {σ σ1 σ2:Sg}{a b c:Nat}(h:EatL σ σ1 a)(k:Eat σ1 σ2 b)(e:c≤a+b):EatL σ σ2 c:=fun d r hr=> by
 obtain ⟨l,h1,h2,h3⟩:=k d r hr
 obtain ⟨m,h4,h5,h6⟩:=h d l h1
 exact ⟨m,h4,by omega,by omega⟩
def goS:Sg→Bool
 | some (_,t::_)=> tkT t !=[125]
 | _=> false
theorem toksB_snoc: ∀(b:Sts) (s:St),toksB (b.snoc s)=toksB b ++toksS s
 | .nil,s=> by simp [Sts.snoc,toksB]
 | .cons t r,s=> by simp [Sts.snoc,toksB,toksB_snoc r s]
abbrev ArS:=Ar StR 44 11
theorem stx_keep (w w':World)(S:Nat→Prop)(a:St)(vs:List Value)(h: ∀b,S b→w'.heap[b]? =w.heap[b]?)(k:StR w S a vs):StR w' S a vs:=StR.keep h a vs k
theorem stx_mono (w:World)(S S':Nat→Prop)(a:St)(vs:List Value)(h: ∀b,S b→S' b)(k:StR w S a vs):StR w S' a vs:=StR.mono h a vs k
theorem Fr.row2 {α:Type}{rep:World→(Nat→Prop)→α→List Value→Prop}{et:TypeId}{size:Nat}{g lo k c c7 lo1:Nat}{ms:List Nat}{w W w7:World}{σ:Sg}{G G':Prop}{A A7:Option Addr}{a:List α}{xs vs:List Value}{y:α}
  (hkeep: ∀(w w':World) (S:Nat→Prop) (a:α) (vs:List Value),(∀b,S b→w'.heap[b]? =w.heap[b]?)→rep w S a vs→rep w' S a vs)
  (hmono: ∀(w:World) (S S':Nat→Prop) (a:α) (vs:List Value),(∀b,S b→S' b)→rep w S a vs→rep w S' a vs)
  (F:Fr g ms w W σ (fun V=> Ar rep et size G V lo A k c a xs)) (hg:g < lo) (hlw:w.heap.size≤lo) (hG:G'→G) (hlW:lo≤W.heap.size) (hlo:lo≤lo1) (hown: ∀b,(Value.slice A k c).ownBlock=some b→b < lo1)
  (hy:G'→∃S,rep W S y vs∧In lo1 W S)
  (o7:w7.ownsRow lo et size (.slice A7 (k+1) c7) (k+1) (xs ++vs)) (g7:W.grownBy w7 (Value.slice A k c).ownBlock)
  (h7:(Value.slice A7 (k+1) c7).ownBlock=(Value.slice A k c).ownBlock∨(Value.slice A7 (k+1) c7).ownBlock=some W.heap.size):
  Hid (Fr g ms w w7 σ (fun V=> Ar rep et size G' V lo A7 (k+1) c7 (a ++ [y]) (xs ++vs))):=
 Lib.hid ⟨F.gm,fun _ _ m h=> h.mod hkeep m (fun j hj=> by simp at hj;omega),F.m.grown g7 (fun j hj=> .inr (by have:=(F.p.own.lt j hj).1;omega)),F.s.keep fun j hj=> g7.block j (by have:=F.lt;omega) (fun e=> by have:=(F.p.own.lt j e.symm).1;omega),F.p.put hkeep hmono hG hlo hown hy g7 h7 o7 (Mod.refl [] _) (fun x hx=> by cases hx)⟩
theorem f_block (f:Nat)(HS:StmtC f):BlockC (f+1):=by
 intro σ w g h hm
 have HS:=Lib.hid HS
 have hlt:=h.lt
 have F0:Hid (Fr g [g] w w σ (fun _=> True)):=Lib.hid ⟨by simp,fun _ _ _ h=> h,Mod.refl _ _,h,trivial⟩
 clear h
 go_enter Tryz.func69,Tryz.ntmps69
 go_wp2_with fail
 refine (Fr.open_ F0 [123] (by simp)).mono ?_;rintro e w1 ⟨rfl,F1⟩
 have E1:Hid (∀d l,openS σ [123]=some (d,l)→∃d1 t,σ=some (d1,t::l)∧d=d1+1∧W 1 (t::l)=2+W 1 l):=Lib.hid fun d l he=> by
  obtain ⟨d1,t1,e1,e2,e3,_⟩:=openS_inv (by simp) he
  exact ⟨d1,t1,e1,e2,e3⟩
 clear F0
 generalize openS σ [123]=σ1 at *
 replace F1:Hid (Fr g [g] w w1 σ1 (fun V=> ArS (σ1≠none) V w.heap.size none 0 0 [] [])):=F1.out.imp (fun _ _ m h=> h.mod stx_keep m (fun j hj=> by simp at hj;omega)) (Ar.nil_ _ _)
 go_wp2_with fail
 go_loopw [3] (fun v wr=> ∃(k:Nat) (A:Option Addr) (c:Nat) (a:Sts) (xs:List Value) (σr:Sg),v= .slice A k c∧Hid (Fr g [g] w wr σr (fun V=> ArS (σr≠none) V w.heap.size A k c a.list xs))∧Hid (EatL σ1 σr (Y.W 1 (toksB a)))∧Hid (σr≠none→okB a∧a.len≤24)) (fun _ wr=> lenE wr g)
 case atStart=> exact ⟨0,none,0,.nil,[],σ1,rfl,F1,Lib.hid fun d r h=> ⟨r,h,Nat.le_refl _,by simp [toksB,W_nil]⟩,Lib.hid fun _=> ⟨trivial,by simp [Sts.len]⟩⟩
 case round=>
  clear F1
  obtain ⟨k,A,c,a,xs,σr,rfl,F,E,N⟩:=hrel
  have HM:=Lib.hid F.out.s.lenE
  go_upto_region 3 with fail
  go_cut [27] (fun v wx=> v= .bool (goS σr)∧Hid (Fr g [g] w wx σr (fun V=> ArS (σr≠none) V w.heap.size A k c a.list xs)))
  case first=>
   rcases F.out.s.v3 with ⟨QA,n,qc,d,e,qa,qb,x,p,q,r,⟨hbox,hn,hc1,hc2⟩,hno⟩ | ⟨d,t,l,QA,n,qc,L,i,qa,qb,x,p,q,r,rfl,hr,hi,ht⟩
   ·have HB:=Lib.hid hbox
    have F8:=F.out.next (Below.refl _ _).drew
    have hl:goS σr=false:=by
     rcases hno with ⟨rfl,_⟩ | ⟨d,rfl,_⟩ <;> rfl
    have HL:=Lib.hid hl
    clear hbox hl
    rcases hno with ⟨_,he⟩ | ⟨_,_,rfl⟩
    ·refine wp_region_sched [(0,true),(1,true),(2,true),(3,true),(4,true),(5,true),(6,true),(7,true),(8,true),(9,true),(10,true),(11,true),(12,true),(13,true),(14,true),(15,true),(16,true),(17,true),(18,true),(19,false),(20,true),(21,true)] (by kernel_rfl) (by kernel_rfl) (fun _ _ d _ _ h=> by cases d <;> exact h) ?_
     refine swith (fun W hW=> (cells10 (box_next HB.out ((Below.refl _ _).drew.trans hW.out)))) (fun qx=> ?_)
     repeat (first | (refine srE ?_;simp only [Act.put,sA,sB,sC]) | (refine skE ?_;simp only [Act.put,sA,sB,sC]))
     refine sdone ?_
     go_wp2_with fail
     go_meet
     exact ⟨by rw [HL.out],F8⟩
    ·refine wp_region_sched [(0,true),(1,true),(2,true),(3,true),(4,true),(5,true),(6,true),(7,true),(8,true),(9,true),(10,true),(11,true),(12,true),(13,true),(14,true),(15,true),(16,true),(17,true),(18,true),(19,false),(20,true),(21,true)] (by kernel_rfl) (by kernel_rfl) (fun _ _ d _ _ h=> by cases d <;> exact h) ?_
     refine swith (fun W hW=> (cells10 (box_next HB.out ((Below.refl _ _).drew.trans hW.out)))) (fun qx=> ?_)
     repeat (first | (refine srE ?_;simp only [Act.put,sA,sB,sC]) | (refine skE ?_;simp only [Act.put,sA,sB,sC]))
     refine sdone ?_
     go_wp2_with fail
     go_meet
     exact ⟨by rw [HL.out],F8⟩
   ·have HB:=Lib.hid hr.box
    have hcap:=hr.row.cap
    have hn:=hr.len
    have hin:i < n:=by have:=hr.row.len;omega
    have hii:(i:Int) < (n:Int):=by omega
    have HT:=Lib.hid (fun W (b:Below wr.heap.size wr W)=> f_text g _ W (F.out.s.next b))
    clear hr ht hi L
    refine wp_region_sched [(0,true),(1,true),(2,true),(3,true),(4,true),(5,true),(6,true),(7,true),(8,true),(9,true),(10,true),(11,true),(12,true),(13,true),(14,true),(15,true),(16,true),(17,true),(18,true),(19,false),(20,true),(21,true)] (by kernel_rfl) (by kernel_rfl) (fun _ _ d _ _ h=> by cases d <;> exact h) ?_
    refine swith (fun W hW=> (cells10 (box_next HB.out ((Below.refl _ _).drew.trans hW.out)))) (fun qx=> ?_)
    repeat (first | (refine srE ?_;simp only [Act.put,sA,sB,sC]) | (refine skE ?_;simp only [Act.put,sA,sB,sC]))
    refine scall rfl rfl (fun K hK=> ?_)
    go_simp
    refine (HT.out _ (Below.refl _ _).drew).mono ?_;rintro e w6 ⟨rfl,b6⟩
    go_wp2_with fail
    refine hK.out _ _ (by exact b6) ?_
    clear hK K
    try simp only [Act.put,sA,sB,sC]
    replace qx:=fun (W:World) (hW:Grow w6 W)=> qx W (Grow.trans (b6) hW)
    repeat (first | (refine srE ?_;simp only [Act.put,sA,sB,sC]) | (refine skE ?_;simp only [Act.put,sA,sB,sC]))
    refine sdone ?_
    go_wp2_with fail
    go_meet
    exact ⟨rfl,F.out.next (bthen (Below.refl _ _).drew b6)⟩
  case rest=>
   clear F
   obtain ⟨rfl,F⟩:=hcut
   obtain ⟨w2,hw⟩: ∃W,wc=W:=⟨_,rfl⟩
   rw [hw]at F
   rw [hw]
   clear hw
   cases hgo:goS σr with
   | false=>
    go_wp2_with fail
    refine (Fr.shut F [125] (by simp) (fun d r e=> by obtain ⟨l,h1,_⟩:=E.out d r e;obtain ⟨d1,_,_,h2,_⟩:=E1.out _ _ h1;omega)).mono ?_;rintro e w3 ⟨rfl,F3⟩
    go_wp2_with fail
    go_ret
    have hG:shutS σr [125]≠none→σr≠none:=fun h e=> h (by rw [e];rfl)
    obtain rfl:=F3.out.p.len
    refine ⟨A,_,c,a,_,rfl,F3.out.s,F3.out.m,fun d r e=> ?_,fun h=> N.out (hG h),fun h=> ?_⟩
    ·obtain ⟨d1,t1,e1,e2,e3⟩:=shutS_inv (by simp) e
     obtain ⟨l,h1,h2,h3⟩:=E.out _ _ e1
     obtain ⟨d2,t2,h4,h5,h6⟩:=E1.out _ _ h1
     simp at e3 h2
     refine ⟨_,by rw [h4,show d2=d by omega],by simp;omega,by omega⟩
    ·obtain ⟨S,h1,h2⟩:=F3.out.p.tr (hG h)
     refine ⟨(Sts.list_len a).symm,fun b=> S b∨(Value.slice A a.list.length c).ownBlock=some b,⟨xs,by rw [← Sts.list_len];exact Row.of_own F3.out.p.own (fun _ h=> .inr h),(StsR_reps _ _).2 (h1.imp fun y us hy=> StR.mono (fun _ h=> .inl h) y us hy)⟩,fun b hb=> hb.elim (fun hb=> ⟨(h2 b hb).1,(h2 b hb).2.1⟩) (fun hb=> F3.out.p.own.lt b hb)⟩
   | true=>
    have hr:σr≠none:=fun e=> by rw [e]at hgo;cases hgo
    have hk24:k≤24:=by
     have h1:=F.out.p.len
     have h2:=(N.out hr).2
     rw [Sts.list_len]at h1
     omega
    have hls:0 < lenE wr g:=by
     rw [HM.out]
     cases σr with
     | none=> exact absurd rfl hr
     | some y=> simp [lenG]
    have hf8:lenS σr < f∧0 < f:=by
     cases σr with
     | none=> exact absurd rfl hr
     | some y=>
      obtain ⟨l,h1,h2,_⟩:=E.out y.1 y.2 rfl
      obtain ⟨d1,t1,h3,_⟩:=E1.out _ _ h1
      rw [h3]at hm
      simp [lenS]at hm⊢
      omega
    clear hgo
    go_upto_if 30 with fail
    go_cut [] (fun wx=> ∃σ8,Hid (Fr g [g] w wx σ8 (fun V=> ArS (σr≠none) V w.heap.size A k c a.list xs))∧Hid (σ8≠none→σ8=σr∧k < 24))
    case first=>
     by_cases hk:k=24
     ·rw [show ((k:Int)==24)=true by simp;omega]
      clear hk
      go_wp2_with fail
      refine (Fr.fail F 2 (by decide)).mono ?_;rintro e w3 ⟨rfl,F3⟩
      go_wp2_with fail
      go_meet
      exact ⟨none,F3,Lib.hid fun h=> absurd rfl h⟩
     ·rw [show ((k:Int)==24)=false by simp;omega]
      go_wp2_with fail
      go_meet
      exact ⟨σr,F,Lib.hid fun _=> ⟨rfl,by omega⟩⟩
    case rest=>
     clear F
     obtain ⟨σ8,F8,S8⟩:=hcut
     have hf:lenS σ8 < f:=by
      by_cases h:σ8=none
      ·rw [h];exact hf8.2
      ·rw [(S8.out h).1];exact hf8.1
     go_wp2_with fail
     refine (HS.out σ8 _ g F8.out.s hf).mono ?_;rintro e w9 ⟨sk,nm,tt,cc,n,sA,m,sc,B,mb,d,E',me,ff,p,q,z,s,σ9,rfl,h9,m9,E9,N9,T9⟩
     have Fa:=(F8.out.mod m9 h9).out.next (one_new (o:=smA sk nm tt cc n (.slice sA m sc) (.slice B mb d) (.slice E' me ff) p q z))
     have hown:=fun b h=> (F8.out.p.own.lt b h).2
     have hd9:=m9.size
     have hz8:=F8.out.m.size
     have h89:σ9≠none→σ8=σr∧k < 24:=fun h=> S8.out (E9.some h)
     have HE:=Lib.hid E9
     have HN:=Lib.hid N9
     have HT:=Lib.hid T9
     have H89:=Lib.hid h89
     clear h9 m9 F8 E9 N9 T9 h89
     go_wp2_with (at_builtin;refine wpList_app rfl (.tmp 33) (.tmp 36) smE rfl w.heap.size xs rfl Fa.out.p.own rfl (smL sk nm tt cc n (.slice sA m sc) (.slice B mb d) (.slice E' me ff) p q z) (Rd.made _ (smL sk nm tt cc n (.slice sA m sc) (.slice B mb d) (.slice E' me ff) p q z) rfl rfl) (by simp [Value.oneCell']) (by unfold maxLen;omega) (by omega) (by simp;omega) ?_;intro A7 c7 w7 o7 g7 h7)
     have FF:=Fa.out.row2 (y:=s) (G':=σ9≠none) (lo1:=_) stx_keep stx_mono hlt (Nat.le_refl _) (fun h=> by rw [← (H89.out h).1];exact HE.out.some h) (by simp;omega) hz8 hown (fun h=> (HT.out h).imp fun S h=> ⟨StR.keep (fun b hb=> Below.heap_alloc _ _ _ (h.2 b hb).2) _ _ h.1,h.2.next (by simp)⟩) o7 g7 h7
     have HEr:Hid (Eat σr σ9 (Y.W 1 (toksS s))):=Lib.hid fun d r h=> by
      rw [← (H89.out (by rw [h];simp)).1]
      exact HE.out d r h
     clear o7 g7 h7 Fa
     go_roundw
     case rel=>
      refine ⟨k+1,A7,c7,a.snoc s,_,σ9,rfl,by rw [Sts.list_snoc];exact FF,Lib.hid (E.out.trans HEr.out (by rw [toksB_snoc,W_app];omega)),Lib.hid fun h=> ?_⟩
      have h1:=N.out (HEr.out.some h)
      have h2:=FF.out.p.len
      have h3:=(H89.out h).2
      rw [← Sts.list_snoc,Sts.list_len]at h2
      exact ⟨okB_snoc _ _ h1.1 (HN.out h),by omega⟩
     case measure=>
      have h1:=HM.out
      have h2:=FF.out.s.lenE
      have h3:=HEr.out.less (by omega)
      omega
theorem rblock_all: ∀f,BlockC f∧StmtC f
 | 0=> ⟨fun _ _ _ _ h=> absurd h (Nat.not_lt_zero _),fun _ _ _ _ h=> absurd h (Nat.not_lt_zero _)⟩
 | f+1=> ⟨f_block f (rblock_all f).2,f_stmt f (rblock_all f).1⟩
end Go.Proofs.YtnbmpfdffoidaaaGreatDoor.Y
namespace Go.Proofs.YtnbmpfdffoidaaaGreatDoor.Y
open Go.RowKit O V S X
def BareR (l:List Ex):Prop:=l.length≤8→∀(A:Option Addr) (c:Nat) (S:Nat→Prop) (w:World),RX w S A c l→(∀b,S b→b < w.heap.size)→
 Calls Tryz.prog 70 #[.slice A l.length c] w fun e w'=> (∃A' c' S',e= .returned (.slice A' l.length c')∧RX w' S' A' c' l∧In w.heap.size w' S')∧Below w.heap.size w w'
theorem ExR.of_row {w:World}{S:Nat→Prop}{x:Ex}{A:Option Addr}{c:Nat}{p q r:Int}(h:RX w S A c (parts x)):ExR w S x (exC x (.slice A (parts x).length c) p q r):=by
 obtain ⟨es,h1,h2⟩:=h
 exact (ExR_eq _ _).2 ⟨A,c,es,p,q,r,rfl,h1,h2⟩
theorem bare_step (l:List Ex)(ih: ∀x ∈ l,BareR (parts x)):BareR l:=by
 intro hl8 A c S w h hS
 have HIH:=Lib.hid ih
 obtain ⟨n,hn⟩: ∃n,l.length=n:=⟨_,rfl⟩
 have HN:=Lib.hid hn
 have H:=Lib.hid h
 have HS:=Lib.hid hS
 rw [hn]at hl8
 rw [hn]
 clear ih hn h hS
 go_enter Tryz.func70,Tryz.ntmps70
 go_wp2_with fail
 go_loopw [2,7] (fun o i wr=> ∃(k:Nat) (A:Option Addr) (c:Nat) (xs:List Value),o= .slice A k c∧i= .int .i64 k∧k≤n∧Hid (Below w.heap.size w wr)∧Hid (ArX True wr w.heap.size A k c (l.take k) xs)) (fun _ i _=> n - (intOf i).toNat)
 case atStart=> exact ⟨0,none,0,[],rfl,rfl,by omega,Lib.hid (Below.refl _ _),Lib.hid (by simpa using Ar.nil_ _ _)⟩
 case round=>
  obtain ⟨k,B,d,xs,rfl,rfl,hk,HB,HA⟩:=hrel
  have hz:=HB.out.size
  by_cases hlt:k < n
  ·have hlt':k < l.length:=by rw [HN.out];exact hlt
   have hki:(k:Int) < (n:Int):=by omega
   obtain ⟨b1,off1,A1,c1,p1,q1,r1,rfl,hb1,hc1,g1⟩:=(H.out.keep (w':=wr) fun b hB=> HB.out.block b (HS.out b hB)).at_ HS.out hlt'
   have hih:=Lib.hid (HIH.out _ (List.getElem_mem hlt'))
   have HT:=Lib.hid (show l.take (k+1)=l.take k ++ [l[k]] by simp)
   have hbw1:b1 < wr.heap.size:=by omega
   generalize l[k]=x at *
   have G1:=Lib.hid g1
   have x0:wr.cell? ⟨b1,off1+k * 11,none⟩=some (nv (hdK x)):=hc1 0 (by omega)
   have x1:wr.cell? ⟨b1,off1+k * 11+1,none⟩=some (nv (hdV x).k):=hc1 1 (by omega)
   have x2:wr.cell? ⟨b1,off1+k * 11+2,none⟩=some (nv (hdV x).n):=hc1 2 (by omega)
   have x3:wr.cell? ⟨b1,off1+k * 11+3,none⟩=some (sv (hdV x).s):=hc1 3 (by omega)
   have x4:wr.cell? ⟨b1,off1+k * 11+4,none⟩=some (sv (hdN x)):=hc1 4 (by omega)
   have x5:wr.cell? ⟨b1,off1+k * 11+5,none⟩=some (sv (hdC x)):=hc1 5 (by omega)
   have x6:wr.cell? ⟨b1,off1+k * 11+6,none⟩=some (nv (hdO x:Nat)):=hc1 6 (by omega)
   have x7:wr.cell? ⟨b1,off1+k * 11+7,none⟩=some (.slice A1 (parts x).length c1):=hc1 7 (by omega)
   have x8:wr.cell? ⟨b1,off1+k * 11+8,none⟩=some (nv p1):=hc1 8 (by omega)
   have x9:wr.cell? ⟨b1,off1+k * 11+9,none⟩=some (nv q1):=hc1 9 (by omega)
   have x10:wr.cell? ⟨b1,off1+k * 11+10,none⟩=some (nv r1):=hc1 10 (by omega)
   clear hc1 g1
   go_wp2_with fail
   clear x0 x1 x2 x3 x4 x5 x6 x7 x8 x9 x10
   obtain ⟨w3,hw⟩: ∃W,wr.alloc (exO (hdK x) (hdV x).k (hdV x).n (hdV x).s (hdN x) (hdC x) (hdO x:Nat) (.slice A1 (parts x).length c1) p1 q1 r1)=W:=⟨_,rfl⟩
   have K3:Below wr.heap.size wr w3:=by rw [← hw];exact one_new
   have X3:w3.heap[wr.heap.size]? =some (exB (hdK x) (hdV x).k (hdV x).n (hdV x).s (hdN x) (hdC x) (hdO x:Nat) (.slice A1 (parts x).length c1) p1 q1 r1):=by rw [← hw];exact alloc_at rfl
   rw [hw]
   clear hw
   have hz3:wr.heap.size < w3.heap.size:=(Array.getElem?_eq_some_iff.1 X3).1
   refine (hih.out (by have:=parts_len x;omega) A1 c1 S w3 (G1.out.keep fun b hb=> K3.block b (by have:=HS.out b hb;omega)) (fun b hb=> by have:=HS.out b hb;omega)).mono ?_
   rintro e w4 ⟨⟨A2,c2,S2,rfl,g2,i2⟩,b4⟩
   have X4:=Lib.hid (box_next X3 b4)
   have B4:=Lib.hid (bthen HB.out (bthen K3 b4))
   have K4:Hid (Mod [] wr w4):=Lib.hid (.of_below (bthen K3 b4))
   have hz4:=b4.size
   have G2:=Lib.hid g2
   have I2:=Lib.hid i2
   clear b4 K3 X3 g2 i2 HB
   obtain ⟨⟨⟨⟨z0,z1⟩,z2,z3⟩,⟨z4,z5⟩,z6,z7⟩,⟨z8,z9⟩,z10⟩:=cells11 X4.out
   obtain ⟨⟨⟨⟨v0,v1⟩,v2,v3⟩,⟨v4,v5⟩,v6,v7⟩,⟨v8,v9⟩,v10⟩:=frozen11 X4.out
   go_upto_region 5 with fail
   clear z0 z1 z2 z3 z4 z5 z6 z7 z8 z9 z10 v0 v1 v2 v3 v4 v5 v6 v7 v8 v9 v10
   have X5:Hid (_=some (exB (hdK x) (hdV x).k (hdV x).n (hdV x).s (hdN x) (hdC x) (hdO x:Nat) (.slice A2 (parts x).length c2) 0 0 0)):=Lib.hid (heap_set' (heap_set' (heap_set' (heap_set' X4.out (nv 0) 8 rfl) (nv 0) 9 rfl) (nv 0) 10 rfl) (.slice A2 (parts x).length c2) 7 rfl)
   have M5:Hid (Mod [wr.heap.size] w4 _):=Lib.hid (((((Mod.refl _ _).set (b:=wr.heap.size) (i:=8) (.inl (by simp)) (nv 0)).set (b:=wr.heap.size) (i:=9) (.inl (by simp)) (nv 0)).set (b:=wr.heap.size) (i:=10) (.inl (by simp)) (nv 0)).set (b:=wr.heap.size) (i:=7) (.inl (by simp)) (.slice A2 (parts x).length c2))
   obtain ⟨w5,hw⟩: ∃W,(((w4.setCell ⟨wr.heap.size,8,none⟩ (nv 0)).setCell ⟨wr.heap.size,9,none⟩ (nv 0)).setCell ⟨wr.heap.size,10,none⟩ (nv 0)).setCell ⟨wr.heap.size,7,none⟩ (.slice A2 (parts x).length c2)=W:=⟨_,rfl⟩
   rw [hw]at X5 M5
   first | rw [hw] | (simp only [nv,sv]at hw;rw [hw])
   clear hw X4
   obtain ⟨⟨⟨⟨z0,z1⟩,z2,z3⟩,⟨z4,z5⟩,z6,z7⟩,⟨z8,z9⟩,z10⟩:=cells11 X5.out
   have hz5:=M5.out.size
   have ha:(List.take k l).length=k:=by rw [List.length_take];omega
   have Ka:Hid (Mod [] wr (w5.alloc (exO (hdK x) (hdV x).k (hdV x).n (hdV x).s (hdN x) (hdC x) (hdO x:Nat) (.slice A2 (parts x).length c2) 0 0 0))):=Lib.hid ((K4.out.trans M5.out (fun j hj=> .inr (by simp at hj;omega))).alloc _)
   have Aa:=Lib.hid (HA.out.mod ex_keep Ka.out (fun _ h=> by cases h))
   go_wp2_with (at_builtin;refine wpList_app rfl (.tmp 17) (.tmp 19) exE rfl w.heap.size xs rfl Aa.out.own rfl (exL (hdK x) (hdV x).k (hdV x).n (hdV x).s (hdN x) (hdC x) (hdO x:Nat) A2 (parts x).length c2 0 0 0) (Rd.made _ (exL (hdK x) (hdV x).k (hdV x).n (hdV x).s (hdN x) (hdC x) (hdO x:Nat) A2 (parts x).length c2 0 0 0) rfl rfl) (by simp [Value.oneCell']) (by unfold maxLen;omega) (by omega) (by simp;omega) ?_;intro A7 c7 w7 o7 g7 h7)
   have hown:=fun b h=> (HA.out.own.lt b h).2
   have AF:Hid (ArX True w7 w.heap.size A7 (k+1) c7 (l.take (k+1)) _):=Lib.hid (by
    rw [HT.out]
    exact Aa.out.put (G':=True) (y:=x) (bs:=[]) (lo1:=wr.heap.size) ex_keep ex_mono id (by omega) hown (fun _=> ⟨S2,ExR.keep (fun b hb=> (Below.heap_alloc _ _ _ (by have:=(I2.out b hb).2;omega)).trans (M5.out.block b (I2.out b hb).2 (by have:=(I2.out b hb).1;simp;omega))) _ _ (ExR.of_row (p:=0) (q:=0) (r:=0) G2.out),fun b hb=> ⟨by have:=(I2.out b hb).1;omega,by have:=(I2.out b hb).2;simp;omega⟩⟩) g7 h7 o7 (Mod.refl _ _) (fun _ h=> by cases h))
   have BF:Hid (Below w.heap.size w w7):=Lib.hid (below_app (B4.out.trans ((M5.out.below (B:=w.heap.size) (by omega) (by simp;omega)).alloc (by omega) _)) Aa.out.own g7 (by simp;omega))
   clear z0 z1 z2 z3 z4 z5 z6 z7 z8 z9 z10 o7 g7 h7 hown
   go_wp2_with fail
   go_roundw
   case rel=> exact ⟨k+1,A7,c7,_,rfl,by go_num,by omega,BF,AF⟩
   case measure=> simp [intOf];omega
  ·obtain rfl:k=n:=by omega
   go_wp2_with fail
   go_ret
   have hh:=HA.out.hasX
   rw [List.take_of_length_le (by rw [HN.out];exact Nat.le_refl _)]at hh
   obtain ⟨h1,S',h2,h3⟩:=hh trivial
   exact ⟨⟨B,d,S',rfl,h2,h3⟩,HB.out⟩
theorem bare_parts: ∀x:Ex,BareR (parts x):=Ex.ind fun _ ih=> bare_step _ ih
theorem bare_any (l:List Ex):BareR l:=bare_step l fun x _=> bare_parts x
end Go.Proofs.YtnbmpfdffoidaaaGreatDoor.Y
namespace Go.Proofs.YtnbmpfdffoidaaaGreatDoor.Y
open Go.RowKit O V S X
def StZ (w:World)(S:Nat→Prop)(s:St)(vs:List Value):Prop:=StR w S s vs∧vs.drop 8=[nv 0,nv 0,nv 0]
theorem stz_keep (w w':World)(S:Nat→Prop)(a:St)(vs:List Value)(h: ∀b,S b→w'.heap[b]? =w.heap[b]?)(k:StZ w S a vs):StZ w' S a vs:=⟨StR.keep h a vs k.1,k.2⟩
theorem stz_mono (w:World)(S S':Nat→Prop)(a:St)(vs:List Value)(h: ∀b,S b→S' b)(k:StZ w S a vs):StZ w S' a vs:=⟨StR.mono h a vs k.1,k.2⟩
def BZ (w:World)(S:Nat→Prop)(A:Option Addr)(c:Nat)(b:Sts):Prop:= ∃es,Row w S 11 A b.len c es∧Reps (StZ w S) b.list es
theorem BZ.rs {w:World}{S:Nat→Prop}{A:Option Addr}{c:Nat}{b:Sts}(h:BZ w S A c b):RS w S A c b:=by
 obtain ⟨es,h1,h2⟩:=h
 exact ⟨es,h1,(StsR_reps _ _).2 (h2.imp fun _ _ h=> h.1)⟩
theorem BZ.keep {w w':World}{S:Nat→Prop}{A:Option Addr}{c:Nat}{b:Sts}(h:BZ w S A c b)(hk: ∀b,S b→w'.heap[b]? =w.heap[b]?):BZ w' S A c b:=by
 obtain ⟨es,h1,h2⟩:=h
 exact ⟨es,h1.keep hk,h2.imp fun y us=> stz_keep _ _ _ y us hk⟩
theorem BZ.mono {w:World}{S S':Nat→Prop}{A:Option Addr}{c:Nat}{b:Sts}(h:BZ w S A c b)(hk: ∀b,S b→S' b):BZ w S' A c b:=by
 obtain ⟨es,h1,h2⟩:=h
 exact ⟨es,h1.mono hk,h2.imp fun y us=> stz_mono _ _ _ y us hk⟩
def BareB (l:Sts):Prop:=okB l→l.len≤24→∀(A:Option Addr) (c:Nat) (S:Nat→Prop) (w:World),RS w S A c l→(∀b,S b→b < w.heap.size)→
 Calls Tryz.prog 33 #[.slice A l.len c] w fun e w'=> (∃A' c' S',e= .returned (.slice A' l.len c')∧BZ w' S' A' c' l∧In w.heap.size w' S')∧Below w.heap.size w w'
theorem okB_in: ∀{b:Sts},okB b→∀x ∈ b.list,okS x
 | .nil,_,_,h=> nomatch h
 | .cons s r,hb,x,h=> (List.mem_cons.1 h).elim (fun e=> by rw [e];exact hb.1) (okB_in hb.2 x)
theorem okS_sub {s:St}(h:okS s):(okB (stB s)∧(stB s).len≤24)∧okB (stE s)∧(stE s).len≤24:=by
 cases s with
 | if_ e b els=> exact ⟨h.2.1,h.2.2⟩
 | loop n nm b=> exact ⟨h.2.2,trivial,Nat.zero_le _⟩
 | each n t lo hi k b=> exact ⟨h.2.2.2,trivial,Nat.zero_le _⟩
 | _=> exact ⟨⟨trivial,Nat.zero_le _⟩,trivial,Nat.zero_le _⟩
section
variable {W:World} {b f:Nat} {cs:Array Value} {T:TypeId} {o:Oper} {a:Act} {sq sy:Operand} {A:Option Addr} {n c:Nat}
theorem run_stE (h:W.heap[b]? =some (.cells cs T (0,0)))(ho:o.op= .store 42 sq sy)(e3:a.eval sq= .pointer (some ⟨b,f,none⟩))(e4:a.eval sy= .slice A n c)(hf:f < cs.size):(execOp a.eval o).run Tryz.prog W= .ok .skip (W.setCell ⟨b,f,none⟩ (.slice A n c)):=by
 have x7:W.cell? ⟨b,f,none⟩=some cs[f]:=by rw [Lib.cell_of_heap h];simp [hf]
 have f7:W.frozen? ⟨b,f,none⟩=false:=Lib.frozen_of_heap h f
 unfold execOp
 simp only [ho,e3,e4]
 go_simp
theorem run_stS (h:W.heap[b]? =some (.cells cs T (0,0)))(ho:o.op= .store 39 sq sy)(e3:a.eval sq= .pointer (some ⟨b,f,none⟩))(e4:a.eval sy= .slice A n c)(hf:f < cs.size):(execOp a.eval o).run Tryz.prog W= .ok .skip (W.setCell ⟨b,f,none⟩ (.slice A n c)):=by
 have x7:W.cell? ⟨b,f,none⟩=some cs[f]:=by rw [Lib.cell_of_heap h];simp [hf]
 have f7:W.frozen? ⟨b,f,none⟩=false:=Lib.frozen_of_heap h f
 unfold execOp
 simp only [ho,e3,e4]
 go_simp
theorem run_stC (h:W.heap[b]? =some (.cells cs T (0,0)))(ho:o.op= .store 38 sq sy)(e3:a.eval sq= .pointer (some ⟨b,f,none⟩))(e4:a.eval sy= .slice A n c)(hf:f < cs.size):(execOp a.eval o).run Tryz.prog W= .ok .skip (W.setCell ⟨b,f,none⟩ (.slice A n c)):=by
 have x7:W.cell? ⟨b,f,none⟩=some cs[f]:=by rw [Lib.cell_of_heap h];simp [hf]
 have f7:W.frozen? ⟨b,f,none⟩=false:=Lib.frozen_of_heap h f
 unfold execOp
 simp only [ho,e3,e4]
 go_simp
theorem run_stP {f1 f2:Nat}(h:W.heap[b]? =some (.cells cs T (0,0)))(ho:o.op= .store 28 sq sy)(e3:a.eval sq= .pointer (some ⟨b,f,none⟩))(e4:a.eval sy= .agg #[nv 0,nv 0,nv 0])(e1:f1=f+1)(e2:f2=f+2)(hf:f+2 < cs.size):(execOp a.eval o).run Tryz.prog W= .ok .skip (((W.setCell ⟨b,f,none⟩ (nv 0)).setCell ⟨b,f1,none⟩ (nv 0)).setCell ⟨b,f2,none⟩ (nv 0)):=by
 subst e1 e2
 have x0:W.cell? ⟨b,f,none⟩=some cs[f]:=by rw [Lib.cell_of_heap h];simp [show f < cs.size by omega]
 have f0:W.frozen? ⟨b,f,none⟩=false:=Lib.frozen_of_heap h f
 have x1:W.cell? ⟨b,f+1,none⟩=some cs[f+1]:=by rw [Lib.cell_of_heap h];simp [show f+1 < cs.size by omega]
 have f1:W.frozen? ⟨b,f+1,none⟩=false:=Lib.frozen_of_heap h (f+1)
 have x2:W.cell? ⟨b,f+2,none⟩=some cs[f+2]:=by rw [Lib.cell_of_heap h];simp [hf]
 have f2:W.frozen? ⟨b,f+2,none⟩=false:=Lib.frozen_of_heap h (f+2)
 unfold execOp
 simp only [ho,e3,e4]
 go_simp
end
theorem bareB_step (l:Sts)(ih: ∀x ∈ l.list,BareB (stB x)∧BareB (stE x)):BareB l:=by
 intro hok hl24 A c S w h hS
 have hokl: ∀x ∈ l.list,okS x:=okB_in hok
 have HOK:=Lib.hid hokl
 have HIH:=Lib.hid ih
 obtain ⟨n,hn⟩: ∃n,l.len=n:=⟨_,rfl⟩
 have HN:Hid (l.list.length=n):=Lib.hid (by rw [Sts.list_len];exact hn)
 have H:=Lib.hid h
 have HS:=Lib.hid hS
 rw [hn]at hl24
 rw [hn]
 have HN2:=Lib.hid hn
 clear ih hn h hS hok hokl
 go_enter Tryz.func33,Tryz.ntmps33
 go_wp2_with fail
 go_loopw [2,7] (fun o i wr=> ∃(k:Nat) (A:Option Addr) (c:Nat) (xs:List Value),o= .slice A k c∧i= .int .i64 k∧k≤n∧Hid (Below w.heap.size w wr)∧Hid (Ar StZ 44 11 True wr w.heap.size A k c (l.list.take k) xs)) (fun _ i _=> n - (intOf i).toNat)
 case atStart=> exact ⟨0,none,0,[],rfl,rfl,by omega,Lib.hid (Below.refl _ _),Lib.hid (by simpa using Ar.nil_ _ _)⟩
 case round=>
  obtain ⟨k,B,d,xs,rfl,rfl,hk,HB,HA⟩:=hrel
  have hz:=HB.out.size
  by_cases hlt:k < n
  ·have hlt':k < l.list.length:=by rw [HN.out];exact hlt
   have hki:(k:Int) < (n:Int):=by omega
   obtain ⟨b1,off1,A1,c1,B1,d1,E1,f1,p1,q1,r1,⟨rfl,hb1⟩,hc1,g1,g2,g3⟩:=(H.out.keep (w':=wr) fun b hB=> HB.out.block b (HS.out b hB)).at_ HS.out hlt'
   have hih:=Lib.hid (HIH.out _ (List.getElem_mem hlt'))
   have hx:=Lib.hid (okS_sub (HOK.out _ (List.getElem_mem hlt')))
   have HT:=Lib.hid (show l.list.take (k+1)=l.list.take k ++ [l.list[k]] by simp)
   have hbw1:b1 < wr.heap.size:=by omega
   generalize l.list[k]=x at *
   have G1:=Lib.hid g1
   have G2:=Lib.hid g2
   have G3:=Lib.hid g3
   have x0:wr.cell? ⟨b1,off1+k * 11,none⟩=some (nv (stK x)):=hc1 0 (by omega)
   have x1:wr.cell? ⟨b1,off1+k * 11+1,none⟩=some (sv (stN x)):=hc1 1 (by omega)
   have x2:wr.cell? ⟨b1,off1+k * 11+2,none⟩=some (sv (stT x)):=hc1 2 (by omega)
   have x3:wr.cell? ⟨b1,off1+k * 11+3,none⟩=some (sv (stC x)):=hc1 3 (by omega)
   have x4:wr.cell? ⟨b1,off1+k * 11+4,none⟩=some (nv (stI x)):=hc1 4 (by omega)
   have x5:wr.cell? ⟨b1,off1+k * 11+5,none⟩=some (.slice A1 (stA x).length c1):=hc1 5 (by omega)
   have x6:wr.cell? ⟨b1,off1+k * 11+6,none⟩=some (.slice B1 (stB x).len d1):=hc1 6 (by omega)
   have x7:wr.cell? ⟨b1,off1+k * 11+7,none⟩=some (.slice E1 (stE x).len f1):=hc1 7 (by omega)
   have x8:wr.cell? ⟨b1,off1+k * 11+8,none⟩=some (nv p1):=hc1 8 (by omega)
   have x9:wr.cell? ⟨b1,off1+k * 11+9,none⟩=some (nv q1):=hc1 9 (by omega)
   have x10:wr.cell? ⟨b1,off1+k * 11+10,none⟩=some (nv r1):=hc1 10 (by omega)
   clear hc1 g1 g2 g3
   go_upto_region 4 with fail
   clear x0 x1 x2 x3 x4 x5 x6 x7 x8 x9 x10
   obtain ⟨wd,hw⟩: ∃W,(wr.alloc (smA (stK x) (stN x) (stT x) (stC x) (stI x) (.slice A1 (stA x).length c1) (.slice B1 (stB x).len d1) (.slice E1 (stE x).len f1) p1 q1 r1)).drew=W:=⟨_,rfl⟩
   have K3:Below wr.heap.size wr wd:=by rw [← hw];exact one_new.drew
   have X3:Hid (wd.heap[wr.heap.size]? =some (smX (stK x) (stN x) (stT x) (stC x) (stI x) (.slice A1 (stA x).length c1) (.slice B1 (stB x).len d1) (.slice E1 (stE x).len f1) p1 q1 r1)):=Lib.hid (by rw [← hw];exact alloc_at rfl)
   refine wp_region_Z [11,13,15,17] [wr.heap.size] (.read 0 (.read 1 (.read 2 (.read 4 (.read 5 (.read 7 (.read 8 (.read 10 (.call 3 (.call 6 (.call 9 (.store 11 (.pure 12 (.store 13 (.pure 14 (.store 15 (.pure 16 (.store 17 .done)))))))))))))))))) (by kernel_rfl) (by kernel_rfl) (fun _ _ d _ _ h=> by cases d <;> exact h) ?_
   first | rw [hw] | (simp only [nv,sv]at hw;rw [hw])
   clear hw
   refine zwith (fun W hW=> cells11 ((hW wr.heap.size (by simp)).trans X3.out)) (fun qx=> ?_)
   repeat (refine zrE ?_;simp only [Act.put,sA,sB,sC])
   clear qx
   have hz3:wr.heap.size < wd.heap.size:=(Array.getElem?_eq_some_iff.1 X3.out).1
   have HK3:=Lib.hid K3
   clear K3
   refine zcall rfl rfl (fun K hK=> ?_)
   go_simp
   refine (bare_any _ (by have:=stA_len x;omega) A1 c1 S wd (G1.out.keep fun b hb=> HK3.out.block b (by have:=HS.out b hb;omega)) (fun b hb=> by have:=HS.out b hb;omega)).mono ?_;rintro e w4 ⟨⟨A4,c4,S4,rfl,r4,i4⟩,b4⟩
   go_wp2_with fail
   refine hK.out _ _ (fun b' hb=> by simp at hb;rw [hb];exact b4.block _ hz3) ?_
   clear hK K
   try simp only [Act.put,sA,sB,sC]
   have hz4:=b4.size
   have H4:=Lib.hid (And.intro r4 i4)
   have K4:=Lib.hid (bthen HK3.out b4)
   replace X3:=Lib.hid (box_next X3.out b4)
   clear r4 i4 b4
   refine zcall rfl rfl (fun K hK=> ?_)
   go_simp
   refine (hih.out.1 hx.out.1.1 hx.out.1.2 B1 d1 S w4 (G2.out.keep fun b hb=> K4.out.block b (by have:=HS.out b hb;omega)) (fun b hb=> by have:=HS.out b hb;omega)).mono ?_;rintro e w5 ⟨⟨B4,d4,S5,rfl,r5,i5⟩,b5⟩
   go_wp2_with fail
   refine hK.out _ _ (fun b' hb=> by simp at hb;rw [hb];exact b5.block _ (by omega)) ?_
   clear hK K
   try simp only [Act.put,sA,sB,sC]
   have hz5:=b5.size
   have H5:=Lib.hid (And.intro r5 i5)
   replace H4:=Lib.hid (And.intro (H4.out.1.keep fun b hb=> b5.block b (H4.out.2 b hb).2) (H4.out.2.next b5.size))
   have K5:=Lib.hid (bthen K4.out b5)
   replace X3:=Lib.hid (box_next X3.out b5)
   clear r5 i5 b5 K4
   refine zcall rfl rfl (fun K hK=> ?_)
   go_simp
   refine (hih.out.2 hx.out.2.1 hx.out.2.2 E1 f1 S w5 (G3.out.keep fun b hb=> K5.out.block b (by have:=HS.out b hb;omega)) (fun b hb=> by have:=HS.out b hb;omega)).mono ?_;rintro e w6 ⟨⟨E4,f4,S6,rfl,r6,i6⟩,b6⟩
   go_wp2_with fail
   refine hK.out _ _ (fun b' hb=> by simp at hb;rw [hb];exact b6.block _ (by omega)) ?_
   clear hK K
   try simp only [Act.put,sA,sB,sC]
   have hz6:=b6.size
   have H6:=Lib.hid (And.intro r6 i6)
   replace H4:=Lib.hid (And.intro (H4.out.1.keep fun b hb=> b6.block b (H4.out.2 b hb).2) (H4.out.2.next b6.size))
   replace H5:=Lib.hid (And.intro (H5.out.1.keep fun b hb=> b6.block b (H5.out.2 b hb).2) (H5.out.2.next b6.size))
   have K6:=Lib.hid (bthen K5.out b6)
   replace X3:=Lib.hid (box_next X3.out b6)
   clear r6 i6 b6 K5
   have Y1:=heap_set' (heap_set' (heap_set' X3.out (nv 0) 8 rfl) (nv 0) 9 rfl) (nv 0) 10 rfl
   refine zstore _ rfl rfl rfl (run_stP (f:=8) (f1:=9) (f2:=10) X3.out rfl rfl rfl rfl rfl (by simp)) ?_
   repeat (refine zpE ?_;simp only [Act.put,sA,sB,sC])
   have Y2:=heap_set' Y1 (.slice A4 (stA x).length c4) 5 rfl
   refine zstore _ rfl rfl rfl (run_stE (f:=5) (A:=A4) (n:=(stA x).length) (c:=c4) Y1 rfl rfl rfl (by simp)) ?_
   repeat (refine zpE ?_;simp only [Act.put,sA,sB,sC])
   have Y3:=heap_set' Y2 (.slice B4 (stB x).len d4) 6 rfl
   refine zstore _ rfl rfl rfl (run_stS (f:=6) (A:=B4) (n:=(stB x).len) (c:=d4) Y2 rfl rfl rfl (by simp)) ?_
   repeat (refine zpE ?_;simp only [Act.put,sA,sB,sC])
   have Y4:=heap_set' Y3 (.slice E4 (stE x).len f4) 7 rfl
   refine zstore _ rfl rfl rfl (run_stS (f:=7) (A:=E4) (n:=(stE x).len) (c:=f4) Y3 rfl rfl rfl (by simp)) (zdone ?_)
   have X7:Hid (_=some (smX (stK x) (stN x) (stT x) (stC x) (stI x) (.slice A4 (stA x).length c4) (.slice B4 (stB x).len d4) (.slice E4 (stE x).len f4) 0 0 0)):=Lib.hid Y4
   have M7:Hid (Mod [wr.heap.size] w6 _):=Lib.hid ((((((((Mod.refl _ _).set (b:=wr.heap.size) (i:=8) (.inl (by simp)) (nv 0)).set (b:=wr.heap.size) (i:=9) (.inl (by simp)) (nv 0)).set (b:=wr.heap.size) (i:=10) (.inl (by simp)) (nv 0)).set (b:=wr.heap.size) (i:=5) (.inl (by simp)) (.slice A4 (stA x).length c4)).set (b:=wr.heap.size) (i:=6) (.inl (by simp)) (.slice B4 (stB x).len d4)).set (b:=wr.heap.size) (i:=7) (.inl (by simp)) (.slice E4 (stE x).len f4)))
   clear Y1 Y2 Y3 Y4 X3
   generalize hw:World.setCell _ ⟨wr.heap.size,7,none⟩ _=w7 at X7 M7⊢
   clear hw
   obtain ⟨⟨⟨⟨z0,z1⟩,z2,z3⟩,⟨z4,z5⟩,z6,z7⟩,⟨z8,z9⟩,z10⟩:=cells11 X7.out
   have hz7:=M7.out.size
   have ha:(List.take k l.list).length=k:=by rw [List.length_take];have:=HN.out;omega
   have KW:Mod [] wr w7:=(Mod.of_below K6.out).trans M7.out (fun j hj=> .inr (by simp at hj;omega))
   have Ka:Hid (Mod [] wr (w7.alloc (smA (stK x) (stN x) (stT x) (stC x) (stI x) (.slice A4 (stA x).length c4) (.slice B4 (stB x).len d4) (.slice E4 (stE x).len f4) 0 0 0))):=Lib.hid (KW.alloc _)
   have Aa:=Lib.hid (HA.out.mod stz_keep Ka.out (fun _ h=> by cases h))
   go_wp2_with (at_builtin;refine wpList_app rfl (.tmp 25) (.tmp 27) smE rfl w.heap.size xs rfl Aa.out.own rfl (smL (stK x) (stN x) (stT x) (stC x) (stI x) (.slice A4 (stA x).length c4) (.slice B4 (stB x).len d4) (.slice E4 (stE x).len f4) 0 0 0) (Rd.made _ (smL (stK x) (stN x) (stT x) (stC x) (stI x) (.slice A4 (stA x).length c4) (.slice B4 (stB x).len d4) (.slice E4 (stE x).len f4) 0 0 0) rfl rfl) (by simp [Value.oneCell']) (by unfold maxLen;omega) (by omega) (by simp;omega) ?_;intro A7 c7 w8 o7 g7 h7)
   have hown:=fun b h=> (HA.out.own.lt b h).2
   have hk: ∀(S:Nat→Prop),In wd.heap.size w6 S→∀b,S b→(w7.alloc (smA (stK x) (stN x) (stT x) (stC x) (stI x) (.slice A4 (stA x).length c4) (.slice B4 (stB x).len d4) (.slice E4 (stE x).len f4) 0 0 0)).heap[b]? =w6.heap[b]? :=fun S hi b hb=> (Below.heap_alloc _ _ _ (by have:=(hi b hb).2;omega)).trans (M7.out.block b (hi b hb).2 (by have:=(hi b hb).1;simp;omega))
   have i5:=H5.out.2.more (show wd.heap.size≤w4.heap.size by omega)
   have i6:=H6.out.2.more (show wd.heap.size≤w5.heap.size by omega)
   have AF:Hid (Ar StZ 44 11 True w8 w.heap.size A7 (k+1) c7 (l.list.take (k+1)) _):=Lib.hid (by
    rw [HT.out]
    refine Aa.out.put (G':=True) (y:=x) (bs:=[]) (lo1:=wr.heap.size) stz_keep stz_mono id (by omega) hown (fun _=> ⟨fun b=> S4 b∨S5 b∨S6 b,⟨?_,rfl⟩,fun b hb=> ?_⟩) g7 h7 o7 (Mod.refl _ _) (fun _ h=> by cases h)
    ·obtain ⟨es,a1,a2⟩:=H4.out.1.keep (hk _ H4.out.2)
     obtain ⟨bs,a3,a4⟩:=(H5.out.1.keep (hk _ i5)).rs
     obtain ⟨fs,a5,a6⟩:=(H6.out.1.keep (hk _ i6)).rs
     exact (StR_eq _ _).2 ⟨_,_,es,_,_,bs,_,_,fs,0,0,0,rfl,⟨a1.mono fun _ h=> .inl h,a2.imp fun y us=> ExR.mono (fun _ h=> .inl h) y us⟩,⟨a3.mono fun _ h=> .inr (.inl h),StsR.mono (fun _ h=> .inr (.inl h)) _ _ a4⟩,a5.mono fun _ h=> .inr (.inr h),StsR.mono (fun _ h=> .inr (.inr h)) _ _ a6⟩
    ·have:wd.heap.size≤b∧b < w6.heap.size:=hb.elim (H4.out.2 b) fun h=> h.elim (i5 b) (i6 b)
     exact ⟨by omega,by simp;omega⟩)
   have BF:Hid (Below w.heap.size w w8):=Lib.hid (below_app (HB.out.trans ((KW.below (B:=w.heap.size) (by omega) (fun _ h=> by cases h)).alloc (by omega) _)) Aa.out.own g7 (by simp;omega))
   clear z0 z1 z2 z3 z4 z5 z6 z7 z8 z9 z10 o7 g7 h7 hown hk i5 i6
   go_wp2_with fail
   go_roundw
   case rel=> exact ⟨k+1,A7,c7,_,rfl,by go_num,by omega,BF,AF⟩
   case measure=> simp [intOf];omega
  ·obtain rfl:k=n:=by omega
   go_wp2_with fail
   go_ret
   have ho:=HA.out.own
   obtain ⟨S',h1,h2⟩:=HA.out.tr trivial
   rw [List.take_of_length_le (by rw [HN.out];exact Nat.le_refl _)]at h1
   exact ⟨⟨B,d,fun b=> S' b∨(Value.slice B k d).ownBlock=some b,rfl,⟨xs,by rw [HN2.out];exact Row.of_own ho (fun _ h=> .inr h),h1.imp fun y us=> stz_mono _ _ _ y us fun _ h=> .inl h⟩,fun b hb=> hb.elim (fun h=> ⟨(h2 b h).1,(h2 b h).2.1⟩) (ho.lt b)⟩,HB.out⟩
theorem bareB_any: ∀b:Sts,BareB b:=fun b=>
 (Sts.indM (P:=fun s=> BareB (stB s)∧BareB (stE s)) (Q:=fun b=> (∀x ∈ b.list,BareB (stB x)∧BareB (stE x))∧BareB b)
  (fun s h1 h2=> ⟨h1.2,h2.2⟩)
  ⟨fun x hx=> (by cases hx),bareB_step .nil (fun x hx=> (by cases hx))⟩
  (fun s r h1 h2=> by
   have h: ∀x ∈ (Sts.cons s r).list,BareB (stB x)∧BareB (stE x):=fun x hx=> by
    rcases List.mem_cons.1 hx with rfl | hx
    ·exact h1
    ·exact h2.1 x hx
   exact ⟨h,bareB_step _ h⟩) b).2
end Go.Proofs.YtnbmpfdffoidaaaGreatDoor.Y
