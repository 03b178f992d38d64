/- Texts of the proof, joined: RfM, RfP. -/
import Derived.Test.YtnbmpfdffoidaaaGreatDoorPr14
set_option linter.unusedVariables false
set_option linter.unusedSimpArgs false
set_option maxHeartbeats 8000000
set_option maxRecDepth 100000
namespace Go.Proofs.YtnbmpfdffoidaaaGreatDoor.Y
open Go.RowKit O V S X
theorem Ar.hasX {G:Prop}{W:World}{lo k c:Nat}{A:Option Addr}{a:List Ex}{xs:List Value}(h:ArX G W lo A k c a xs):HasX G lo A k c a W:=fun g=> by
 obtain ⟨S,h1,h2⟩:=h.tr g
 refine ⟨h.len,fun b=> S b∨(Value.slice A k c).ownBlock=some b,⟨xs,by rw [h.len];exact Row.of_own h.own (fun _ h=> .inr h),h1.imp fun y us hy=> ExR.mono (fun _ h=> .inl h) y us hy⟩,fun b hb=> hb.elim (fun hb=> ⟨(h2 b hb).1,(h2 b hb).2.1⟩) (fun hb=> h.own.lt b hb)⟩
theorem Fr.row0 {g b:Nat}{ms:List Nat}{w W:World}{σ:Sg}{cs:Array Value}{T:TypeId}{p:World→Prop}(F:Hid (Fr g ms w W σ (Bx g b (.cells cs T (0,0)) p))){lo:Nat}(hb:b < lo): ∃xs,Hid (Fr g ms w W σ (Bx g b (.cells cs T (0,0)) (fun V=> p V∧ArX True V lo none 0 0 [] xs))):=
 ⟨[],F.out.as (fun _ _ m h=> ⟨F.out.p.qs _ _ m h.1,h.2.mod ex_keep m (fun j hj=> by have:=F.out.p.ne;simp at hj;omega)⟩) ⟨F.out.p.q,Ar.nil_ _ _⟩⟩
theorem HasX.more {G:Prop}{lo lo' n c:Nat}{A:Option Addr}{l:List Ex}{V:World}(h:HasX G lo A n c l V)(hl:lo'≤lo):HasX G lo' A n c l V:=fun g=> by
 obtain ⟨e,S,h1,h2⟩:=h g
 exact ⟨e,S,h1,h2.more hl⟩
theorem f_each (f:Nat)(HB:BlockC f)(σ:Sg)(w:World)(g b:Nat)(p q z:Int)(h:ST w g σ)(hgb:g < b)(hb:w.heap[b]? =some (smX 0 [] [] [] 0 (.slice none 0 0) (.slice none 0 0) (.slice none 0 0) p q z))(ht:txS σ=w_each)(hm:lenS σ≤f):
  Calls Tryz.prog 154 #[.pointer (some ⟨g,0,none⟩),.pointer (some ⟨b,0,none⟩)] w (fun e W=> e= .returned (.tuple #[])∧SmQ g [g,b] b (fun _=> True) w σ false W):=by
 have hbl:b < w.heap.size:=(Array.getElem?_eq_some_iff.1 hb).1
 have HB:=Lib.hid HB
 have F0:Hid (Fr g [g,b] w w σ (Bx g b (smX 0 [] [] [] 0 (.slice none 0 0) (.slice none 0 0) (.slice none 0 0) p q z) (fun _=> True))):=Lib.hid ⟨by simp,fun _ _=> Bx.st,Mod.refl _ _,h,⟨hgb,fun _ _ _ _=> trivial,hb,trivial⟩⟩
 obtain ⟨i0,⟨⟨g1,g2⟩,hi0⟩,F1,E1,hl1⟩:=Fr.pass F0 (by decide) ht
 have hms:b ∈ [g,b]∨w.heap.size≤b:= .inl (by simp)
 generalize adv σ=σ1 at *
 obtain ⟨c0,f0⟩:=F1.out.p.cf 0 rfl
 clear h hb F0 ht
 go_enter Tryz.func154,Tryz.ntmps154
 go_wp2_with fail
 refine (Fr.name (F1.out.set 0 (nv 7) hms rfl)).mono ?_;rintro e w2 ⟨rfl,F2⟩
 have Nw2:=Lib.hid (Eat.name σ1)
 generalize nameS σ1=nm at *
 generalize nmA σ1=σ2 at *
 clear F1 c0 f0 g1 g2
 obtain ⟨c1,f1⟩:=F2.out.p.cf 1 rfl
 go_wp2_with fail
 refine (Fr.want (F2.out.set 1 (sv nm) hms rfl) [105,110] (by simp)).mono ?_;rintro e w3 ⟨rfl,F3⟩
 have Ew3:=Lib.hid (Eat.want σ2 (s:=[105,110]) (by simp))
 generalize wantS σ2 [105,110]=σ3 at *
 go_wp2_with fail
 refine (Fr.name (F3)).mono ?_;rintro e w4 ⟨rfl,F4⟩
 have Nw4:=Lib.hid (Eat.name σ3)
 generalize nameS σ3=tt at *
 generalize nmA σ3=σ4 at *
 clear F2 F3 c1 f1
 obtain ⟨c1,f1⟩:=F4.out.p.cf 2 rfl
 go_wp2_with fail
 refine (Fr.want (F4.out.set 2 (sv tt) hms rfl) [102,114,111,109] (by simp)).mono ?_;rintro e w5 ⟨rfl,F5⟩
 have Ew5:=Lib.hid (Eat.want σ4 (s:=[102,114,111,109]) (by simp))
 generalize wantS σ4 [102,114,111,109]=σ5 at *
 clear F4 c1 f1
 obtain ⟨xs,F6⟩:=Fr.row0 F5 hbl
 clear F5
 go_upto_region 6 with fail
 obtain ⟨wd,hwd⟩: ∃W,World.drew w5=W:=⟨_,rfl⟩
 have Fd:Hid (Fr g [g,b] w wd σ5 _):=Lib.hid (by rw [← hwd];exact (F6.out.next (Below.refl _ _).drew).out)
 clear F6
 refine wp_region_Z [10,13] [b] (.read 0 (.read 1 (.read 2 (.read 3 (.read 4 (.read 6 (.two 5 7 (.call 7 (.call 8 (.pure 9 (.pure 11 (.pure 12 (.swap 10 13 .done)))))) (.call 5 (.call 8 (.pure 9 (.pure 11 (.pure 12 (.swap 10 13 .done))))))))))))) (by kernel_rfl) (by kernel_rfl) (fun _ _ d _ _ h=> by cases d <;> exact h) ?_
 first | rw [hwd] | (simp only [nv,sv]at hwd;rw [hwd])
 clear hwd
 refine zwith (fun W hW=> cells11 ((hW b (by simp)).trans Fd.out.p.x)) (fun qx=> ?_)
 repeat (refine zrE ?_;simp only [Act.put,sA,sB,sC])
 clear qx
 have hsd:=Fd.out.m.size
 refine growX (vs:=#[.pointer (some ⟨g,0,none⟩),nv 1]) rfl rfl rfl (fun _=> rfl) (fun _=> rfl) (fun _=> rfl) rfl rfl rfl rfl rfl rfl rfl (by decide) (by simp) (by simp [Act.eval]) (fun v=> by simp [Act.eval,Act.put]) (fun W=> by go_simp) (fun W h=> rexpr_any h) Fd (by omega) (by omega) (by omega) ?_
 intro vi vj w9 wA ek evk evn evs enm ecc eo eA em ec ep eq er σ8 y g9 c7 hvi F9 E9 N9 T9 o7 g7 h7 hz9
 subst hvi
 try simp only [Act.put,sA,sB,sC]
 have hg9:=(o7.lt g9 rfl).1
 have hl9:xs.length=0 * 11:=F9.out.p.q.2.own.1
 have hb9:=(Array.getElem?_eq_some_iff.1 F9.out.p.x).1
 have hx7:=(g7.block _ hb9 (fun e=> by have:=(F9.out.p.q.2.own.lt _ e.symm).1;omega)).trans F9.out.p.x
 have hown:=fun b h=> (Fd.out.p.q.2.own.lt b h).2
 repeat (refine zpE ?_;simp only [Act.put,sA,sB,sC])
 have FF:Hid (Fr g _ w _ σ8 (Bx g _ (smX 7 nm tt [] 0 (.slice (some ⟨g9,0,none⟩) (0+1) c7) (.slice none 0 0) (.slice none 0 0) p q z) _)):=F9.out.row (i:=5) (y:=y) (lo1:=wd.heap.size) (fun _ _ _ h=> h) (fun _ _ _ h=> h) hms (by omega) (by omega) (fun h=> trivial) (by omega) (by omega) hown T9 hl9 o7 g7 h7 rfl
 refine zswapX (.tmp 37) (.tmp 33) (.tmp 39) (.tmp 36) rfl rfl rfl rfl rfl rfl rfl rfl rfl rfl rfl rfl o7 hl9 hx7 (by simp) (by omega) (zdone ?_)
 generalize hw:(put11 wA g9 (0 * 11) (nv ek) (nv evk) (nv evn) (sv evs) (sv enm) (sv ecc) (nv eo) (.slice eA em ec) (nv ep) (nv eq) (nv er)).setCell _ _=wF at FF⊢
 clear hw o7 g7 h7 hx7 F9 hown T9 hb9 hl9 hg9 Fd hz9
 replace FF: ∃A c xs,Hid (Fr g [g,b] w wF σ8 (Bx g b (smX 7 nm tt [] 0 (.slice A 1 c) (.slice none 0 0) (.slice none 0 0) p q z) (fun V=> True∧ArX (σ8≠none) V w.heap.size A 1 c [y] xs))):=⟨_,_,_,FF⟩
 obtain ⟨A1,c1,xs,F7⟩:=FF
 obtain ⟨y1,hy⟩: ∃t,t=y:=⟨_,rfl⟩
 subst hy
 have E6:=E9
 have N6:=N9
 obtain ⟨σ6,hs⟩: ∃s,s=σ8:=⟨_,rfl⟩
 subst hs
 clear E9 N9
 go_wp2_with fail
 refine (Fr.want (F7) [116,111] (by simp)).mono ?_;rintro e w7 ⟨rfl,F8⟩
 have Ew7:=Lib.hid (Eat.want σ6 (s:=[116,111]) (by simp))
 generalize wantS σ6 [116,111]=σ7 at *
 clear F7
 go_upto_region 8 with fail
 obtain ⟨wd,hwd⟩: ∃W,World.drew w7=W:=⟨_,rfl⟩
 have Fd:Hid (Fr g [g,b] w wd σ7 _):=Lib.hid (by rw [← hwd];exact (F8.out.next (Below.refl _ _).drew).out)
 clear F8
 refine wp_region_Z [10,13] [b] (.read 0 (.read 1 (.read 2 (.read 3 (.read 4 (.read 6 (.two 5 7 (.call 7 (.call 8 (.pure 9 (.pure 11 (.pure 12 (.swap 10 13 .done)))))) (.call 5 (.call 8 (.pure 9 (.pure 11 (.pure 12 (.swap 10 13 .done))))))))))))) (by kernel_rfl) (by kernel_rfl) (fun _ _ d _ _ h=> by cases d <;> exact h) ?_
 first | rw [hwd] | (simp only [nv,sv]at hwd;rw [hwd])
 clear hwd
 refine zwith (fun W hW=> cells11 ((hW b (by simp)).trans Fd.out.p.x)) (fun qx=> ?_)
 repeat (refine zrE ?_;simp only [Act.put,sA,sB,sC])
 clear qx
 have hsd:=Fd.out.m.size
 refine growX (vs:=#[.pointer (some ⟨g,0,none⟩),nv 1]) rfl rfl rfl (fun _=> rfl) (fun _=> rfl) (fun _=> rfl) rfl rfl rfl rfl rfl rfl rfl (by decide) (by simp) (by simp [Act.eval]) (fun v=> by simp [Act.eval,Act.put]) (fun W=> by go_simp) (fun W h=> rexpr_any h) Fd (by omega) (by omega) (by omega) ?_
 intro vi vj w9 wA ek evk evn evs enm ecc eo eA em ec ep eq er σ8 y g9 c7 hvi F9 E9 N9 T9 o7 g7 h7 hz9
 subst hvi
 try simp only [Act.put,sA,sB,sC]
 have hg9:=(o7.lt g9 rfl).1
 have hl9:xs.length=1 * 11:=F9.out.p.q.2.own.1
 have hb9:=(Array.getElem?_eq_some_iff.1 F9.out.p.x).1
 have hx7:=(g7.block _ hb9 (fun e=> by have:=(F9.out.p.q.2.own.lt _ e.symm).1;omega)).trans F9.out.p.x
 have hown:=fun b h=> (Fd.out.p.q.2.own.lt b h).2
 repeat (refine zpE ?_;simp only [Act.put,sA,sB,sC])
 have FF:Hid (Fr g _ w _ σ8 (Bx g _ (smX 7 nm tt [] 0 (.slice (some ⟨g9,0,none⟩) (1+1) c7) (.slice none 0 0) (.slice none 0 0) p q z) _)):=F9.out.row (i:=5) (y:=y) (lo1:=wd.heap.size) (fun _ _ _ h=> h) (fun _ _ _ h=> h) hms (by omega) (by omega) (fun h=> Ew7.out.some (E9.out.some h)) (by omega) (by omega) hown T9 hl9 o7 g7 h7 rfl
 refine zswapX (.tmp 51) (.tmp 47) (.tmp 53) (.tmp 50) rfl rfl rfl rfl rfl rfl rfl rfl rfl rfl rfl rfl o7 hl9 hx7 (by simp) (by omega) (zdone ?_)
 generalize hw:(put11 wA g9 (1 * 11) (nv ek) (nv evk) (nv evn) (sv evs) (sv enm) (sv ecc) (nv eo) (.slice eA em ec) (nv ep) (nv eq) (nv er)).setCell _ _=wF at FF⊢
 clear hw o7 g7 h7 hx7 F9 hown T9 hb9 hl9 hg9 Fd hz9
 replace FF: ∃A c xs,Hid (Fr g [g,b] w wF σ8 (Bx g b (smX 7 nm tt [] 0 (.slice A 2 c) (.slice none 0 0) (.slice none 0 0) p q z) (fun V=> True∧ArX (σ8≠none) V w.heap.size A 2 c [y1,y] xs))):=⟨_,_,_,FF⟩
 obtain ⟨A2,c2,xs2,F9⟩:=FF
 go_wp2_with fail
 refine (Fr.want (F9) [109,97,120] (by simp)).mono ?_;rintro e w10 ⟨rfl,F10⟩
 have Ew10:=Lib.hid (Eat.want σ8 (s:=[109,97,120]) (by simp))
 generalize wantS σ8 [109,97,120]=σ10 at *
 clear F9
 go_wp2_with fail
 refine (Fr.num F10).mono ?_;rintro e w11 ⟨rfl,F11⟩
 have N11:=Lib.hid (Eat.num F10.out.s)
 generalize nnS σ10=n at *
 generalize numA σ10=σ11 at *
 clear F10
 obtain ⟨c4,f4⟩:=F11.out.p.cf 4 rfl
 go_wp2_with fail
 have F12:=F11.out.set 4 (nv n) hms rfl
 clear F11 c4 f4
 have T1:=Lib.hid (((((E1.out.trans Nw2.out.1 (Nat.le_refl _)).trans Ew3.out (Nat.le_refl _)).trans Nw4.out.1 (Nat.le_refl _)).trans Ew5.out (Nat.le_refl _)).trans E6.out (Nat.le_refl _))
 have T2:=Lib.hid ((((T1.out.trans Ew7.out (Nat.le_refl _)).trans E9.out (Nat.le_refl _)).trans Ew10.out (Nat.le_refl _)).trans N11.out.1 (Nat.le_refl _))
 have hf:lenS σ11 < f:=by have:=T2.out.lenS (by omega);omega
 refine (Fr.blk HB.out F12 hms 6 rfl hf).mono ?_;rintro e w13 ⟨B,nb,cb,body,σ13,rfl,⟨⟨c6,f6⟩,hb13⟩,F13,E13,N13⟩
 clear F12
 go_wp2_with fail
 first | go_end0 | refine bodyPost_ret (results_none rfl _ _ _) rfl ?_
 have k8:σ13≠none→σ8≠none:=fun h=> Ew10.out.some (N11.out.1.some (E13.out.some h))
 refine ⟨rfl,7,nm,tt,[],n,A2,2,c2,B,nb,cb,none,0,0,p,q,z,.each nm tt y1 y n body,σ13,_,F13.out.as (fun _ _ m h=> ⟨trivial,h.2.mod m (fun j hj=> by simp at hj;omega)⟩) ⟨trivial,HasS.mk ((F13.out.p.q.1.2.hasX.imp k8).more (by omega)) F13.out.p.q.2 HasB.nil_⟩,Lib.hid ⟨T2.out.trans E13.out (Nat.le_refl _),?_⟩,Lib.hid fun h=> ?_⟩
 ·have h1:=W_0 (e:=1) y1 1
  have h2:=W_0 (e:=1) y 1
  rw [toksS]
  simp only [W_cons,W_app,W_nil,cw_w,cw_g,cw_n,w_each,w_in,w_from,w_to,w_max,List.length_cons,List.length_nil]
  simp
  omega
 ·have k11:=E13.out.some h
  have k10:=N11.out.1.some k11
  have k8':=Ew10.out.some k10
  have k6:=Ew7.out.some (E9.out.some k8')
  have k4:=Ew5.out.some (E6.out.some k6)
  have k2:=Ew3.out.some (Nw4.out.1.some k4)
  rw [okS]
  exact ⟨⟨Nw2.out.2 k2,Nw4.out.2 k4⟩,⟨N6.out k6,N9.out k8'⟩,N11.out.2 k11,N13.out h⟩
theorem f_assign (σ:Sg)(w:World)(g b:Nat)(p q z:Int)(h:ST w g σ)(hgb:g < b)(hb:w.heap[b]? =some (smX 0 [] [] [] 0 (.slice none 0 0) (.slice none 0 0) (.slice none 0 0) p q z)):
  Calls Tryz.prog 155 #[.pointer (some ⟨g,0,none⟩),.pointer (some ⟨b,0,none⟩)] w (fun e W=> e= .returned (.tuple #[])∧SmQ g [g,b] b (fun _=> True) w σ true W):=by
 have hbl:b < w.heap.size:=(Array.getElem?_eq_some_iff.1 hb).1
 have F0:Hid (Fr g [g,b] w w σ (Bx g b (smX 0 [] [] [] 0 (.slice none 0 0) (.slice none 0 0) (.slice none 0 0) p q z) (fun _=> True))):=Lib.hid ⟨by simp,fun _ _=> Bx.st,Mod.refl _ _,h,⟨hgb,fun _ _ _ _=> trivial,hb,trivial⟩⟩
 have hms:b ∈ [g,b]∨w.heap.size≤b:= .inl (by simp)
 clear h hb
 go_enter Tryz.func155,Tryz.ntmps155
 go_wp2_with fail
 refine (Fr.name (F0)).mono ?_;rintro e w1 ⟨rfl,F1⟩
 have Nw1:=Lib.hid (Eat.name σ)
 generalize nameS σ=nm at *
 generalize nmA σ=σ1 at *
 go_wp2_with fail
 refine (Fr.text F1).mono ?_;rintro e w2 ⟨rfl,F2⟩
 clear F0 F1
 go_upto_if 9 with fail
 go_cut [] (fun wx=> ∃(kd:Int) (na tt cc:List UInt8) (A:Option Addr) (m c:Nat) (a:List Ex) (xs:List Value) (σ3:Sg) (n:Nat),Hid (Fr g [g,b] w wx σ3 (Bx g b (smX kd na tt cc 0 (.slice A m c) (.slice none 0 0) (.slice none 0 0) p q z) (fun V=> True∧ArX (σ3≠none) V w.heap.size A m c a xs)))∧Hid (Eat σ σ3 n)∧m≤1∧
  Hid ((kd=2∧(na=nm∧tt=[]∧cc=[])∧a=[]∧n=nm.length+1∧(σ3≠none→isNameL nm=true))∨(kd=3∧(na=[]∧tt=nm)∧∃k,a=[k]∧n=nm.length+cc.length+8+Y.W 1 (toks0 k)∧(σ3≠none→isNameL nm=true∧isNameL cc=true∧okX k))))
 case first=>
  by_cases ht:txS σ1=[91]
  ·rw [show (txS σ1==[91])=true by simpa using ht]
   clear ht
   obtain ⟨c0,f0⟩:=F2.out.p.cf 0 rfl
   have F3:=F2.out.set 0 (nv 3) hms rfl
   obtain ⟨c2,f2⟩:=F2.out.p.cf 2 rfl
   obtain ⟨xs,F4⟩:=Fr.row0 (F3.out.set 2 (sv nm) hms rfl) hbl
   go_wp2_with fail
   clear F2 F3 c0 f0 c2 f2
   obtain ⟨wd,hwd⟩: ∃W,World.drew ((w2.setCell ⟨b,0,none⟩ (nv 3)).setCell ⟨b,2,none⟩ (sv nm))=W:=⟨_,rfl⟩
   have Fd:Hid (Fr g [g,b] w wd σ1 _):=Lib.hid (by rw [← hwd];exact (F4.out.next (Below.refl _ _).drew).out)
   clear F4
   refine wp_region_Z [10,13] [b] (.read 0 (.read 1 (.read 2 (.read 3 (.read 4 (.read 6 (.two 5 7 (.call 7 (.call 8 (.pure 9 (.pure 11 (.pure 12 (.swap 10 13 .done)))))) (.call 5 (.call 8 (.pure 9 (.pure 11 (.pure 12 (.swap 10 13 .done))))))))))))) (by kernel_rfl) (by kernel_rfl) (fun _ _ d _ _ h=> by cases d <;> exact h) ?_
   first | rw [hwd] | (simp only [nv,sv]at hwd;rw [hwd])
   clear hwd
   refine zwith (fun W hW=> cells11 ((hW b (by simp)).trans Fd.out.p.x)) (fun qx=> ?_)
   repeat (refine zrE ?_;simp only [Act.put,sA,sB,sC])
   clear qx
   have hsd:=Fd.out.m.size
   refine growX (vs:=#[.pointer (some ⟨g,0,none⟩)]) rfl rfl rfl (fun _=> rfl) (fun _=> rfl) (fun _=> rfl) rfl rfl rfl rfl rfl rfl rfl (by decide) (by simp) (by simp [Act.eval]) (fun v=> by simp [Act.eval,Act.put]) (fun W=> by go_simp) (fun W h=> rkey_any h) Fd (by omega) (by omega) (by omega) ?_
   intro vi vj w9 wA ek evk evn evs enm ecc eo eA em ec ep eq er σ8 y g9 c7 hvi F9 E9 N9 T9 o7 g7 h7 hz9
   subst hvi
   try simp only [Act.put,sA,sB,sC]
   have hg9:=(o7.lt g9 rfl).1
   have hl9:xs.length=0 * 11:=F9.out.p.q.2.own.1
   have hb9:=(Array.getElem?_eq_some_iff.1 F9.out.p.x).1
   have hx7:=(g7.block _ hb9 (fun e=> by have:=(F9.out.p.q.2.own.lt _ e.symm).1;omega)).trans F9.out.p.x
   have hown:=fun b h=> (Fd.out.p.q.2.own.lt b h).2
   repeat (refine zpE ?_;simp only [Act.put,sA,sB,sC])
   have FF:Hid (Fr g _ w _ σ8 (Bx g _ (smX 3 [] nm [] 0 (.slice (some ⟨g9,0,none⟩) (0+1) c7) (.slice none 0 0) (.slice none 0 0) p q z) _)):=F9.out.row (i:=5) (y:=y) (lo1:=wd.heap.size) (fun _ _ _ h=> h) (fun _ _ _ h=> h) hms (by omega) (by omega) (fun h=> trivial) (by omega) (by omega) hown T9 hl9 o7 g7 h7 rfl
   refine zswapX (.tmp 26) (.tmp 22) (.tmp 28) (.tmp 25) rfl rfl rfl rfl rfl rfl rfl rfl rfl rfl rfl rfl o7 hl9 hx7 (by simp) (by omega) (zdone ?_)
   generalize hw:(put11 wA g9 (0 * 11) (nv ek) (nv evk) (nv evn) (sv evs) (sv enm) (sv ecc) (nv eo) (.slice eA em ec) (nv ep) (nv eq) (nv er)).setCell _ _=wF at FF⊢
   clear hw o7 g7 h7 hx7 F9 hown T9 hb9 hl9 hg9 Fd hz9
   go_wp2_with fail
   refine (Fr.want (FF) [46] (by simp)).mono ?_;rintro e w5 ⟨rfl,F5⟩
   have Ew5:=Lib.hid (Eat.want σ8 (s:=[46]) (by simp))
   generalize wantS σ8 [46]=σ5 at *
   go_wp2_with fail
   refine (Fr.name (F5)).mono ?_;rintro e w6 ⟨rfl,F6⟩
   have Nw6:=Lib.hid (Eat.name σ5)
   generalize nameS σ5=cc at *
   generalize nmA σ5=σ6 at *
   clear FF F5
   obtain ⟨c3,f3⟩:=F6.out.p.cf 3 rfl
   go_wp2_with fail
   go_meet
   have k8:σ6≠none→σ8≠none:=fun h=> Ew5.out.some (Nw6.out.1.some h)
   have F7:=F6.out.set 3 (sv cc) hms rfl
   refine ⟨3,[],nm,cc,_,1,c7,[y],_,σ6,_,F7.out.as (fun _ _ m h=> ⟨trivial,h.2.mod ex_keep m (fun j hj=> by simp at hj;omega)⟩) ⟨trivial,F7.out.p.q.2.imp k8⟩,Lib.hid ((((Nw1.out.1.trans E9.out (Nat.le_refl _)).trans Ew5.out (Nat.le_refl _)).trans Nw6.out.1 (Nat.le_refl _)).le ?_),Nat.le_refl _,Lib.hid (.inr ⟨rfl,⟨rfl,rfl⟩,y,rfl,rfl,fun h=> ⟨Nw1.out.2 (E9.out.some (k8 h)),Nw6.out.2 h,N9.out (k8 h)⟩⟩)⟩
   have h1:=W_0 (e:=1) y 0
   simp
   omega
  ·rw [show (txS σ1==[91])=false by simpa using ht]
   clear ht
   obtain ⟨c0,f0⟩:=F2.out.p.cf 0 rfl
   have F3:=F2.out.set 0 (nv 2) hms rfl
   obtain ⟨c1,f1⟩:=F2.out.p.cf 1 rfl
   obtain ⟨xs,F4⟩:=Fr.row0 (F3.out.set 1 (sv nm) hms rfl) hbl
   go_wp2_with fail
   go_meet
   exact ⟨2,nm,[],[],none,0,0,[],xs,σ1,_,F4.out.as (fun _ _ m h=> ⟨trivial,h.2.mod ex_keep m (fun j hj=> by simp at hj;omega)⟩) ⟨trivial,F4.out.p.q.2.imp fun _=> trivial⟩,Lib.hid Nw1.out.1,by omega,Lib.hid (.inl ⟨rfl,⟨rfl,rfl,rfl⟩,rfl,rfl,Nw1.out.2⟩)⟩
 case rest=>
  clear F2
  obtain ⟨kd,na,tt,cc,A,m,c,a,xs,σ3,n,F3,E3,hm1,H3⟩:=hcut
  go_wp2_with fail
  refine (Fr.want (F3) [61] (by simp)).mono ?_;rintro e w4 ⟨rfl,F4⟩
  have Ew4:=Lib.hid (Eat.want σ3 (s:=[61]) (by simp))
  generalize wantS σ3 [61]=σ4 at *
  clear F3
  go_upto_region 10 with fail
  obtain ⟨wd,hwd⟩: ∃W,World.drew w4=W:=⟨_,rfl⟩
  have Fd:Hid (Fr g [g,b] w wd σ4 _):=Lib.hid (by rw [← hwd];exact (F4.out.next (Below.refl _ _).drew).out)
  clear F4
  refine wp_region_Z [10,13] [b] (.read 0 (.read 1 (.read 2 (.read 3 (.read 4 (.read 6 (.two 5 7 (.call 7 (.call 8 (.pure 9 (.pure 11 (.pure 12 (.swap 10 13 .done)))))) (.call 5 (.call 8 (.pure 9 (.pure 11 (.pure 12 (.swap 10 13 .done))))))))))))) (by kernel_rfl) (by kernel_rfl) (fun _ _ d _ _ h=> by cases d <;> exact h) ?_
  first | rw [hwd] | (simp only [nv,sv]at hwd;rw [hwd])
  clear hwd
  refine zwith (fun W hW=> cells11 ((hW b (by simp)).trans Fd.out.p.x)) (fun qx=> ?_)
  repeat (refine zrE ?_;simp only [Act.put,sA,sB,sC])
  clear qx
  have hsd:=Fd.out.m.size
  refine growX (vs:=#[.pointer (some ⟨g,0,none⟩),nv 1]) rfl rfl rfl (fun _=> rfl) (fun _=> rfl) (fun _=> rfl) rfl rfl rfl rfl rfl rfl rfl (by decide) (by simp) (by simp [Act.eval]) (fun v=> by simp [Act.eval,Act.put]) (fun W=> by go_simp) (fun W h=> rexpr_any h) Fd (by omega) (by omega) (by omega) ?_
  intro vi vj w9 wA ek evk evn evs enm ecc eo eA em ec ep eq er σ8 y g9 c7 hvi F9 E9 N9 T9 o7 g7 h7 hz9
  subst hvi
  try simp only [Act.put,sA,sB,sC]
  have hg9:=(o7.lt g9 rfl).1
  have hl9:xs.length=m * 11:=F9.out.p.q.2.own.1
  have hb9:=(Array.getElem?_eq_some_iff.1 F9.out.p.x).1
  have hx7:=(g7.block _ hb9 (fun e=> by have:=(F9.out.p.q.2.own.lt _ e.symm).1;omega)).trans F9.out.p.x
  have hown:=fun b h=> (Fd.out.p.q.2.own.lt b h).2
  repeat (refine zpE ?_;simp only [Act.put,sA,sB,sC])
  have FF:Hid (Fr g _ w _ σ8 (Bx g _ (smX kd na tt cc 0 (.slice (some ⟨g9,0,none⟩) (m+1) c7) (.slice none 0 0) (.slice none 0 0) p q z) _)):=F9.out.row (i:=5) (y:=y) (lo1:=wd.heap.size) (fun _ _ _ h=> h) (fun _ _ _ h=> h) hms (by omega) (by omega) (fun h=> Ew4.out.some (E9.out.some h)) (by omega) (by omega) hown T9 hl9 o7 g7 h7 rfl
  refine zswapX (.tmp 54) (.tmp 50) (.tmp 56) (.tmp 53) rfl rfl rfl rfl rfl rfl rfl rfl rfl rfl rfl rfl o7 hl9 hx7 (by simp) (by omega) (zdone ?_)
  generalize hw:(put11 wA g9 (m * 11) (nv ek) (nv evk) (nv evn) (sv evs) (sv enm) (sv ecc) (nv eo) (.slice eA em ec) (nv ep) (nv eq) (nv er)).setCell _ _=wF at FF⊢
  clear hw o7 g7 h7 hx7 F9 hown T9 hb9 hl9 hg9 Fd hz9
  go_wp2_with fail
  first | go_end0 | refine bodyPost_ret (results_none rfl _ _ _) rfl ?_
  have T:=(E3.out.trans Ew4.out (Nat.le_refl _)).trans E9.out (Nat.le_refl _)
  have k3:σ8≠none→σ3≠none:=fun h=> Ew4.out.some (E9.out.some h)
  have hx:=FF.out.p.q.2.hasX.more (show b+1≤w.heap.size by omega)
  have h1:=W_0 (e:=1) y 1
  rcases H3.out with ⟨rfl,⟨rfl,rfl,rfl⟩,rfl,rfl,h3⟩ | ⟨rfl,⟨rfl,rfl⟩,k,rfl,rfl,h3⟩
  ·refine ⟨rfl,2,na,[],[],0,_,_,c7,none,0,0,none,0,0,p,q,z,.set na y,σ8,_,FF.out.as (fun _ _ m h=> ⟨trivial,h.2.mod m (fun j hj=> by simp at hj;omega)⟩) ⟨trivial,HasS.mk hx HasB.nil_ HasB.nil_⟩,Lib.hid ⟨T,?_⟩,Lib.hid fun h=> ?_⟩
   ·rw [toksS]
    simp only [W_cons,W_app,W_nil,cw_w,cw_g,List.length_cons,List.length_nil]
    simp
    omega
   ·rw [okS]
    exact ⟨h3 (k3 h),N9.out h⟩
  ·refine ⟨rfl,3,[],tt,cc,0,_,_,c7,none,0,0,none,0,0,p,q,z,.put tt cc k y,σ8,_,FF.out.as (fun _ _ m h=> ⟨trivial,h.2.mod m (fun j hj=> by simp at hj;omega)⟩) ⟨trivial,HasS.mk hx HasB.nil_ HasB.nil_⟩,Lib.hid ⟨T,?_⟩,Lib.hid fun h=> ?_⟩
   ·rw [toksS]
    simp only [W_cons,W_app,W_nil,cw_w,cw_g,List.length_cons,List.length_nil]
    simp
    omega
   ·rw [okS]
    have h4:=h3 (k3 h)
    exact ⟨h4.1,h4.2.1,h4.2.2,N9.out h⟩
end Go.Proofs.YtnbmpfdffoidaaaGreatDoor.Y
namespace Go.Proofs.YtnbmpfdffoidaaaGreatDoor.Y
open Go.RowKit O V S X
abbrev zSmB:Obj:=smX 0 [] [] [] 0 (.slice none 0 0) (.slice none 0 0) (.slice none 0 0) 0 0 0
theorem f_stmt (f:Nat)(HB:BlockC f):StmtC (f+1):=by
  intro σ w g h hm
  have HB:=Lib.hid HB
  have hlt:=h.lt
  go_enter Tryz.func122,Tryz.ntmps122
  go_upto_region 1 with fail
  have F1:Hid (Fr g [g] w (w.alloc (smA 0 [] [] [] 0 (.slice none 0 0) (.slice none 0 0) (.slice none 0 0) 0 0 0)) σ (fun V=> V.heap[w.heap.size]? =some zSmB)):=Lib.hid ⟨by simp,fun _ _ m h=> m.box h (by simp;omega),(Mod.refl _ _).alloc _,h.next ((Below.refl _ _).alloc (Nat.le_refl _) _),alloc_at rfl⟩
  obtain ⟨w1,hw⟩: ∃W,w.alloc (smA 0 [] [] [] 0 (.slice none 0 0) (.slice none 0 0) (.slice none 0 0) 0 0 0)=W:=⟨_,rfl⟩
  rw [hw]at F1
  rw [hw]
  clear hw h
  go_wp2_with fail
  refine (Fr.here F1).mono ?_;rintro e w2 ⟨⟨pp,pq,pr,rfl⟩,F2⟩
  have hz2:=F2.out.m.size
  have hz22:w.heap.size < w2.heap.size:=(Array.getElem?_eq_some_iff.1 F2.out.p).1
  go_upto_region 3 with fail
  have F3:=F2.out.box (k:=smA 0 [] [] [] 0 (.slice none 0 0) (.slice none 0 0) (.slice none 0 0) pp pq pr) rfl (fun V=> V.heap[w.heap.size]? =some zSmB) (fun _ _ m h=> m.box h (by simp;omega)) ((Below.heap_alloc _ _ _ hz22).trans F2.out.p)
  obtain ⟨w3,hw⟩: ∃W,w2.alloc (smA 0 [] [] [] 0 (.slice none 0 0) (.slice none 0 0) (.slice none 0 0) pp pq pr)=W:=⟨_,rfl⟩
  rw [hw]at F3
  rw [hw]
  clear hw F1 F2
  obtain ⟨b,hbe⟩: ∃b,w2.heap.size=b:=⟨_,rfl⟩
  rw [hbe]at F3 hz2 hz22
  rw [hbe]
  clear hbe
  have hms:b ∈ [g]∨w.heap.size≤b:= .inr hz2
  go_wp2_with fail
  refine (Fr.text F3).mono ?_;rintro e w4 ⟨rfl,F4⟩
  obtain ⟨tx,htx⟩: ∃s,txS σ=s:=⟨_,rfl⟩
  have HTX:=Lib.hid htx
  rw [htx]
  clear F3 htx
  go_upto_block 0 with fail
  go_cut [4] (fun v wx=> ∃line,v= .bool line∧SmQ g [g] b (fun V=> V.heap[w.heap.size]? =some zSmB) w σ line wx)
  case rest=>
    clear F4
    obtain ⟨line,rfl,k,nm,tt,cc,n,A,m,c,B,mb,d,E,me,ff,p,q,z,s,σ5,x,F5,E5,N5⟩:=hcut
    go_upto_if 117 with fail
    go_cut [] (fun wx=> ∃σ6,Hid (Fr g [g] w wx σ6 (Bx g b (smX k nm tt cc n (.slice A m c) (.slice B mb d) (.slice E me ff) p q z) (fun V=> V.heap[w.heap.size]? =some zSmB∧HasS (σ5≠none) (b+1) s (smL k nm tt cc n (.slice A m c) (.slice B mb d) (.slice E me ff) p q z) V)))∧Hid (Eat σ σ6 (Y.W 1 (toksS s))∧(σ6≠none→σ5≠none)))
    case first=>
      cases line with
      | true=>
        go_wp2_with fail
        refine (Fr.want (F5) [59] (by simp)).mono ?_;rintro e w6 ⟨rfl,F6⟩
        have Ew6:=Lib.hid (Eat.want σ5 (s:=[59]) (by simp))
        generalize wantS σ5 [59]=σ6 at *
        go_wp2_with fail
        go_meet
        exact ⟨σ6,F6,Lib.hid ⟨E5.out.1.trans Ew6.out (by have:=E5.out.2;simpa using this),Ew6.out.some⟩⟩
      | false=>
        go_wp2_with fail
        go_meet
        exact ⟨σ5,F5,Lib.hid ⟨E5.out.1.le (by have:=E5.out.2;simpa using this),id⟩⟩
    case rest=>
      clear F5
      obtain ⟨σ6,F6,E6⟩:=hcut
      obtain ⟨w6,hw⟩: ∃W,wc=W:=⟨_,rfl⟩
      rw [hw]at F6
      rw [hw]
      clear hw
      obtain ⟨⟨⟨⟨x0,x1⟩,x2,x3⟩,⟨x4,x5⟩,x6,x7⟩,⟨x8,x9⟩,x10⟩:=cells11 F6.out.p.x
      obtain ⟨⟨⟨⟨z0,z1⟩,z2,z3⟩,⟨z4,z5⟩,z6,z7⟩,⟨z8,z9⟩,z10⟩:=cells11 F6.out.p.q.1
      obtain ⟨⟨⟨⟨v0,v1⟩,v2,v3⟩,⟨v4,v5⟩,v6,v7⟩,⟨v8,v9⟩,v10⟩:=frozen11 F6.out.p.q.1
      go_wp2_with fail
      clear x0 x1 x2 x3 x4 x5 x6 x7 x8 x9 x10 z0 z1 z2 z3 z4 z5 z6 z7 z8 z9 z10 v0 v1 v2 v3 v4 v5 v6 v7 v8 v9 v10
      have X3:(set11 w6 w.heap.size (nv k) (sv nm) (sv tt) (sv cc) (nv n) (.slice A m c) (.slice B mb d) (.slice E me ff) (nv p) (nv q) (nv z)).heap[w.heap.size]? =some (smX k nm tt cc n (.slice A m c) (.slice B mb d) (.slice E me ff) p q z):=set11_box (vs:=[nv 0,sv [],sv [],sv [],nv 0,.slice none 0 0,.slice none 0 0,.slice none 0 0,nv 0,nv 0,nv 0]) F6.out.p.q.1 rfl
      have M3:Mod [w.heap.size] w6 (set11 w6 w.heap.size (nv k) (sv nm) (sv tt) (sv cc) (nv n) (.slice A m c) (.slice B mb d) (.slice E me ff) (nv p) (nv q) (nv z)):=set11_mod
      obtain ⟨wz,hw⟩: ∃W,set11 w6 w.heap.size (nv k) (sv nm) (sv tt) (sv cc) (nv n) (.slice A m c) (.slice B mb d) (.slice E me ff) (nv p) (nv q) (nv z)=W:=⟨_,rfl⟩
      rw [hw]at X3 M3
      unfold set11 at hw
      first | rw [hw] | (simp only [nv,sv]at hw;rw [hw])
      clear hw
      obtain ⟨⟨⟨⟨y0,y1⟩,y2,y3⟩,⟨y4,y5⟩,y6,y7⟩,⟨y8,y9⟩,y10⟩:=cells11 X3
      refine bodyPost_ret (v:=(.agg (smL k nm tt cc n (.slice A m c) (.slice B mb d) (.slice E me ff) p q z).toArray)) (by simp [results,Tryz.results122,go_sem,y0,y1,y2,y3,y4,y5,y6,y7,y8,y9,y10]) rfl ?_
      have hs:=F6.out.m.size
      exact ⟨k,nm,tt,cc,n,A,m,c,B,mb,d,E,me,ff,p,q,z,s,σ6,rfl,F6.out.s.keep fun j hj=> M3.block j (by omega) (by simp;omega),F6.out.m.trans M3 (fun x hx=> .inr (by simp at hx;omega)),E6.out.1,fun h=> N5.out (E6.out.2 h),fun h=> ((F6.out.p.q.2.mod M3 (fun j hj=> by simp at hj;omega)) (E6.out.2 h)).imp fun S h=> ⟨h.1,h.2.more (by omega)⟩⟩
  case first=>
    by_cases h1:tx=[108,101,116]
    · have s1:(tx==[108,101,116])=true:=by simpa using h1
      obtain ⟨i0,⟨⟨g1,g2⟩,hi0⟩,F5,E5,hl5⟩:=Fr.pass F4 (s:=[108,101,116]) (by simp) (HTX.out.trans h1)
      generalize adv σ=σ5 at *
      clear h1 HTX
      obtain ⟨c0,f0⟩:=F5.out.p.cf 0 rfl
      go_wp2_with fail
      refine (Fr.name (F5.out.set 0 (nv 1) hms rfl)).mono ?_;rintro e w6 ⟨rfl,F6⟩
      have Nw6:=Lib.hid (Eat.name σ5)
      generalize nameS σ5=nm at *
      generalize nmA σ5=σ6 at *
      obtain ⟨c1,f1⟩:=F6.out.p.cf 1 rfl
      go_wp2_with fail
      refine (Fr.want (F6.out.set 1 (sv nm) hms rfl) [61] (by simp)).mono ?_;rintro e w7 ⟨rfl,F7⟩
      have Ew7:=Lib.hid (Eat.want σ6 (s:=[61]) (by simp))
      generalize wantS σ6 [61]=σ7 at *
      go_wp2_with fail
      refine (Fr.arg1 (rexpr_any F7.out.s) F7 hms rfl).mono ?_;rintro e w8 ⟨ek,evk,evn,evs,enm,ecc,eo,eA,em,ec,ep,eq,er,σ8,x,rfl,⟨⟨c5,f5⟩,hb8⟩,F8,Ew8,Nw8⟩
      go_wp2_with fail
      go_meet
      refine ⟨true,rfl,1,nm,[],[],0,_,1,1,none,0,0,none,0,0,pp,pq,pr,.let_ nm x,σ8,_,F8.out.as (fun _ _ m h=> ⟨m.box h.1 (by simp;omega),h.2.mod m (fun j hj=> by have:=F4.out.p.ne;simp at hj;omega)⟩) ⟨F8.out.p.q.1,HasS.mk F8.out.p.q.2 HasB.nil_ HasB.nil_⟩,Lib.hid ⟨((E5.out.trans Nw6.out.1 (Nat.le_refl _)).trans Ew7.out (Nat.le_refl _)).trans Ew8.out (Nat.le_refl _),?_⟩,Lib.hid fun h=> ?_⟩
      · rw [toksS]
        simp only [W_cons,W_app,W_nil,cw_w,cw_g,cw_n,List.length_cons,List.length_nil,w_let]
        simp
        have:=W_0 (e:=1) x 1
        omega
      · rw [okS]
        exact ⟨Nw6.out.2 (Ew7.out.some (Ew8.out.some h)),Nw8.out h⟩
    · have s1:(tx==[108,101,116])=false:=by simpa using h1
      clear h1
      by_cases h2:tx=[100,101,108]
      · have s2:(tx==[100,101,108])=true:=by simpa using h2
        obtain ⟨i0,⟨⟨g1,g2⟩,hi0⟩,F5,E5,hl5⟩:=Fr.pass F4 (s:=[100,101,108]) (by simp) (HTX.out.trans h2)
        generalize adv σ=σ5 at *
        clear h2 HTX
        obtain ⟨c0,f0⟩:=F5.out.p.cf 0 rfl
        go_wp2_with fail
        refine (Fr.name (F5.out.set 0 (nv 4) hms rfl)).mono ?_;rintro e w6 ⟨rfl,F6⟩
        have Nw6:=Lib.hid (Eat.name σ5)
        generalize nameS σ5=nm at *
        generalize nmA σ5=σ6 at *
        obtain ⟨c1,f1⟩:=F6.out.p.cf 2 rfl
        go_wp2_with fail
        have F7:=F6.out.set 2 (sv nm) hms rfl
        refine (Fr.arg1 (rkey_any F7.out.s) F7 hms rfl).mono ?_;rintro e w8 ⟨ek,evk,evn,evs,enm,ecc,eo,eA,em,ec,ep,eq,er,σ8,x,rfl,⟨⟨c5,f5⟩,hb8⟩,F8,Ew8,Nw8⟩
        go_wp2_with fail
        go_meet
        refine ⟨true,rfl,4,[],nm,[],0,_,1,1,none,0,0,none,0,0,pp,pq,pr,.del nm x,σ8,_,F8.out.as (fun _ _ m h=> ⟨m.box h.1 (by simp;omega),h.2.mod m (fun j hj=> by have:=F4.out.p.ne;simp at hj;omega)⟩) ⟨F8.out.p.q.1,HasS.mk F8.out.p.q.2 HasB.nil_ HasB.nil_⟩,Lib.hid ⟨(E5.out.trans Nw6.out.1 (Nat.le_refl _)).trans Ew8.out (Nat.le_refl _),?_⟩,Lib.hid fun h=> ?_⟩
        · rw [toksS]
          simp only [W_cons,W_app,W_nil,cw_w,cw_g,cw_n,List.length_cons,List.length_nil,w_del]
          simp
          have:=W_0 (e:=1) x 0
          omega
        · rw [okS]
          exact ⟨Nw6.out.2 (Ew8.out.some h),Nw8.out h⟩
      · have s2:(tx==[100,101,108])=false:=by simpa using h2
        clear h2
        by_cases h3:tx=[105,102]
        · have s3:(tx==[105,102])=true:=by simpa using h3
          obtain ⟨i0,⟨⟨g1,g2⟩,hi0⟩,F5,E5,hl5⟩:=Fr.pass F4 (s:=[105,102]) (by simp) (HTX.out.trans h3)
          generalize adv σ=σ5 at *
          clear h3 HTX
          obtain ⟨c0,f0⟩:=F5.out.p.cf 0 rfl
          have F6:=F5.out.set 0 (nv 5) hms rfl
          go_wp2_with fail
          refine (Fr.arg1 (rexpr_any F6.out.s) F6 hms rfl).mono ?_;rintro e w7 ⟨ek,evk,evn,evs,enm,ecc,eo,eA,em,ec,ep,eq,er,σ7,x,rfl,⟨⟨c5,f5⟩,hb8⟩,F7,Ew7,Nw7⟩
          go_wp2_with fail
          have T7:=E5.out.trans Ew7.out (Nat.le_refl _)
          have hf:lenS σ7 < f:=by have:=T7.lenS (by omega);omega
          refine (Fr.blk HB.out F7 hms 6 rfl hf).mono ?_;rintro e w8 ⟨B,nb,cb,body,σ8,rfl,⟨⟨c6,f6⟩,hb8'⟩,F8,E8,N8⟩
          have T8:=T7.trans E8.out (Nat.le_refl _)
          go_wp2_with fail
          refine (Fr.take F8 [101,108,115,101] (by simp)).mono ?_;rintro e w9 ⟨rfl,F9⟩
          have hxx:=W_0 (e:=1) x 1
          cases hk:takeB σ8 [101,108,115,101]with
          | true=>
            have E9:=Lib.hid (Eat.take (σ:=σ8) (s:=[101,108,115,101]) (by simp) hk)
            generalize takeS σ8 [101,108,115,101]=σ9 at *
            clear hk
            go_wp2_with fail
            have T9:=T8.trans E9.out (Nat.le_refl _)
            have hf:lenS σ9 < f:=by have:=T9.lenS (by omega);omega
            refine (Fr.blk HB.out F9 hms 7 rfl hf).mono ?_;rintro e wA ⟨B2,nb2,cb2,els,σA,rfl,⟨⟨c7,f7⟩,hbA⟩,FA,EA,NA⟩
            have k8:σA≠none→σ8≠none:=fun h=> E9.out.some (EA.out.some h)
            go_wp2_with fail
            go_meet
            refine ⟨false,rfl,5,[],[],[],0,_,1,1,B,nb,cb,B2,nb2,cb2,pp,pq,pr,.if_ x body els,σA,_,FA.out.as (fun _ _ m h=> ⟨m.box h.1 (by simp;omega),h.2.mod m (fun j hj=> by have:=F4.out.p.ne;simp at hj;omega)⟩) ⟨FA.out.p.q.1.1.1,HasS.mk (FA.out.p.q.1.1.2.imp fun h=> E8.out.some (k8 h)) (FA.out.p.q.1.2.imp k8) FA.out.p.q.2⟩,Lib.hid ⟨T9.trans EA.out (Nat.le_refl _),?_⟩,Lib.hid fun h=> ?_⟩
            · rw [toksS]
              simp only [W_cons,W_app,W_nil,cw_w,cw_g,cw_n,List.length_cons,List.length_nil,w_if]
              simp
              have:=W_els (e:=1) els (toksB els)

              omega
            · rw [okS]
              exact ⟨Nw7.out (E8.out.some (k8 h)),N8.out (k8 h),NA.out h⟩
          | false=>
            rw [takeS_no hk]at F9
            clear hk
            go_wp2_with fail
            go_meet
            refine ⟨false,rfl,5,[],[],[],0,_,1,1,B,nb,cb,none,0,0,pp,pq,pr,.if_ x body .nil,σ8,_,F9.out.as (fun _ _ m h=> ⟨m.box h.1 (by simp;omega),h.2.mod m (fun j hj=> by have:=F4.out.p.ne;simp at hj;omega)⟩) ⟨F9.out.p.q.1.1,HasS.mk (F9.out.p.q.1.2.imp E8.out.some) F9.out.p.q.2 HasB.nil_⟩,Lib.hid ⟨T8,?_⟩,Lib.hid fun h=> ?_⟩
            · rw [toksS]
              simp only [W_cons,W_app,W_nil,cw_w,cw_g,cw_n,List.length_cons,List.length_nil,w_if]
              simp
              simp [elsT,W_nil]
              omega
            · rw [okS]
              exact ⟨Nw7.out (E8.out.some h),N8.out h,trivial,by simp [Sts.len]⟩
        · have s3:(tx==[105,102])=false:=by simpa using h3
          clear h3
          by_cases h4:tx=[108,111,111,112]
          · have s4:(tx==[108,111,111,112])=true:=by simpa using h4
            obtain ⟨i0,⟨⟨g1,g2⟩,hi0⟩,F5,E5,hl5⟩:=Fr.pass F4 (s:=[108,111,111,112]) (by simp) (HTX.out.trans h4)
            generalize adv σ=σ5 at *
            clear h4 HTX
            obtain ⟨c0,f0⟩:=F5.out.p.cf 0 rfl
            have F6:=F5.out.set 0 (nv 6) hms rfl
            go_wp2_with fail
            refine (Fr.num F6).mono ?_;rintro e w7 ⟨rfl,F7⟩
            have N7:=Lib.hid (Eat.num F6.out.s)
            generalize nnS σ5=n at *
            generalize numA σ5=σ7 at *
            obtain ⟨c1,f1⟩:=F7.out.p.cf 4 rfl
            go_wp2_with fail
            refine (Fr.name (F7.out.set 4 (nv n) hms rfl)).mono ?_;rintro e w8 ⟨rfl,F8⟩
            have Nw8:=Lib.hid (Eat.name σ7)
            generalize nameS σ7=nm at *
            generalize nmA σ7=σ8 at *
            obtain ⟨c2,f2⟩:=F8.out.p.cf 1 rfl
            go_wp2_with fail
            have F9:=F8.out.set 1 (sv nm) hms rfl
            have T:=(E5.out.trans N7.out.1 (Nat.le_refl _)).trans Nw8.out.1 (Nat.le_refl _)
            have hf:lenS σ8 < f:=by have:=T.lenS (by omega);omega
            refine (Fr.blk HB.out F9 hms 6 rfl hf).mono ?_;rintro e wA ⟨B,nb,cb,body,σA,rfl,⟨⟨c6,f6⟩,hbA⟩,FA,EA,NA⟩
            go_wp2_with fail
            go_meet
            refine ⟨false,rfl,6,nm,[],[],n,none,0,0,B,nb,cb,none,0,0,pp,pq,pr,.loop n nm body,σA,_,FA.out.as (fun _ _ m h=> ⟨m.box h.1 (by simp;omega),h.2.mod m (fun j hj=> by have:=F4.out.p.ne;simp at hj;omega)⟩) ⟨FA.out.p.q.1,HasS.mk (G:=σA≠none) HasX.nil_ FA.out.p.q.2 HasB.nil_⟩,Lib.hid ⟨T.trans EA.out (Nat.le_refl _),?_⟩,Lib.hid fun h=> ?_⟩
            · rw [toksS]
              simp only [W_cons,W_app,W_nil,cw_w,cw_g,cw_n,List.length_cons,List.length_nil,w_loop]
              simp
              omega
            · rw [okS]
              have h8:=EA.out.some h
              exact ⟨N7.out.2 (Nw8.out.1.some h8),Nw8.out.2 h8,NA.out h⟩
          · have s4:(tx==[108,111,111,112])=false:=by simpa using h4
            clear h4
            by_cases h5:tx=[101,97,99,104]
            · have s5:(tx==[101,97,99,104])=true:=by simpa using h5
              go_wp2_with fail
              refine (f_each f HB.out σ w4 g b pp pq pr F4.out.s F4.out.p.ne F4.out.p.x (HTX.out.trans h5) (by omega)).mono ?_;rintro e w5 ⟨rfl,k,nm,tt,cc,n,A,m,c,B,mb,d,E,me,ff,p,q,z,s,σ5,x,G,H,N⟩
              have F5:=F4.out.call G.out hms
              have hb4:=(Array.getElem?_eq_some_iff.1 F4.out.p.x).1
              clear F4 h5 HTX
              go_wp2_with fail
              go_meet
              exact ⟨false,rfl,k,nm,tt,cc,n,A,m,c,B,mb,d,E,me,ff,p,q,z,s,σ5,x,F5.out.as (fun _ _ m h=> ⟨m.box h.1 (by simp;omega),h.2.mod m (fun j hj=> by have:=F5.out.p.ne;simp at hj;omega)⟩) ⟨F5.out.p.q.1,F5.out.p.q.2.2⟩,H,N⟩
            · have s5:(tx==[101,97,99,104])=false:=by simpa using h5
              clear h5
              by_cases h6:tx=[114,111,108,108,98,97,99,107]
              · have s6:(tx==[114,111,108,108,98,97,99,107])=true:=by simpa using h6
                obtain ⟨i0,⟨⟨g1,g2⟩,hi0⟩,F5,E5,hl5⟩:=Fr.pass F4 (s:=[114,111,108,108,98,97,99,107]) (by simp) (HTX.out.trans h6)
                generalize adv σ=σ5 at *
                clear h6 HTX
                obtain ⟨c0,f0⟩:=F5.out.p.cf 0 rfl
                have F6:=F5.out.set 0 (nv 8) hms rfl
                go_wp2_with fail
                go_meet
                refine ⟨true,rfl,8,[],[],[],0,none,0,0,none,0,0,none,0,0,pp,pq,pr,.roll,σ5,_,F6.out.as (fun _ _ m h=> ⟨m.box h.1 (by simp;omega),h.2.mod m (fun j hj=> by have:=F4.out.p.ne;simp at hj;omega)⟩) ⟨F6.out.p.q,HasS.mk (G:=σ5≠none) HasX.nil_ HasB.nil_ HasB.nil_⟩,Lib.hid ⟨E5.out,?_⟩,Lib.hid fun h=> ?_⟩
                · rw [toksS]
                  simp only [W_cons,W_app,W_nil,cw_w,cw_g,cw_n,List.length_cons,List.length_nil,w_rollback]
                  simp
                · rw [okS]
                  trivial
              · have s6:(tx==[114,111,108,108,98,97,99,107])=false:=by simpa using h6
                clear h6
                by_cases h7:tx=[101,109,105,116]
                · have s7:(tx==[101,109,105,116])=true:=by simpa using h7
                  obtain ⟨i0,⟨⟨g1,g2⟩,hi0⟩,F5,E5,hl5⟩:=Fr.pass F4 (s:=[101,109,105,116]) (by simp) (HTX.out.trans h7)
                  generalize adv σ=σ5 at *
                  clear h7 HTX
                  obtain ⟨c0,f0⟩:=F5.out.p.cf 0 rfl
                  have F6:=F5.out.set 0 (nv 9) hms rfl
                  go_wp2_with fail
                  refine (Fr.arg1 (rexpr_any F6.out.s) F6 hms rfl).mono ?_;rintro e w8 ⟨ek,evk,evn,evs,enm,ecc,eo,eA,em,ec,ep,eq,er,σ8,x,rfl,⟨⟨c5,f5⟩,hb8⟩,F8,Ew8,Nw8⟩
                  go_wp2_with fail
                  go_meet
                  refine ⟨true,rfl,9,[],[],[],0,_,1,1,none,0,0,none,0,0,pp,pq,pr,.emit x,σ8,_,F8.out.as (fun _ _ m h=> ⟨m.box h.1 (by simp;omega),h.2.mod m (fun j hj=> by have:=F4.out.p.ne;simp at hj;omega)⟩) ⟨F8.out.p.q.1,HasS.mk F8.out.p.q.2 HasB.nil_ HasB.nil_⟩,Lib.hid ⟨E5.out.trans Ew8.out (Nat.le_refl _),?_⟩,Lib.hid fun h=> ?_⟩
                  · rw [toksS]
                    simp only [W_cons,W_app,W_nil,cw_w,cw_g,cw_n,List.length_cons,List.length_nil,w_emit]
                    simp
                    have:=W_0 (e:=1) x 1
                    omega
                  · rw [okS]
                    exact Nw8.out h
                · have s7:(tx==[101,109,105,116])=false:=by simpa using h7
                  clear h7
                  go_wp2_with fail
                  refine (f_assign σ w4 g b pp pq pr F4.out.s F4.out.p.ne F4.out.p.x).mono ?_;rintro e w5 ⟨rfl,k,nm,tt,cc,n,A,m,c,B,mb,d,E,me,ff,p,q,z,s,σ5,x,G,H,N⟩
                  have F5:=F4.out.call G.out hms
                  clear F4 HTX
                  go_wp2_with fail
                  go_meet
                  exact ⟨true,rfl,k,nm,tt,cc,n,A,m,c,B,mb,d,E,me,ff,p,q,z,s,σ5,x,F5.out.as (fun _ _ m h=> ⟨m.box h.1 (by simp;omega),h.2.mod m (fun j hj=> by have:=F5.out.p.ne;simp at hj;omega)⟩) ⟨F5.out.p.q.1,F5.out.p.q.2.2⟩,H,N⟩
end Go.Proofs.YtnbmpfdffoidaaaGreatDoor.Y
