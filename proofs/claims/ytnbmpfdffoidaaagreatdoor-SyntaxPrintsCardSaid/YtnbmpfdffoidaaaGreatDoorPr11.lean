/- Texts of the proof, joined: RfE, SchedZ, SynExpr, SynUn, SynKey, SynRow. -/
import Derived.Test.YtnbmpfdffoidaaaGreatDoorPr03
import Derived.Test.YtnbmpfdffoidaaaGreatDoorPr04
import Derived.Test.YtnbmpfdffoidaaaGreatDoorPr10
set_option linter.unusedVariables false
set_option linter.unusedSimpArgs false
set_option maxHeartbeats 8000000
set_option maxRecDepth 100000
namespace Go.Proofs.YtnbmpfdffoidaaaGreatDoor.Y
open Go.RowKit O V S X
def lenF (w:World)(g:Nat):Nat:=match w.cell? ⟨g,0,none⟩with
 | some (.slice _ n _)=> if (w.cell? ⟨g,3,none⟩).map intOf=some 0 then n - (((w.cell? ⟨g,1,none⟩).map intOf).getD 0).toNat else 0
 | _=> 0
theorem ST.lenF {w:World}{g:Nat}{σ:Sg}(h:ST w g σ):lenF w g=lenS σ:=by
 match σ,h with
 | none,⟨A,n,c,L,d,e,a,b,x,p,q,r,he,h⟩=>
  obtain ⟨⟨⟨x0,x1⟩,x2,x3⟩,_⟩:=cells10 h.box
  unfold Y.lenF
  rw [x0]
  simp only
  rw [x3,if_neg (by simp [intOf,he])]
  rfl
 | some (d,l),⟨A,n,c,L,i,a,b,x,p,q,r,⟨hl,hi,hd⟩,h⟩=>
  have hn:=h.row.len
  obtain ⟨⟨⟨x0,x1⟩,x2,x3⟩,_⟩:=cells10 h.box
  unfold Y.lenF
  rw [x0]
  simp only
  rw [x3,x1,if_pos (by simp [intOf])]
  simp [lenS,hl,intOf]
  omega
theorem f_binds (op:Nat)(h:op≤12)(w:World):Calls Tryz.prog 124 #[nv op] w fun e w'=> e= .returned (nv (lvlS op:Nat))∧w'=w:=by
 rcases Nat.eq_zero_or_pos op with rfl | hp
 ·go_enter Tryz.func124,Tryz.ntmps124
  go_wp2_with fail
  go_ret
  exact ⟨rfl,rfl⟩
 ·exact binds_any op ⟨hp,h⟩ w
theorem opS_le (σ:Sg):opS σ≤12:=by
 unfold opS
 split
 ·rename_i t l
  split
  ·by_cases h: ∃op,(1≤op∧op≤12)∧signS op=t.2.1
   ·obtain ⟨op,h1,h2⟩:=h
    rw [← h2,f_bsign h1]
    exact h1.2
   ·rw [f_bnone fun op h1 h2 e=> h ⟨op,⟨h1,h2⟩,e⟩]
    exact Nat.zero_le _
  ·omega
 ·omega
theorem opS_pos {σ:Sg}(h:1≤opS σ): ∃d t l,σ=some (d,t::l)∧cw 1 t=(signS (opS σ)).length+1:=by
 have hle:=opS_le σ
 match σ,h,hle with
 | some (d,t::l),h,hle=>
  by_cases h4:t.1=4
  ·have e:opS (some (d,t::l))=(binS t.2.1).1:=by simp [opS,h4]
   rw [e]at h hle⊢
   have:=binS_inv t.2.1 rfl ⟨h,hle⟩
   refine ⟨d,t,l,rfl,?_⟩
   rw [← this]
   unfold cw
   rw [if_neg (by omega)]
  ·simp [opS,h4]at h
theorem ExAt.two {w:World}{S S':Nat→Prop}{x y z:Ex}{A:Option Addr}{c b:Nat}{p q r:Int}{A':Option Addr}{c':Nat}{p' q' r':Int}{T:TypeId}(h:ExAt w S y A c)(h':ExAt w S' z A' c')(hb:w.heap[b]? =some (.cells (exC y (.slice A (parts y).length c) p q r ++exC z (.slice A' (parts z).length c') p' q' r').toArray T (0,0)))(hx:parts x=[y,z]):
  ExAt w (fun k=> (S k∨S' k)∨k=b) x (some ⟨b,0,none⟩) 2:=by
 refine ⟨⟨exC y (.slice A (parts y).length c) p q r ++exC z (.slice A' (parts z).length c') p' q' r',?_,?_⟩⟩
 ·rw [hx]
  exact Row.of_block hb (.inr rfl) rfl (by simp) (by simp)
 ·rw [hx]
  exact ⟨_,_,rfl,ExR.mono (fun k hk=> .inl (.inl hk)) y _ (h.r p q r),_,[],(List.append_nil _).symm,ExR.mono (fun k hk=> .inl (.inr hk)) z _ (h'.r p' q' r'),rfl⟩
theorem XO.keep {lvl lvl' more:Nat}{σ σ':Sg}{w w' wz w0:World}{V:Value}(h:XO lvl more σ σ' w w' V)(hl:lvl'≤lvl)(hw:w0.heap.size≤w.heap.size)(hz:w'.heap.size≤wz.heap.size)(hk: ∀b,w.heap.size≤b→b < w'.heap.size→wz.heap[b]? =w'.heap[b]?):XO lvl' more σ σ' w0 wz V:=by
 match σ',h with
 | none,_=> trivial
 | some (d',r'),⟨d,l,x,A',c',p',q',z',S',⟨e5,e6,hl2⟩,⟨e7,hat,hin⟩,hok,hW⟩=>
  refine ⟨d,l,x,A',c',p',q',z',S',⟨e5,e6,hl2⟩,⟨e7,hat.keep fun b hb=> hk b (hin b hb).1 (hin b hb).2,fun b hb=> ⟨by have:=(hin b hb).1;omega,by have:=(hin b hb).2;omega⟩⟩,hok,?_⟩
  have:=W_br_mono (e:=1) x hl (toks0 x)
  simp only [toksX]at hW this⊢
  omega
def XE (lvl:Nat)(σ σ':Sg)(lo bx:Nat)(w':World)(V:Value):Prop:=match σ' with
 | none=> True
 | some (d',r)=> ∃(d:Nat) (l:List Tok) (x:Ex) (A:Option Addr) (c:Nat) (p q z:Int) (S:Nat→Prop),(σ=some (d,l)∧d'=d∧r.length < l.length)∧(V=exX x A c p q z∧ExAt w' S x A c∧∀b,S b→(lo≤b∧b < w'.heap.size)∧b≠bx)∧okX x∧W 1 (toksX x lvl)+W 1 r≤W 1 l
theorem XO.toE {lvl lo:Nat}{σ σ':Sg}{w w' wz:World}{V:Value}(h:XO lvl 0 σ σ' w w' V)(hw:lo≤w.heap.size)(hz:w'.heap.size≤wz.heap.size)(hk: ∀b,w.heap.size≤b→b < w'.heap.size→wz.heap[b]? =w'.heap[b]?):XE lvl σ σ' lo w'.heap.size wz V:=by
 match σ',h with
 | none,_=> trivial
 | some (d',r'),⟨d,l,x,A',c',p',q',z',S',⟨e5,e6,hl2⟩,⟨e7,hat,hin⟩,hok,hW⟩=>
  exact ⟨d,l,x,A',c',p',q',z',S',⟨e5,e6,hl2⟩,⟨e7,hat.keep fun b hb=> hk b (hin b hb).1 (hin b hb).2,fun b hb=> by have:=hin b hb;omega⟩,hok,by omega⟩
theorem XE.keep {lvl lo bx:Nat}{σ σ':Sg}{w' wz:World}{V:Value}(h:XE lvl σ σ' lo bx w' V)(hz:w'.heap.size≤wz.heap.size)(hk: ∀b,lo≤b→b < w'.heap.size→b≠bx→wz.heap[b]? =w'.heap[b]?):XE lvl σ σ' lo bx wz V:=by
 match σ',h with
 | none,_=> trivial
 | some (d',r'),⟨d,l,x,A',c',p',q',z',S',⟨e5,e6,hl2⟩,⟨e7,hat,hin⟩,hok,hW⟩=>
  exact ⟨d,l,x,A',c',p',q',z',S',⟨e5,e6,hl2⟩,⟨e7,hat.keep fun b hb=> hk b (hin b hb).1.1 (hin b hb).1.2 (hin b hb).2,fun b hb=> by have:=hin b hb;omega⟩,hok,hW⟩
theorem XE.toO {lvl bx:Nat}{σ σ':Sg}{w w':World}{V:Value}(h:XE lvl σ σ' w.heap.size bx w' V):XO lvl 0 σ σ' w w' V:=by
 match σ',h with
 | none,_=> trivial
 | some (d',r'),⟨d,l,x,A',c',p',q',z',S',⟨e5,e6,hl2⟩,⟨e7,hat,hin⟩,hok,hW⟩=>
  exact ⟨d,l,x,A',c',p',q',z',S',⟨e5,e6,hl2⟩,⟨e7,hat,fun b hb=> (hin b hb).1⟩,hok,by omega⟩
theorem f_expr (f:Nat)(HU:UnaryC f)(HE:ExprC f):ExprC (f+1):=by
 intro lv σ w g hl1 hl6 h hm
 have HU:=Lib.hid HU
 have HE:=Lib.hid HE
 by_cases h5:lv=6
 ·have hli:(5:Int) < (lv:Int):=by omega
  go_enter Tryz.func152,Tryz.ntmps152
  go_upto_region 1 with fail
  have RX:Hid ((w.alloc zExO).heap[w.heap.size]? =some zExB):=Lib.hid (alloc_at rfl)
  have MW:Hid (Mod [g] w (w.alloc zExO)):=Lib.hid ((Mod.refl _ _).alloc _)
  have SW:=Lib.hid (h.next ((Below.refl _ _).alloc (Nat.le_refl _) zExO))
  have hlt:=h.lt
  obtain ⟨w1,hw1⟩: ∃W,w.alloc zExO=W:=⟨_,rfl⟩
  have hz1:w.heap.size < w1.heap.size:=by rw [← hw1];simp
  rw [hw1]at RX MW SW⊢
  clear hw1 h
  go_wp2_with fail
  refine (HU.out σ w1 g SW.out (by omega)).mono ?_;rintro e w6 ⟨V,σ3,rfl,⟨k,vk,vn,vs,nm,cc,o,A,m,c,p,q,r,rfl⟩,h3,m3,hx⟩
  have HX:=Lib.hid hx
  replace RX:=Lib.hid (m3.box RX.out (by simp;omega))
  replace MW:=Lib.hid (MW.out.then m3)
  replace SW:=Lib.hid h3
  have hz6:=m3.size
  clear hx h3 m3
  obtain ⟨⟨⟨⟨z0,z1⟩,z2,z3⟩,⟨z4,z5⟩,z6,z7⟩,⟨z8,z9⟩,z10⟩:=cells11 RX.out
  obtain ⟨⟨⟨⟨v0,v1⟩,v2,v3⟩,⟨v4,v5⟩,v6,v7⟩,⟨v8,v9⟩,v10⟩:=frozen11 RX.out
  go_wp2_with fail
  clear z0 z1 z2 z3 z4 z5 z6 z7 z8 z9 z10 v0 v1 v2 v3 v4 v5 v6 v7 v8 v9 v10
  have X3:=set11_box (u0:=nv k) (u1:=nv vk) (u2:=nv vn) (u3:=sv vs) (u4:=sv nm) (u5:=sv cc) (u6:=nv o) (u7:= .slice A m c) (u8:=nv p) (u9:=nv q) (u10:=nv r) (vs:=[nv 0,nv 0,nv 0,sv [],sv [],sv [],nv 0,.slice none 0 0,nv 0,nv 0,nv 0]) RX.out rfl
  have M3:=set11_mod (w:=w6) (b:=w.heap.size) (u0:=nv k) (u1:=nv vk) (u2:=nv vn) (u3:=sv vs) (u4:=sv nm) (u5:=sv cc) (u6:=nv o) (u7:= .slice A m c) (u8:=nv p) (u9:=nv q) (u10:=nv r)
  have O3:=fun (j:Nat) (hj:j≠w.heap.size)=> set11_other (w:=w6) (u0:=nv k) (u1:=nv vk) (u2:=nv vn) (u3:=sv vs) (u4:=sv nm) (u5:=sv cc) (u6:=nv o) (u7:= .slice A m c) (u8:=nv p) (u9:=nv q) (u10:=nv r) hj
  obtain ⟨wz,hwz⟩: ∃W,set11 w6 w.heap.size (nv k) (nv vk) (nv vn) (sv vs) (sv nm) (sv cc) (nv o) (.slice A m c) (nv p) (nv q) (nv r)=W:=⟨_,rfl⟩
  rw [hwz]at X3 M3 O3
  unfold set11 at hwz
  rw [hwz]
  clear hwz
  obtain ⟨⟨⟨⟨y0,y1⟩,y2,y3⟩,⟨y4,y5⟩,y6,y7⟩,⟨y8,y9⟩,y10⟩:=cells11 X3
  refine bodyPost_ret (v:=exVal k vk vn vs nm cc o (.slice A m c) p q r) (by simp [results,Tryz.results152,go_sem,y0,y1,y2,y3,y4,y5,y6,y7,y8,y9,y10]) rfl ?_
  exact ⟨_,_,rfl,⟨k,vk,vn,vs,nm,cc,o,A,m,c,p,q,r,rfl⟩,SW.out.keep (fun j hj=> O3 j (by omega)),MW.out.trans M3 (fun x hx=> .inr (by simp at hx;omega)),HX.out.keep (by omega) (by omega) M3.size (fun b h1 h2=> O3 b (by omega))⟩
 ·have hli: ¬(5:Int) < (lv:Int):=by omega
  have hl5:lv≤5:=by omega
  obtain ⟨lv1,hlv1⟩: ∃x,x=lv+1:=⟨_,rfl⟩
  go_enter Tryz.func152,Tryz.ntmps152
  go_upto_region 1 with fail
  have RX:Hid ((w.alloc zExO).heap[w.heap.size]? =some zExB):=Lib.hid (alloc_at rfl)
  have MW:Hid (Mod [g] w (w.alloc zExO)):=Lib.hid ((Mod.refl _ _).alloc _)
  have SW:=Lib.hid (h.next ((Below.refl _ _).alloc (Nat.le_refl _) zExO))
  have hlt:=h.lt
  obtain ⟨w1,hw1⟩: ∃W,w.alloc zExO=W:=⟨_,rfl⟩
  have hz1:w.heap.size < w1.heap.size:=by rw [← hw1];simp
  rw [hw1]at RX MW SW⊢
  clear hw1 h
  go_wp2_with fail
  rw [show (lv:Int)+1=(lv1:Int) by omega]
  refine (HE.out lv1 σ w1 g (by omega) (by omega) SW.out (by omega)).mono ?_;rintro e w2 ⟨V,σ2,rfl,⟨k,vk,vn,vs,nm,cc,o,A,m,c,p,q,r,rfl⟩,h2,m2,hx⟩
  have HX:=Lib.hid hx
  replace RX:=Lib.hid (m2.box RX.out (by simp;omega))
  replace MW:=Lib.hid (MW.out.then m2)
  replace SW:=Lib.hid h2
  have hz2:=m2.size
  clear hx h2 m2
  go_upto_region 4 with fail
  have BX:Hid ((w2.alloc (exO k vk vn vs nm cc o (.slice A m c) p q r)).heap[w2.heap.size]? =some (exB k vk vn vs nm cc o (.slice A m c) p q r)):=Lib.hid (alloc_at rfl)
  replace RX:=Lib.hid (box_next RX.out (one_new (o:=exO k vk vn vs nm cc o (.slice A m c) p q r)))
  replace MW:=Lib.hid (MW.out.alloc (exO k vk vn vs nm cc o (.slice A m c) p q r))
  replace SW:=Lib.hid (SW.out.next (one_new (o:=exO k vk vn vs nm cc o (.slice A m c) p q r)))
  have HX0:Hid (XE lv σ σ2 w1.heap.size w2.heap.size (w2.alloc (exO k vk vn vs nm cc o (.slice A m c) p q r)) (exVal k vk vn vs nm cc o (.slice A m c) p q r)):=Lib.hid ((HX.out.keep (wz:=w2) (w0:=w1) (lvl':=lv) (by omega) (Nat.le_refl _) (Nat.le_refl _) (fun _ _ _=> rfl)).toE (by omega) (by simp) (fun b h1 h2=> one_new.block b h2))
  obtain ⟨w3,hw3⟩: ∃W,w2.alloc (exO k vk vn vs nm cc o (.slice A m c) p q r)=W:=⟨_,rfl⟩
  have hz3:w2.heap.size < w3.heap.size:=by rw [← hw3];simp
  rw [hw3]at BX RX MW SW HX0
  rw [hw3]
  clear hw3 HX
  go_loopw [] (fun wr=> ∃(σr:Sg) (k vk vn:Int) (vs nm cc:List UInt8) (o:Int) (A:Option Addr) (m c:Nat) (p q r:Int),Hid (wr.heap[w2.heap.size]? =some (exB k vk vn vs nm cc o (.slice A m c) p q r))∧Hid (wr.heap[w.heap.size]? =some zExB)∧Hid (Mod [g] w wr)∧Hid (ST wr g σr)∧Hid (XE lv σ σr w1.heap.size w2.heap.size wr (exVal k vk vn vs nm cc o (.slice A m c) p q r))) (fun wr=> lenF wr g)
  case atStart=> exact ⟨σ2,k,vk,vn,vs,nm,cc,o,A,m,c,p,q,r,BX,RX,MW,SW,HX0⟩
  case round=>
   clear BX RX MW SW HX0
   obtain ⟨σr,k,vk,vn,vs,nm,cc,o,A,m,c,p,q,r,BX,RX,MW,SW,HX⟩:=hrel
   have hzr:=MW.out.size
   have hbr:w2.heap.size < wr.heap.size:=(Array.getElem?_eq_some_iff.1 BX.out).1
   cases σr with
   | none=>
    obtain ⟨PA,pn,pc,iv,dv,ev,pa,pb,px,py,pz,pw,hbox,hev,hdec⟩:=SW.out.box
    obtain ⟨⟨⟨c0,c1⟩,c2,c3⟩,⟨⟨c4,c5⟩,c6,c7⟩,c8,c9⟩:=cells10 hbox
    clear hdec hbox
    have d0:(ev==0)=false:=by have:=hev.1 rfl;simpa using this
    clear hev
    go_upto_region 9 with fail
    clear c0 c1 c2 c3 c4 c5 c6 c7 c8 c9
    obtain ⟨⟨⟨⟨x0,x1⟩,x2,x3⟩,⟨x4,x5⟩,x6,x7⟩,⟨x8,x9⟩,x10⟩:=cells11 BX.out
    obtain ⟨⟨⟨⟨z0,z1⟩,z2,z3⟩,⟨z4,z5⟩,z6,z7⟩,⟨z8,z9⟩,z10⟩:=cells11 RX.out
    obtain ⟨⟨⟨⟨v0,v1⟩,v2,v3⟩,⟨v4,v5⟩,v6,v7⟩,⟨v8,v9⟩,v10⟩:=frozen11 RX.out
    go_wp2_with fail
    clear z0 z1 z2 z3 z4 z5 z6 z7 z8 z9 z10 v0 v1 v2 v3 v4 v5 v6 v7 v8 v9 v10
    have X3:=set11_box (u0:=nv k) (u1:=nv vk) (u2:=nv vn) (u3:=sv vs) (u4:=sv nm) (u5:=sv cc) (u6:=nv o) (u7:= .slice A m c) (u8:=nv p) (u9:=nv q) (u10:=nv r) (vs:=[nv 0,nv 0,nv 0,sv [],sv [],sv [],nv 0,.slice none 0 0,nv 0,nv 0,nv 0]) RX.out rfl
    have M3:=set11_mod (w:=wr) (b:=w.heap.size) (u0:=nv k) (u1:=nv vk) (u2:=nv vn) (u3:=sv vs) (u4:=sv nm) (u5:=sv cc) (u6:=nv o) (u7:= .slice A m c) (u8:=nv p) (u9:=nv q) (u10:=nv r)
    have O3:=fun (j:Nat) (hj:j≠w.heap.size)=> set11_other (w:=wr) (u0:=nv k) (u1:=nv vk) (u2:=nv vn) (u3:=sv vs) (u4:=sv nm) (u5:=sv cc) (u6:=nv o) (u7:= .slice A m c) (u8:=nv p) (u9:=nv q) (u10:=nv r) hj
    obtain ⟨wz,hwz⟩: ∃W,set11 wr w.heap.size (nv k) (nv vk) (nv vn) (sv vs) (sv nm) (sv cc) (nv o) (.slice A m c) (nv p) (nv q) (nv r)=W:=⟨_,rfl⟩
    rw [hwz]at X3 M3 O3
    unfold set11 at hwz
    rw [hwz]
    clear hwz
    obtain ⟨⟨⟨⟨y0,y1⟩,y2,y3⟩,⟨y4,y5⟩,y6,y7⟩,⟨y8,y9⟩,y10⟩:=cells11 X3
    refine bodyPost_ret (v:=exVal k vk vn vs nm cc o (.slice A m c) p q r) (by simp [results,Tryz.results152,go_sem,y0,y1,y2,y3,y4,y5,y6,y7,y8,y9,y10]) rfl ?_
    exact ⟨_,_,rfl,⟨k,vk,vn,vs,nm,cc,o,A,m,c,p,q,r,rfl⟩,SW.out.keep (fun j hj=> O3 j (by omega)),MW.out.trans M3 (fun x hx=> .inr (by simp at hx;omega)),(XE.toO (w:=w1) HX.out).keep (Nat.le_refl _) (by omega) M3.size (fun b h1 h2=> O3 b (by omega))⟩
   | some y=>
    obtain ⟨d,lr⟩:=y
    obtain ⟨PA,pn,pc,iv,dv,ev,pa,pb,px,py,pz,pw,hbox,hev,hdec⟩:=SW.out.box
    obtain ⟨⟨⟨c0,c1⟩,c2,c3⟩,⟨⟨c4,c5⟩,c6,c7⟩,c8,c9⟩:=cells10 hbox
    clear hdec hbox
    obtain rfl:ev=0:=hev.2 (by simp)
    clear hev
    have hlfr:lenF wr g=lr.length:=SW.out.lenF
    obtain ⟨op,hop⟩: ∃n,opS (some (d,lr))=n:=⟨_,rfl⟩
    have hle:op≤12:=by rw [← hop];exact opS_le _
    go_wp2_with fail
    refine (f_op g _ wr SW.out).mono ?_;rintro e w4 ⟨rfl,b4⟩
    rw [hop]
    replace BX:=Lib.hid (box_next BX.out b4)
    replace RX:=Lib.hid (box_next RX.out b4)
    replace MW:=Lib.hid (MW.out.then (.of_below b4))
    replace SW:=Lib.hid (SW.out.next b4)
    replace HX:=Lib.hid (HX.out.keep b4.size (fun b _ h _=> b4.block b h))
    have hz4:=b4.size
    clear b4
    clear c0 c1 c2 c3 c4 c5 c6 c7 c8 c9
    go_wp2_with fail
    refine (f_binds op hle _).mono ?_;rintro e w5 ⟨rfl,rfl⟩
    obtain ⟨w4,hw45⟩: ∃W,W=w5:=⟨_,rfl⟩
    subst hw45
    by_cases hb:lvlS op=lv
    ·have d1:(((lvlS op:Nat):Int)==(lv:Int))=true:=by rw [hb];simp
     have h1op:1≤op:=by
      rcases Nat.eq_zero_or_pos op with h0 | h0
      ·rw [h0]at hb
       have:lvlS 0=0:=rfl
       omega
      ·exact h0
     have hpos:=opS_pos (σ:=some (d,lr)) (by rw [hop];exact h1op)
     obtain ⟨d',t,l',e1,hcw⟩:=hpos
     injection e1 with e1
     injection e1 with e1 e2
     subst e1 e2
     rw [hop]at hcw
     have hms:10 * l'.length+10≤f:=by
      obtain ⟨_,l,_,_,_,_,_,_,_,⟨e5,_,hl2⟩,_⟩:=HX.out
      rw [e5]at hm
      simp [lenS]at hm hl2
      omega
     have hlf:lenF wr g=l'.length+1:=hlfr
     go_wp2_with fail
     refine (f_op g _ w4 SW.out).mono ?_;rintro e w6 ⟨rfl,b6⟩
     rw [hop]
     replace BX:=Lib.hid (box_next BX.out b6)
     replace RX:=Lib.hid (box_next RX.out b6)
     replace MW:=Lib.hid (MW.out.then (.of_below b6))
     replace SW:=Lib.hid (SW.out.next b6)
     replace HX:=Lib.hid (HX.out.keep b6.size (fun b _ h _=> b6.block b h))
     have hz6:=b6.size
     clear b6
     go_wp2_with fail
     refine (f_here g _ w6 SW.out).mono ?_;rintro e w7 ⟨⟨pp,pq,pr,rfl⟩,b7⟩
     replace BX:=Lib.hid (box_next BX.out b7)
     replace RX:=Lib.hid (box_next RX.out b7)
     replace MW:=Lib.hid (MW.out.then (.of_below b7))
     replace SW:=Lib.hid (SW.out.next b7)
     replace HX:=Lib.hid (HX.out.keep b7.size (fun b _ h _=> b7.block b h))
     have hz7:=b7.size
     clear b7
     go_upto_region 6 with fail
     obtain ⟨w8,hw8⟩: ∃W,w7.alloc (exO 8 0 0 [] [] [] op (.slice none 0 0) pp pq pr)=W:=⟨_,rfl⟩
     have K8:Hid (Below w7.heap.size w7 w8):=Lib.hid (by rw [← hw8];exact one_new)
     have YX:Hid (w8.heap[w7.heap.size]? =some (exB 8 0 0 [] [] [] op (.slice none 0 0) pp pq pr)):=Lib.hid (by rw [← hw8];exact alloc_at rfl)
     have hz8:w7.heap.size < w8.heap.size:=by rw [← hw8];simp
     rw [hw8]
     clear hw8
     replace BX:=Lib.hid (box_next BX.out K8.out)
     replace RX:=Lib.hid (box_next RX.out K8.out)
     replace MW:=Lib.hid (MW.out.then (.of_below K8.out))
     replace SW:=Lib.hid (SW.out.next K8.out)
     have KW:Hid (∀b,b < w7.heap.size→b≠g→w8.heap[b]? =w7.heap[b]?):=Lib.hid fun b hb _=> K8.out.block b hb
     obtain ⟨QA,qn,qc,L,i,a1,b1,x1,p1,q1,r1,⟨hL,hi,hd⟩,hr⟩:=SW.out
     have hlen:=hr.len
     have hrl:=hr.row.len
     have HINC:=Lib.hid (ST.inc hL hd hr)
     obtain ⟨⟨⟨c0,c1⟩,c2,c3⟩,⟨⟨c4,c5⟩,c6,c7⟩,c8,c9⟩:=cells10 hr.box
     obtain ⟨⟨⟨g0,g1⟩,g2,g3⟩,⟨⟨g4,g5⟩,g6,g7⟩,g8,g9⟩:=frozen10 hr.box
     clear hr hL
     go_upto_region 7 with fail
     clear c0 c1 c2 c3 c4 c5 c6 c7 c8 c9 g0 g1 g2 g3 g4 g5 g6 g7 g8 g9
     obtain ⟨w9,hw9⟩: ∃W,w8.setCell ⟨g,1,none⟩ (nv ((i:Int)+1))=W:=⟨_,rfl⟩
     have K9:Hid (∀b,b≠g→w9.heap[b]? =w8.heap[b]?):=Lib.hid fun b hb=> by rw [← hw9];exact Below.heap_setCell _ _ _ _ hb
     have hz9:w9.heap.size=w8.heap.size:=by rw [← hw9];simp
     replace SW:Hid (ST w9 g (some (d,l'))):=Lib.hid (by rw [← hw9];exact HINC.out)
     replace MW:Hid (Mod [g] w w9):=Lib.hid (by rw [← hw9];exact MW.out.then (mod_set (g:=g) (i:=1) _))
     rw [hw9]
     clear hw9 HINC K8
     replace BX:=Lib.hid ((K9.out _ (by omega)).trans BX.out)
     replace RX:=Lib.hid ((K9.out _ (by omega)).trans RX.out)
     replace YX:=Lib.hid ((K9.out _ (by omega)).trans YX.out)
     replace KW:Hid (∀b,b < w7.heap.size→b≠g→w9.heap[b]? =w7.heap[b]?):=Lib.hid fun b hb hn=> (K9.out b hn).trans (KW.out b hb hn)
     clear K9
     obtain ⟨w9d,hw9d⟩: ∃W,w9.drew=W:=⟨_,rfl⟩
     have hzd:w9d.heap.size=w9.heap.size:=by rw [← hw9d];rfl
     have hhd: ∀b:Nat,w9d.heap[b]? =w9.heap[b]? :=fun b=> by rw [← hw9d];rfl
     replace SW:Hid (ST w9d g (some (d,l'))):=Lib.hid (by rw [← hw9d];exact SW.out.next (Below.refl _ _).drew)
     replace MW:Hid (Mod [g] w w9d):=Lib.hid (by rw [← hw9d];exact MW.out.drew)
     replace BX:=Lib.hid ((hhd _).trans BX.out)
     replace RX:=Lib.hid ((hhd _).trans RX.out)
     replace YX:=Lib.hid ((hhd _).trans YX.out)
     replace KW:Hid (∀b,b < w7.heap.size→b≠g→w9d.heap[b]? =w7.heap[b]?):=Lib.hid fun b hb hn=> (hhd b).trans (KW.out b hb hn)
     refine wp_region_last (l:=[_,_,_,_,_,_,_]) [w2.heap.size] (.read 0 (.read 1 (.read 2 (.read 3 (.call 4 (.call 5 (.read 6 .done))))))) (by kernel_rfl) (by kernel_rfl) (by kernel_rfl) (fun _ _ d _ _ h=> by cases d <;> exact h) ?_
     rw [hw9d]
     clear hhd hw9d
     refine pwith (fun W hW=> (cells11 ((hW w2.heap.size (by simp)).trans BX.out))) (fun qx=> ?_)
     repeat (first | (refine prE ?_;simp only [Act.put,sA,sB,sC]) | (refine pkE ?_;simp only [Act.put,sA,sB,sC]))
     refine pcall rfl rfl (fun K hK=> ?_)
     go_simp
     rw [show (lv:Int)+1=(lv1:Int) by omega,IntWalk.i64_in (lv1:Int) (by omega)]
     refine (HE.out lv1 (some (d,l')) w9d g (by omega) (by omega) SW.out (by simp [lenS];omega)).mono ?_;rintro e wa ⟨V,σ3,rfl,⟨k2,vk2,vn2,vs2,nm2,cc2,o2,A2,m2,c2,p2,q2,r2,rfl⟩,ha,ma,hx⟩
     have HZ:=Lib.hid hx
     have hza:=ma.size
     have hkb:wa.heap[w2.heap.size]? =w9d.heap[w2.heap.size]? :=ma.block w2.heap.size (by omega) (by simp;omega)
     replace BX:=Lib.hid (ma.box BX.out (by simp;omega))
     replace RX:=Lib.hid (ma.box RX.out (by simp;omega))
     replace YX:=Lib.hid (ma.box YX.out (by simp;omega))
     replace KW:Hid (∀b,b < w7.heap.size→b≠g→wa.heap[b]? =w7.heap[b]?):=Lib.hid fun b hb hn=> (ma.block b (by omega) (by simp;omega)).trans (KW.out b hb hn)
     replace MW:=Lib.hid (MW.out.then ma)
     replace SW:=Lib.hid ha
     clear hx ha ma qx
     go_wp2_with fail
     refine hK.out _ _ (fun b hb=> by simp at hb;rw [hb];exact hkb) ?_
     clear hK K hkb
     try simp only [Act.put,sA,sB,sC]
     refine pcall rfl rfl (fun K hK=> ?_)
     go_simp
     refine hK.out _ _ (fun b hb=> Below.heap_alloc _ _ _ (by simp at hb;omega)) ?_
     clear hK K
     try simp only [Act.put,sA,sB,sC]
     obtain ⟨wb,hwb⟩: ∃W,wa.alloc (.cells #[nv k,nv vk,nv vn,sv vs,sv nm,sv cc,nv o,.slice A m c,nv p,nv q,nv r,nv k2,nv vk2,nv vn2,sv vs2,sv nm2,sv cc2,nv o2,.slice A2 m2 c2,nv p2,nv q2,nv r2] 59)=W:=⟨_,rfl⟩
     have KB:Hid (Below wa.heap.size wa wb):=Lib.hid (by rw [← hwb];exact one_new)
     have AX:Hid (wb.heap[wa.heap.size]? =some (.cells #[nv k,nv vk,nv vn,sv vs,sv nm,sv cc,nv o,.slice A m c,nv p,nv q,nv r,nv k2,nv vk2,nv vn2,sv vs2,sv nm2,sv cc2,nv o2,.slice A2 m2 c2,nv p2,nv q2,nv r2] 59 (0,0))):=Lib.hid (by rw [← hwb];exact alloc_at rfl)
     have hzb:wa.heap.size < wb.heap.size:=by rw [← hwb];simp
     rw [hwb]
     clear hwb
     replace BX:=Lib.hid (box_next BX.out KB.out)
     replace RX:=Lib.hid (box_next RX.out KB.out)
     replace YX:=Lib.hid (box_next YX.out KB.out)
     replace KW:Hid (∀b,b < w7.heap.size→b≠g→wb.heap[b]? =w7.heap[b]?):=Lib.hid fun b hb hn=> (KB.out.block b (by omega)).trans (KW.out b hb hn)
     replace HZ:Hid (XO lv1 0 (some (d,l')) σ3 w9d wb (exVal k2 vk2 vn2 vs2 nm2 cc2 o2 (.slice A2 m2 c2) p2 q2 r2)):=Lib.hid (HZ.out.keep (Nat.le_refl _) (Nat.le_refl _) KB.out.size (fun b _ h2=> KB.out.block b h2))
     replace MW:=Lib.hid (MW.out.then (.of_below KB.out))
     replace SW:=Lib.hid (SW.out.next KB.out)
     repeat (first | (refine prE ?_;simp only [Act.put,sA,sB,sC]) | (refine pkE ?_;simp only [Act.put,sA,sB,sC]))
     refine pdone ?_
     refine last_step rfl (fun K hK=> ?_)
     obtain ⟨⟨⟨⟨x0,x1⟩,x2,x3⟩,⟨x4,x5⟩,x6,x7⟩,⟨x8,x9⟩,x10⟩:=cells11 YX.out
     obtain ⟨⟨⟨⟨f0,f1⟩,f2,f3⟩,⟨f4,f5⟩,f6,f7⟩,⟨f8,f9⟩,f10⟩:=frozen11 YX.out
     go_simp
     refine hK.out _ _ ?_
     clear hK K x0 x1 x2 x3 x4 x5 x6 x7 x8 x9 x10 f0 f1 f2 f3 f4 f5 f6 f7 f8 f9 f10
     obtain ⟨wc,hwc⟩: ∃W,wb.setCell ⟨w7.heap.size,7,none⟩ (.slice (some ⟨wa.heap.size,0,none⟩) 2 2)=W:=⟨_,rfl⟩
     have KC:Hid (∀b,b≠w7.heap.size→wc.heap[b]? =wb.heap[b]?):=Lib.hid fun b hb=> by rw [← hwc];exact Below.heap_setCell _ _ _ _ hb
     have hzc:wc.heap.size=wb.heap.size:=by rw [← hwc];simp
     have YC:Hid (wc.heap[w7.heap.size]? =some (exB 8 0 0 [] [] [] op (.slice (some ⟨wa.heap.size,0,none⟩) 2 2) pp pq pr)):=Lib.hid (by rw [← hwc];exact heap_set (i:=7) YX.out (.slice (some ⟨wa.heap.size,0,none⟩) 2 2))
     replace MW:Hid (Mod [g] w wc):=Lib.hid (by rw [← hwc];exact MW.out.trans (mod_set (g:=w7.heap.size) (i:=7) _) (fun x hx=> .inr (by simp at hx;omega)))
     rw [hwc]
     clear hwc YX
     replace BX:=Lib.hid ((KC.out _ (by omega)).trans BX.out)
     replace RX:=Lib.hid ((KC.out _ (by omega)).trans RX.out)
     replace AX:=Lib.hid ((KC.out _ (by omega)).trans AX.out)
     replace SW:=Lib.hid (SW.out.keep fun j hj=> KC.out j (by omega))
     obtain ⟨⟨⟨⟨x0,x1⟩,x2,x3⟩,⟨x4,x5⟩,x6,x7⟩,⟨x8,x9⟩,x10⟩:=cells11 YC.out
     obtain ⟨⟨⟨⟨z0,z1⟩,z2,z3⟩,⟨z4,z5⟩,z6,z7⟩,⟨z8,z9⟩,z10⟩:=cells11 BX.out
     obtain ⟨⟨⟨⟨v0,v1⟩,v2,v3⟩,⟨v4,v5⟩,v6,v7⟩,⟨v8,v9⟩,v10⟩:=frozen11 BX.out
     go_wp2_with fail
     clear x0 x1 x2 x3 x4 x5 x6 x7 x8 x9 x10 z0 z1 z2 z3 z4 z5 z6 z7 z8 z9 z10 v0 v1 v2 v3 v4 v5 v6 v7 v8 v9 v10
     have X3:=set11_box (u0:=nv 8) (u1:=nv 0) (u2:=nv 0) (u3:=sv []) (u4:=sv []) (u5:=sv []) (u6:=nv op) (u7:= .slice (some ⟨wa.heap.size,0,none⟩) 2 2) (u8:=nv pp) (u9:=nv pq) (u10:=nv pr) (vs:=[nv k,nv vk,nv vn,sv vs,sv nm,sv cc,nv o,.slice A m c,nv p,nv q,nv r]) BX.out rfl
     have M3:=set11_mod (w:=wc) (b:=w2.heap.size) (u0:=nv 8) (u1:=nv 0) (u2:=nv 0) (u3:=sv []) (u4:=sv []) (u5:=sv []) (u6:=nv op) (u7:= .slice (some ⟨wa.heap.size,0,none⟩) 2 2) (u8:=nv pp) (u9:=nv pq) (u10:=nv pr)
     have O3:=fun (j:Nat) (hj:j≠w2.heap.size)=> set11_other (w:=wc) (u0:=nv 8) (u1:=nv 0) (u2:=nv 0) (u3:=sv []) (u4:=sv []) (u5:=sv []) (u6:=nv op) (u7:= .slice (some ⟨wa.heap.size,0,none⟩) 2 2) (u8:=nv pp) (u9:=nv pq) (u10:=nv pr) hj
     obtain ⟨wd,hwd⟩: ∃W,set11 wc w2.heap.size (nv 8) (nv 0) (nv 0) (sv []) (sv []) (sv []) (nv op) (.slice (some ⟨wa.heap.size,0,none⟩) 2 2) (nv pp) (nv pq) (nv pr)=W:=⟨_,rfl⟩
     rw [hwd]at X3 M3 O3
     unfold set11 at hwd
     rw [hwd]
     clear hwd
     have hzz:=M3.size
     have SWd:ST wd g σ3:=SW.out.keep fun j hj=> O3 j (by omega)
     have hls:lenS σ3≤l'.length:=by
      cases σ3 with
      | none=> exact Nat.zero_le _
      | some y=>
       obtain ⟨d3,r3⟩:=y
       obtain ⟨_,_,_,_,_,_,_,_,_,⟨e5,_,hl2⟩,_⟩:=HZ.out
       injection e5 with e5
       injection e5 with _ e5
       subst e5
       exact Nat.le_of_lt hl2
     have HLS:=Lib.hid hls
     have HSD:=Lib.hid SWd
     have RXd:=Lib.hid ((O3 w.heap.size (by omega)).trans RX.out)
     have MWd:Hid (Mod [g] w wd):=Lib.hid (MW.out.trans M3 (fun x hx=> .inr (by simp at hx;omega)))
     have HXd:XE lv σ σ3 w1.heap.size w2.heap.size wd (exVal 8 0 0 [] [] [] op (.slice (some ⟨wa.heap.size,0,none⟩) 2 2) pp pq pr):=by
      cases σ3 with
      | none=> trivial
      | some y=>
       obtain ⟨d3,r3⟩:=y
       obtain ⟨dz,lz,z,Az,cz,pz1,qz1,rz1,Sz,⟨e5,e6,hlz⟩,⟨e7,hatz,hinz⟩,hokz,hWz⟩:=HZ.out
       injection e5 with e5
       injection e5 with e8 e9
       subst e8 e9
       obtain ⟨d0,l0,x,Ax,cx,px1,qx1,rx1,Sx,⟨e10,e11,hlx⟩,⟨e12,hatx,hinx⟩,hokx,hWx⟩:=HX.out
       simp [exX,exVal]at e7 e12
       obtain ⟨rfl,rfl,rfl,rfl,rfl,rfl,rfl,⟨rfl,rfl,rfl⟩,rfl,rfl,rfl⟩:=e7
       obtain ⟨rfl,rfl,rfl,rfl,rfl,rfl,rfl,⟨rfl,rfl,rfl⟩,rfl,rfl,rfl⟩:=e12
       have hatx2:=hatx.keep (w':=wd) fun b hb=> by
        have:=hinx b hb
        exact (O3 b this.2).trans ((KC.out b (by omega)).trans (KW.out b this.1.2 (by omega)))
       have hatz2:=hatz.keep (w':=wd) fun b hb=> by
        have:=hinz b hb
        exact (O3 b (by omega)).trans (KC.out b (by omega))
       have AX2:=(O3 wa.heap.size (by omega)).trans AX.out
       refine ⟨d0,l0,.bin op x z,_,2,pp,pq,pr,fun b=> (Sx b∨Sz b)∨b=wa.heap.size,⟨e10,by omega,by simp at hlx hlz⊢;omega⟩,⟨rfl,hatx2.two hatz2 AX2 rfl,fun b hb=> ?_⟩,⟨⟨h1op,hle⟩,hokx,hokz⟩,?_⟩
       ·rcases hb with (hb | hb) | hb
        ·have:=hinx b hb;omega
        ·have:=hinz b hb;omega
        ·omega
       ·have e13:W 1 (toksX (.bin op x z) lv)=W 1 (toksX x lv)+((signS op).length+1+W 1 (toksX z lv1)):=by
         rw [toksX_no (by simp [lvlX,hb]),toks0,W_app,W_cons,hb,hlv1]
         rfl
        rw [W_cons,hcw]at hWx
        omega
     have HXD:=Lib.hid HXd
     have HBX:=Lib.hid X3
     clear HXd SWd hls X3 M3 O3 HZ HX AX KC KW RX MW SW BX YC KB
     go_roundw
     case rel=> exact ⟨σ3,8,0,0,[],[],[],op,_,2,2,pp,pq,pr,HBX,RXd,MWd,HSD,HXD⟩
     case measure=>
      rw [HSD.out.lenF,hlf]
      have:=HLS.out
      omega
    ·have d1:(((lvlS op:Nat):Int)==(lv:Int))=false:=by simp;omega
     go_upto_region 9 with fail
     obtain ⟨⟨⟨⟨x0,x1⟩,x2,x3⟩,⟨x4,x5⟩,x6,x7⟩,⟨x8,x9⟩,x10⟩:=cells11 BX.out
     obtain ⟨⟨⟨⟨z0,z1⟩,z2,z3⟩,⟨z4,z5⟩,z6,z7⟩,⟨z8,z9⟩,z10⟩:=cells11 RX.out
     obtain ⟨⟨⟨⟨v0,v1⟩,v2,v3⟩,⟨v4,v5⟩,v6,v7⟩,⟨v8,v9⟩,v10⟩:=frozen11 RX.out
     go_wp2_with fail
     clear z0 z1 z2 z3 z4 z5 z6 z7 z8 z9 z10 v0 v1 v2 v3 v4 v5 v6 v7 v8 v9 v10
     have X3:=set11_box (u0:=nv k) (u1:=nv vk) (u2:=nv vn) (u3:=sv vs) (u4:=sv nm) (u5:=sv cc) (u6:=nv o) (u7:= .slice A m c) (u8:=nv p) (u9:=nv q) (u10:=nv r) (vs:=[nv 0,nv 0,nv 0,sv [],sv [],sv [],nv 0,.slice none 0 0,nv 0,nv 0,nv 0]) RX.out rfl
     have M3:=set11_mod (w:=w4) (b:=w.heap.size) (u0:=nv k) (u1:=nv vk) (u2:=nv vn) (u3:=sv vs) (u4:=sv nm) (u5:=sv cc) (u6:=nv o) (u7:= .slice A m c) (u8:=nv p) (u9:=nv q) (u10:=nv r)
     have O3:=fun (j:Nat) (hj:j≠w.heap.size)=> set11_other (w:=w4) (u0:=nv k) (u1:=nv vk) (u2:=nv vn) (u3:=sv vs) (u4:=sv nm) (u5:=sv cc) (u6:=nv o) (u7:= .slice A m c) (u8:=nv p) (u9:=nv q) (u10:=nv r) hj
     obtain ⟨wz,hwz⟩: ∃W,set11 w4 w.heap.size (nv k) (nv vk) (nv vn) (sv vs) (sv nm) (sv cc) (nv o) (.slice A m c) (nv p) (nv q) (nv r)=W:=⟨_,rfl⟩
     rw [hwz]at X3 M3 O3
     unfold set11 at hwz
     rw [hwz]
     clear hwz
     obtain ⟨⟨⟨⟨y0,y1⟩,y2,y3⟩,⟨y4,y5⟩,y6,y7⟩,⟨y8,y9⟩,y10⟩:=cells11 X3
     refine bodyPost_ret (v:=exVal k vk vn vs nm cc o (.slice A m c) p q r) (by simp [results,Tryz.results152,go_sem,y0,y1,y2,y3,y4,y5,y6,y7,y8,y9,y10]) rfl ?_
     exact ⟨_,_,rfl,⟨k,vk,vn,vs,nm,cc,o,A,m,c,p,q,r,rfl⟩,SW.out.keep (fun j hj=> O3 j (by omega)),MW.out.trans M3 (fun x hx=> .inr (by simp at hx;omega)),(XE.toO (w:=w1) HX.out).keep (Nat.le_refl _) (by omega) M3.size (fun b h1 h2=> O3 b (by omega))⟩
end Go.Proofs.YtnbmpfdffoidaaaGreatDoor.Y
namespace Go.Proofs.YtnbmpfdffoidaaaGreatDoor
open Go.RowKit
section
variable {P:Program} {ops:Array Oper} {Q:Exit→Act→World→Prop} {md:Region.Mode} {Z:Nat→Bool}
def wpAnyZ (P:Program)(md:Region.Mode)(ops:Array Oper)(Q:Exit→Act→World→Prop)(Z:Nat→Bool):(World→Prop)→Nat→Array Bool→Act→World→Prop
 | _,0,listed,a,w=> Region.ready md ops listed=[]∧Q .normal a w
 | S,fuel+1,listed,a,w=>
  (Region.ready md ops listed=[]→Q .normal a w)∧
  ∀i ∈ Region.ready md ops listed,wpOp P ops Q i (fun a' w'=> (Z i=false→S w')∧wpAnyZ P md ops Q Z (fun W=> Z i=false→S W) fuel (listed.setIfInBounds i true) a' w') a w
theorem wpAny_of_Z: ∀(S:World→Prop) (fuel:Nat) (listed:Array Bool) (a:Act) (w:World),wpAnyZ P md ops Q Z S fuel listed a w→wpAny P md ops Q fuel listed a w
 | _,0,_,_,_,h=> h
 | S,fuel+1,listed,a,w,h=> ⟨h.1,fun i hi=> wpOp_mono (fun a' w' h'=> wpAny_of_Z _ fuel _ a' w' h'.2) (h.2 i hi)⟩
theorem wpAnyZ_imp: ∀{S S':World→Prop} (_: ∀W,S' W→S W) (fuel:Nat) (listed:Array Bool) (a:Act) (w:World),wpAnyZ P md ops Q Z S' fuel listed a w→wpAnyZ P md ops Q Z S fuel listed a w
 | _,_,_,0,_,_,_,hh=> hh
 | _,_,h,fuel+1,_,_,_,hh=> ⟨hh.1,fun i hi=> wpOp_mono (fun a' w' h'=> ⟨fun hz=> h w' (h'.1 hz),wpAnyZ_imp (fun W k hz=> h W (k hz)) fuel _ a' w' h'.2⟩) (hh.2 i hi)⟩
def waitsZ (md:Region.Mode)(ops:Array Oper)(Z:Nat→Bool)(i:Nat):Bool:=
 (List.range ops.size).all fun j=> !Z j || (match ops[j]? with
  | some o=> o.after.any fun e=> Region.binds md e && e.on==i
  | none=> true)
theorem wpAnyZ_first {i:Nat}{oi:Oper}{v:Value}{S1:World→Prop}(hi:ops[i]? =some oi)(hsel: ∀(j:Nat) (o:Oper) cs b,ops[j]? =some o→o.op≠ .select cs b)
  (hQ: ∀c a w,Q (.panic c) (a.put oi.dst v) w→Q (.panic c) a w):
  ∀(fuel:Nat) (S:World→Prop) (listed:Array Bool) (a:Act) (w:World),
   ((∀W,S1 W)∨((∀W,S W→S1 W)∧∀j oj,ops[j]? =some oj→Z j=true→∃e ∈ oj.after,Region.binds md e=true∧e.on=i))→
   (∀j oj,ops[j]? =some oj→j≠i→listed.getD j true=false→(∀e ∈ oj.after,Region.binds md e=true→e.on≠i)→oi.apart ops oj=true)→
   i ∈ Region.ready md ops listed→YieldsIf P ops S1 oi v a→S w→
   wpAnyZ P md ops Q Z S fuel (listed.setIfInBounds i true) (a.put oi.dst v) w→wpAnyZ P md ops Q Z S (fuel+1) listed a w:=by
 intro fuel
 induction fuel with
 | zero=>
  intro S listed a w hz _ hr hy hS H
  refine ⟨fun h=> (by rw [h]at hr;cases hr),fun j hj=> ?_⟩
  by_cases hji:j=i
  ·subst hji;exact hy.wpOp hi (hz.elim (fun h=> h w) fun h=> h.1 w hS) ⟨fun _=> hS,wpAnyZ_imp (fun W k _=> k) _ _ _ _ H⟩
  ·have:=ready_mono hj hji
   rw [H.1]at this
   cases this
 | succ fuel ih=>
  intro S listed a w hz hfree hr hy hS H
  refine ⟨fun h=> (by rw [h]at hr;cases hr),fun j hj=> ?_⟩
  by_cases hji:j=i
  ·subst hji;exact hy.wpOp hi (hz.elim (fun h=> h w) fun h=> h.1 w hS) ⟨fun _=> hS,wpAnyZ_imp (fun W k _=> k) _ _ _ _ H⟩
  ·have h1:=H.2 j (ready_mono hj hji)
   obtain ⟨hjun,oj,hoj,hall⟩:=mem_ready.1 hj
   have hnot: ∀e ∈ oj.after,Region.binds md e=true→e.on≠i:=fun e he hb heq=> by
    have h1:=hall e he hb
    have h0:=(mem_ready.1 hr).1
    rw [heq]at h1
    rcases Nat.lt_or_ge i listed.size with h' | h'
    ·simp [h']at h0 h1;rw [h0]at h1;cases h1
    ·simp [Array.getElem?_eq_none h']at h1
   have hz2:(∀W,S1 W)∨((∀W,(Z j=false→S W)→S1 W)∧∀j oj,ops[j]? =some oj→Z j=true→∃e ∈ oj.after,Region.binds md e=true∧e.on=i):=hz.imp id fun ⟨h3,h4⟩=> ⟨fun W k=> by
    cases hzj:Z j with
    | false=> exact h3 W (k hzj)
    | true=>
     obtain ⟨e,he,hb,heq⟩:=h4 j oj hoj hzj
     exact absurd heq (hnot e he hb),h4⟩
   have h2:=wpOp_putIf hoj (hfree j oj hoj hji hjun hnot) (fun cs b=> hsel i oi cs b hi) (fun cs b=> hsel j oj cs b hoj) hQ hy h1
   have hfree': ∀k ok,ops[k]? =some ok→k≠i→(listed.setIfInBounds j true).getD k true=false→
     (∀e ∈ ok.after,Region.binds md e=true→e.on≠i)→oi.apart ops ok=true:=fun k ok hk hki hun hno=> by
    refine hfree k ok hk hki ?_ hno
    by_cases hjk:j=k
    ·subst hjk;exact hjun
    ·rw [getD_set_ne true hjk]at hun;exact hun
   refine wpOp_mono (fun a' w' h3=> ⟨h3.2.1,ih (fun W=> Z j=false→S W) (listed.setIfInBounds j true) a' w' hz2 hfree' (ready_mono hr (Ne.symm hji)) h3.1 h3.2.1 ?_⟩) h2
   rw [Array.setIfInBounds_comm _ _ hji]
   exact h3.2.2
inductive PlanZ where
 | done
 | read (i:Nat) (rest:PlanZ)
 | pure (i:Nat) (rest:PlanZ)
 | call (i:Nat) (rest:PlanZ)
 | two (i j:Nat) (l r:PlanZ)
 | swap (i j:Nat) (rest:PlanZ)
 | store (i:Nat) (rest:PlanZ)
def PlanZ.len:PlanZ→Nat
 | .done=> 0
 | .read _ rest=> rest.len+1
 | .pure _ rest=> rest.len+1
 | .call _ rest=> rest.len+1
 | .two _ _ l _=> l.len+1
 | .swap _ _ rest=> rest.len+2
 | .store _ rest=> rest.len+1
def wpZ (P:Program)(ops:Array Oper)(Q:Exit→Act→World→Prop)(Z:Nat→Bool):List Nat→PlanZ→Act→World→Prop
 | _,.done,a,w=> Q .normal a w
 | bs,.read i rest,a,w=> ∃o,ops[i]? =some o∧Region.wanted o (yielded ops a.tmps)=true∧∃v,(∀W,KB bs w W→(execOp a.eval o).run P W= .ok (.value v) W)∧wpZ P ops Q Z bs rest (a.put o.dst v) w
 | bs,.pure i rest,a,w=> ∃o,ops[i]? =some o∧Region.wanted o (yielded ops a.tmps)=true∧∃v,(∀W,(execOp a.eval o).run P W= .ok (.value v) W)∧wpZ P ops Q Z bs rest (a.put o.dst v) w
 | bs,.call i rest,a,w=> ∃o,ops[i]? =some o∧Region.wanted o (yielded ops a.tmps)=true∧o.wp P a w (fun a' w'=> KB bs w w'∧wpZ P ops Q Z bs rest a' w') Q
 | bs,.two i j l r,a,w=> (∃o,ops[i]? =some o∧Region.wanted o (yielded ops a.tmps)=true∧o.wp P a w (fun a' w'=> KB bs w w'∧wpZ P ops Q Z bs l a' w') Q)∧
   ∃o,ops[j]? =some o∧Region.wanted o (yielded ops a.tmps)=true∧o.wp P a w (fun a' w'=> KB bs w w'∧wpZ P ops Q Z bs r a' w') Q
 | _,.swap i j rest,a,w=> ∃oi oj wi wj w2,(ops[i]? =some oi∧ops[j]? =some oj∧oi.dst=none∧oj.dst=none)∧(Region.wanted oi (yielded ops a.tmps)=true∧Region.wanted oj (yielded ops a.tmps)=true)∧
   ((execOp a.eval oi).run P w= .ok .skip wi∧(execOp a.eval oj).run P w= .ok .skip wj)∧((execOp a.eval oj).run P wi= .ok .skip w2∧(execOp a.eval oi).run P wj= .ok .skip w2)∧wpZ P ops Q Z [] rest a w2
 | _,.store i rest,a,w=> ∃oi wi,(ops[i]? =some oi∧oi.dst=none)∧Region.wanted oi (yielded ops a.tmps)=true∧(execOp a.eval oi).run P w= .ok .skip wi∧wpZ P ops Q Z [] rest a wi
def planZ (md:Region.Mode)(ops:Array Oper)(Z:Nat→Bool):Array Bool→PlanZ→Bool
 | listed,.done=> (Region.ready md ops listed).isEmpty
 | listed,.read i rest=> Region.free md ops listed i && (Region.ready md ops listed).contains i && (!Z i && waitsZ md ops Z i) && planZ md ops Z (listed.setIfInBounds i true) rest
 | listed,.pure i rest=> Region.free md ops listed i && (Region.ready md ops listed).contains i && !Z i && planZ md ops Z (listed.setIfInBounds i true) rest
 | listed,.call i rest=> (Region.ready md ops listed==[i]) && planZ md ops Z (listed.setIfInBounds i true) rest
 | listed,.two i j l r=> (Region.ready md ops listed==[i,j]) && (l.len==r.len && (planZ md ops Z (listed.setIfInBounds i true) l && planZ md ops Z (listed.setIfInBounds j true) r))
 | listed,.swap i j rest=> (Region.ready md ops listed==[i,j]) && (i !=j && Z i && Z j) && ((Region.ready md ops (listed.setIfInBounds i true)==[j]) && (Region.ready md ops (listed.setIfInBounds j true)==[i])) && planZ md ops Z ((listed.setIfInBounds i true).setIfInBounds j true) rest
 | listed,.store i rest=> (Region.ready md ops listed==[i]) && Z i && planZ md ops Z (listed.setIfInBounds i true) rest
theorem wpOp_of {i:Nat}{o:Oper}{a:Act}{w:World}{K:Act→World→Prop}(hi:ops[i]? =some o)(hw:Region.wanted o (yielded ops a.tmps)=true)(h:o.wp P a w K Q):wpOp P ops Q i K a w:=by
 unfold wpOp
 simp only [hi,hw,if_true]
 exact .inl h
theorem wp_skip {o:Oper}{a:Act}{w w':World}{K:Act→World→Prop}(hd:o.dst=none)(h:(execOp a.eval o).run P w= .ok .skip w')(hk:K a w'):o.wp P a w K Q:=by
 unfold Oper.wp
 rw [h]
 simp only [Oper.upon,hd]
 exact hk
theorem wpAnyZ_plan (hs:Region.noSelect ops=true)(hQ: ∀c a d v w,Q (.panic c) (a.put d v) w→Q (.panic c) a w):
  ∀(steps:PlanZ) (bs:List Nat) (listed:Array Bool) (a:Act) (w:World),planZ md ops Z listed steps=true→wpZ P ops Q Z bs steps a w→wpAnyZ P md ops Q Z (KB bs w) steps.len listed a w
 | .done,bs,listed,a,w,hok,h=> ⟨by simpa [planZ]using hok,h⟩
 | .read i rest,bs,listed,a,w,hok,h=> by
  simp only [planZ,Bool.and_eq_true]at hok
  obtain ⟨⟨⟨hf,hr⟩,_,hz⟩,hok⟩:=hok
  obtain ⟨o,hi,hw,v,hv,h⟩:=h
  refine wpAnyZ_first (S1:=KB bs w) hi (Region.noSelect_spec hs) (fun c a w=> hQ c a o.dst v w) _ _ listed a w (.inr ⟨fun _ h=> h,fun j oj hj hzj=> ?_⟩) (Region.free_spec hi hf) (by simpa using hr) (.inl ⟨hw,hv⟩) (KB.refl bs w) (wpAnyZ_plan hs hQ rest bs _ _ w hok h)
  unfold waitsZ at hz
  rw [List.all_eq_true]at hz
  have:=hz j (List.mem_range.2 (Array.getElem?_eq_some_iff.1 hj).1)
  rw [hzj,hj]at this
  simp only [Bool.not_true,Bool.false_or,Array.any_eq_true',Bool.and_eq_true,beq_iff_eq]at this
  exact this
 | .pure i rest,bs,listed,a,w,hok,h=> by
  simp only [planZ,Bool.and_eq_true]at hok
  obtain ⟨⟨⟨hf,hr⟩,_⟩,hok⟩:=hok
  obtain ⟨o,hi,hw,v,hv,h⟩:=h
  exact wpAnyZ_first (S1:=fun _=> True) hi (Region.noSelect_spec hs) (fun c a w=> hQ c a o.dst v w) _ _ listed a w (.inl fun _=> trivial) (Region.free_spec hi hf) (by simpa using hr) (.inl ⟨hw,fun W _=> hv W⟩) (KB.refl bs w) (wpAnyZ_plan hs hQ rest bs _ _ w hok h)
 | .call i rest,bs,listed,a,w,hok,h=> by
  simp only [planZ,Bool.and_eq_true,beq_iff_eq]at hok
  obtain ⟨hr,hok⟩:=hok
  obtain ⟨o,hi,hw,h⟩:=h
  refine ⟨fun h0=> (by rw [hr]at h0;cases h0),fun j hj=> ?_⟩
  obtain rfl:j=i:=by rw [hr]at hj;simpa using hj
  exact wpOp_of hi hw (Oper.wp_mono (fun a' w' h'=> ⟨fun _=> h'.1,wpAnyZ_imp (fun W k _=> KB.trans h'.1 k) _ _ _ _ (wpAnyZ_plan hs hQ rest bs _ a' w' hok h'.2)⟩) h)
 | .two i j l r,bs,listed,a,w,hok,h=> by
  simp only [planZ,Bool.and_eq_true,beq_iff_eq]at hok
  obtain ⟨hr,hlen,hl,hrr⟩:=hok
  obtain ⟨⟨o,hi,hw,h⟩,⟨o',hj,hw',h'⟩⟩:=h
  refine ⟨fun h0=> (by rw [hr]at h0;cases h0),fun k hk=> ?_⟩
  have hk2:k=i∨k=j:=by rw [hr]at hk;simpa using hk
  rcases hk2 with rfl | rfl
  ·exact wpOp_of hi hw (Oper.wp_mono (fun a' w' h'=> ⟨fun _=> h'.1,wpAnyZ_imp (fun W k _=> KB.trans h'.1 k) _ _ _ _ (wpAnyZ_plan hs hQ l bs _ a' w' hl h'.2)⟩) h)
  ·refine wpOp_of hj hw' (Oper.wp_mono (fun a' w' h'=> ⟨fun _=> h'.1,wpAnyZ_imp (fun W k _=> KB.trans h'.1 k) _ _ _ _ ?_⟩) h')
   have:=wpAnyZ_plan hs hQ r bs _ a' w' hrr h'.2
   rwa [← hlen]at this
 | .swap i j rest,bs,listed,a,w,hok,h=> by
  simp only [planZ,Bool.and_eq_true,beq_iff_eq,bne_iff_ne]at hok
  obtain ⟨⟨⟨hr,⟨hne,hzi⟩,hzj⟩,hr1,hr2⟩,hok⟩:=hok
  obtain ⟨oi,oj,wi,wj,w2,⟨hi,hj,hdi,hdj⟩,⟨hwi,hwj⟩,⟨x1,x2⟩,⟨x3,x4⟩,h⟩:=h
  have hend:=wpAnyZ_plan hs hQ rest [] _ a w2 hok h
  refine ⟨fun h0=> (by rw [hr]at h0;cases h0),fun k hk=> ?_⟩
  have hk2:k=i∨k=j:=by rw [hr]at hk;simpa using hk
  rcases hk2 with rfl | rfl
  ·refine wpOp_of hi hwi (wp_skip hdi x1 ⟨fun h0=> (by rw [hzi]at h0;cases h0),fun h0=> (by rw [hr1]at h0;cases h0),fun m hm=> ?_⟩)
   obtain rfl:m=j:=by rw [hr1]at hm;simpa using hm
   exact wpOp_of hj hwj (wp_skip hdj x3 ⟨fun h0=> (by rw [hzj]at h0;cases h0),wpAnyZ_imp (fun W _ h0=> (by rw [hzj]at h0;cases h0)) _ _ _ _ hend⟩)
  ·refine wpOp_of hj hwj (wp_skip hdj x2 ⟨fun h0=> (by rw [hzj]at h0;cases h0),fun h0=> (by rw [hr2]at h0;cases h0),fun m hm=> ?_⟩)
   obtain rfl:m=i:=by rw [hr2]at hm;simpa using hm
   rw [Array.setIfInBounds_comm _ _ hne]at hend
   exact wpOp_of hi hwi (wp_skip hdi x4 ⟨fun h0=> (by rw [hzi]at h0;cases h0),wpAnyZ_imp (fun W _ h0=> (by rw [hzi]at h0;cases h0)) _ _ _ _ hend⟩)
 | .store i rest,bs,listed,a,w,hok,h=> by
  simp only [planZ,Bool.and_eq_true,beq_iff_eq]at hok
  obtain ⟨⟨hr,hzi⟩,hok⟩:=hok
  obtain ⟨oi,wi,⟨hi,hdi⟩,hwi,x1,h⟩:=h
  have hend:=wpAnyZ_plan hs hQ rest [] _ a wi hok h
  refine ⟨fun h0=> (by rw [hr]at h0;cases h0),fun k hk=> ?_⟩
  obtain rfl:k=i:=by rw [hr]at hk;simpa using hk
  exact wpOp_of hi hwi (wp_skip hdi x1 ⟨fun h0=> (by rw [hzi]at h0;cases h0),wpAnyZ_imp (fun W _ h0=> (by rw [hzi]at h0;cases h0)) _ _ _ _ hend⟩)
theorem wp_region_Z (Z:List Nat)(bs:List Nat){id:Nat}{a:Act}{w:World}(steps:PlanZ)(hm:P.follows .mixedOrders=true)
  (hok:(Region.noSelect ops && steps.len==ops.size && planZ .any ops (fun i=> Z.contains i) (Array.replicate ops.size false) steps)=true)
  (hQ: ∀c a d v w,Q (.panic c) (a.put d v) w→Q (.panic c) a w) (h:wpZ P ops Q (fun i=> Z.contains i) bs steps a w.drew):(Code.region id ops true).wp P Q a w:=by
 simp only [Bool.and_eq_true,beq_iff_eq]at hok
 obtain ⟨⟨hs,hl⟩,hok⟩:=hok
 have h1:=wpAny_of_Z _ _ _ _ _ (wpAnyZ_plan hs hQ steps bs _ a w.drew hok h)
 rw [hl]at h1
 exact wp_region_any hm h1
section
variable {l:List Oper} {bs:List Nat} {i j:Nat} {rest r1 r2:PlanZ} {a:Act} {w:World} {o o':Oper}
theorem zdone (h:Q .normal a w):wpZ P ops Q Z bs .done a w:=h
theorem zread (hi:l[i]? =some o)(hw:Region.wanted o (yielded l.toArray a.tmps)=true)
  (h: ∃v,(∀W,KB bs w W→(execOp a.eval o).run P W= .ok (.value v) W)∧wpZ P l.toArray Q Z bs rest (a.put o.dst v) w):wpZ P l.toArray Q Z bs (.read i rest) a w:=⟨o,by simpa using hi,hw,h⟩
theorem zpure (hi:l[i]? =some o)(hw:Region.wanted o (yielded l.toArray a.tmps)=true)
  (h: ∃v,(∀W,(execOp a.eval o).run P W= .ok (.value v) W)∧wpZ P l.toArray Q Z bs rest (a.put o.dst v) w):wpZ P l.toArray Q Z bs (.pure i rest) a w:=⟨o,by simpa using hi,hw,h⟩
theorem zcall (hi:l[i]? =some o)(hw:Region.wanted o (yielded l.toArray a.tmps)=true)
  (h: ∀K:Act→World→Prop,Shut (∀a' w',KB bs w w'→wpZ P l.toArray Q Z bs rest a' w'→K a' w')→o.wp P a w K Q):wpZ P l.toArray Q Z bs (.call i rest) a w:=
 ⟨o,by simpa using hi,hw,h _ (fun _ _ hg hk=> ⟨hg,hk⟩)⟩
theorem ztwo (hi:l[i]? =some o)(hw:Region.wanted o (yielded l.toArray a.tmps)=true)(hj:l[j]? =some o')(hw':Region.wanted o' (yielded l.toArray a.tmps)=true)
  (h: ∀K:Act→World→Prop,Shut (∀a' w',KB bs w w'→wpZ P l.toArray Q Z bs r1 a' w'→K a' w')→o.wp P a w K Q)
  (h': ∀K:Act→World→Prop,Shut (∀a' w',KB bs w w'→wpZ P l.toArray Q Z bs r2 a' w'→K a' w')→o'.wp P a w K Q):wpZ P l.toArray Q Z bs (.two i j r1 r2) a w:=
 ⟨⟨o,by simpa using hi,hw,h _ (fun _ _ hg hk=> ⟨hg,hk⟩)⟩,⟨o',by simpa using hj,hw',h' _ (fun _ _ hg hk=> ⟨hg,hk⟩)⟩⟩
theorem zswap (wi wj w2:World)(hi:l[i]? =some o)(hj:l[j]? =some o')(hdi:o.dst=none)(hdj:o'.dst=none)(hw:Region.wanted o (yielded l.toArray a.tmps)=true)(hw':Region.wanted o' (yielded l.toArray a.tmps)=true)
  (x1:(execOp a.eval o).run P w= .ok .skip wi) (x3:(execOp a.eval o').run P wi= .ok .skip w2) (x2:(execOp a.eval o').run P w= .ok .skip wj) (x4:(execOp a.eval o).run P wj= .ok .skip w2)
  (h:wpZ P l.toArray Q Z [] rest a w2):wpZ P l.toArray Q Z bs (.swap i j rest) a w:=
 ⟨o,o',wi,wj,w2,⟨by simpa using hi,by simpa using hj,hdi,hdj⟩,⟨hw,hw'⟩,⟨x1,x2⟩,⟨x3,x4⟩,h⟩
theorem zstore (wi:World)(hi:l[i]? =some o)(hdi:o.dst=none)(hw:Region.wanted o (yielded l.toArray a.tmps)=true)(x1:(execOp a.eval o).run P w= .ok .skip wi)
  (h:wpZ P l.toArray Q Z [] rest a wi):wpZ P l.toArray Q Z bs (.store i rest) a w:=⟨o,wi,⟨by simpa using hi,hdi⟩,hw,x1,h⟩
theorem zwith {steps:PlanZ}{p:World→Prop}(h1: ∀W,KB bs w W→p W)(h2:(∀W,KB bs w W→p W)→wpZ P ops Q Z bs steps a w):wpZ P ops Q Z bs steps a w:=h2 h1
theorem zrE {v:Value}(h:wpZ P l.toArray Q Z bs rest (a.put o.dst v) w)(hi:l[i]? =some o:=by rfl)(hw:Region.wanted o (yielded l.toArray a.tmps)=true:=by rfl)
  (h1: ∀W,KB bs w W→(execOp a.eval o).run P W= .ok (.value v) W:=by intro W hW;go_simp;try (first | with_reducible rfl | (rw [if_neg (by omega)];try with_reducible rfl))):wpZ P l.toArray Q Z bs (.read i rest) a w:=zread hi hw ⟨v,h1,h⟩
theorem zpE {v:Value}(h:wpZ P l.toArray Q Z bs rest (a.put o.dst v) w)(hi:l[i]? =some o:=by rfl)(hw:Region.wanted o (yielded l.toArray a.tmps)=true:=by rfl)
  (h1: ∀W,(execOp a.eval o).run P W= .ok (.value v) W:=by intro W;go_simp;try (first | with_reducible rfl | (rw [if_pos (by omega)];try with_reducible rfl))):wpZ P l.toArray Q Z bs (.pure i rest) a w:=zpure hi hw ⟨v,h1,h⟩
end
end
end Go.Proofs.YtnbmpfdffoidaaaGreatDoor
namespace Go.Proofs.YtnbmpfdffoidaaaGreatDoor.Y
open Go.RowKit O V S X
end Go.Proofs.YtnbmpfdffoidaaaGreatDoor.Y
namespace Go.Proofs.YtnbmpfdffoidaaaGreatDoor.Y
open Go.RowKit O V S X
end Go.Proofs.YtnbmpfdffoidaaaGreatDoor.Y
namespace Go.Proofs.YtnbmpfdffoidaaaGreatDoor.Y
open Go.RowKit O V S X
end Go.Proofs.YtnbmpfdffoidaaaGreatDoor.Y
namespace Go.Proofs.YtnbmpfdffoidaaaGreatDoor.Y
open Go.RowKit O V S X
theorem exE:Elem Tryz.prog 42 59 11 128 (.agg #[.int .i64 0,.int .i64 0,.int .i64 0,.string ByteArray.empty,.string ByteArray.empty,.string ByteArray.empty,.int .i64 0,.slice none 0 0,.int .i64 0,.int .i64 0,.int .i64 0]):=by
 obtain ⟨i,hi,h1,h2,h3⟩:=info_parts (show (Tryz.prog.info? 59).map (fun i=> (i.zero,i.size,i.bytes))=some (some (.agg #[.int .i64 0,.int .i64 0,.int .i64 0,.string ByteArray.empty,.string ByteArray.empty,.string ByteArray.empty,.int .i64 0,.slice none 0 0,.int .i64 0,.int .i64 0,.int .i64 0]),11,128) by kernel_rfl)
 exact ⟨Tryz.underlying42,i,hi,h1,h2,h3,rfl,by omega⟩
theorem smE:Elem Tryz.prog 39 44 11 160 (.agg #[.int .i64 0,.string ByteArray.empty,.string ByteArray.empty,.string ByteArray.empty,.int .i64 0,.slice none 0 0,.slice none 0 0,.slice none 0 0,.int .i64 0,.int .i64 0,.int .i64 0]):=by
 obtain ⟨i,hi,h1,h2,h3⟩:=info_parts (show (Tryz.prog.info? 44).map (fun i=> (i.zero,i.size,i.bytes))=some (some (.agg #[.int .i64 0,.string ByteArray.empty,.string ByteArray.empty,.string ByteArray.empty,.int .i64 0,.slice none 0 0,.slice none 0 0,.slice none 0 0,.int .i64 0,.int .i64 0,.int .i64 0]),11,160) by kernel_rfl)
 exact ⟨Tryz.underlying39,i,hi,h1,h2,h3,rfl,by omega⟩
theorem wapp4 {P:Program}{K:Act→World→Prop}{Q:Exit→Act→World→Prop}{a:Act}{w:World}{o:Oper}(s x:Operand){t e:TypeId}{size bytes:Nat}{z:Value}
  (hE:Elem P t e size bytes z) (ho:o.op= .call { callee:= .builtin .append,args:=#[s,x],argTypes:=#[t,t] })
  (base:Nat) {A:Option Addr} {n c:Nat} (xs:List Value) (hs:a.eval s= .slice A n c) (hown:w.ownsRow base e size (.slice A n c) n xs)
  {m c':Nat} {A':Option Addr} (hx:a.eval x= .slice A' m c') {B:Nat} (news:List Value) (hr:Rd w B size A' m news) (h1: ∀u ∈ news,u.oneCell'=true)
  (h63:n+m≤maxLen) (hlim:(n+m) * bytes≤140737488355328) (hbase:base≤w.heap.size)
  {k:Nat} (hk:n+m=k)
  (h: ∀A2 c2 w',w'.ownsRow base e size (.slice A2 k c2) k (xs ++news)→w.grownBy w' (Value.slice A n c).ownBlock→((Value.slice A2 k c2).ownBlock=(Value.slice A n c).ownBlock∨(Value.slice A2 k c2).ownBlock=some w.heap.size)→K (a.put o.dst (.slice A2 k c2)) w'):o.wp P a w K Q:=by
 subst hk
 obtain ⟨A2,c2,w',hrun,h2,h3,h4⟩:=run_app (P:=P) w hE o.type base hown (c':=c') hr h1 h63 hlim hbase
 unfold Oper.wp execOp
 simp only [ho,resolve,invoke,builtin,Sem.run_bind,Sem.run_pure,Result.andThen_ok,List.map_toArray,List.map_cons,List.map_nil,hs,hx,hrun]
 exact h A2 c2 w' h2 h3 h4
section
variable {w w':World} {base size n:Nat} {e:TypeId} {v:Value} {xs:List Value} {bs:List Nat}
theorem own_mod (h:w.ownsRow base e size v n xs)(m:Mod bs w w')(hb: ∀k,v.ownBlock=some k→k ∉ bs):w'.ownsRow base e size v n xs:=by
 refine ⟨h.1,?_⟩
 rcases h.2 with hh | ⟨g,cap,cur,hv,h1,h2,h3⟩
 ·exact .inl hh
 ·exact .inr ⟨g,cap,cur,hv,h1,m.box h2 (hb g (by rw [hv];rfl)),h3⟩
end
theorem own_form {w:World}{base n c:Nat}{e:TypeId}{size:Nat}{A:Option Addr}{xs:List Value}(h:w.ownsRow base e size (.slice A n c) n xs)(hn:0 < n): ∃g,A=some ⟨g,0,none⟩∧base≤g∧g < w.heap.size:=by
 rcases h.2 with ⟨hv,h0⟩ | ⟨g,cap,cur,hv,h1,h2,_⟩
 ·omega
 ·injection hv with e1
  exact ⟨g,e1,h1,(Array.getElem?_eq_some_iff.1 h2).1⟩
theorem set11_list (xs:List Value)(z0 z1 z2 z3 z4 z5 z6 z7 z8 z9 z10 u0 u1 u2 u3 u4 u5 u6 u7 u8 u9 u10:Value){k:Nat}(hk:xs.length=k):
  ((((((((((((xs ++ [z0,z1,z2,z3,z4,z5,z6,z7,z8,z9,z10]).set k u0).set (k+1) u1).set (k+2) u2).set (k+3) u3).set (k+4) u4).set (k+5) u5).set (k+6) u6).set (k+7) u7).set (k+8) u8).set (k+9) u9).set (k+10) u10)=xs ++ [u0,u1,u2,u3,u4,u5,u6,u7,u8,u9,u10]:=by
 subst hk
 have e: ∀(j:Nat) (ys:List Value) (u:Value),(xs ++ys).set (xs.length+j) u=xs ++ys.set j u:=fun j ys u=> by
  rw [List.set_append_right _ _ (by omega),Nat.add_sub_cancel_left]
 have e0: ∀(ys:List Value) (u:Value),(xs ++ys).set xs.length u=xs ++ys.set 0 u:=fun ys u=> e 0 ys u
 rw [e0]
 simp only [e]
 rfl
theorem own_cells11 {w:World}{base n cap g:Nat}{e:TypeId}{xs:List Value}{z0 z1 z2 z3 z4 z5 z6 z7 z8 z9 z10:Value}(h:w.ownsRow base e 11 (.slice (some ⟨g,0,none⟩) n cap) n (xs ++ [z0,z1,z2,z3,z4,z5,z6,z7,z8,z9,z10])){k:Nat}(hk:xs.length=k):
  (((w.cell? ⟨g,k,none⟩=some z0∧w.cell? ⟨g,k+1,none⟩=some z1)∧(w.cell? ⟨g,k+2,none⟩=some z2∧w.cell? ⟨g,k+3,none⟩=some z3))∧((w.cell? ⟨g,k+4,none⟩=some z4∧w.cell? ⟨g,k+5,none⟩=some z5)∧(w.cell? ⟨g,k+6,none⟩=some z6∧w.cell? ⟨g,k+7,none⟩=some z7)))∧(w.cell? ⟨g,k+8,none⟩=some z8∧w.cell? ⟨g,k+9,none⟩=some z9)∧w.cell? ⟨g,k+10,none⟩=some z10:=by
 have hl:=h.1
 simp at hl
 have c: ∀j,j < 11→w.cell? ⟨g,k+j,none⟩=[z0,z1,z2,z3,z4,z5,z6,z7,z8,z9,z10][j]? :=fun j hj=> by
  rw [h.cellAt (k+j) (by omega),List.getElem?_append_right (by omega),hk,Nat.add_sub_cancel_left]
 exact ⟨⟨⟨⟨c 0 (by omega),c 1 (by omega)⟩,c 2 (by omega),c 3 (by omega)⟩,⟨c 4 (by omega),c 5 (by omega)⟩,c 6 (by omega),c 7 (by omega)⟩,⟨c 8 (by omega),c 9 (by omega)⟩,c 10 (by omega)⟩
theorem own_frozen11 {w:World}{base n cap g:Nat}{e:TypeId}{xs:List Value}(h:w.ownsRow base e 11 (.slice (some ⟨g,0,none⟩) n cap) n xs)(k:Nat):
  (((w.frozen? ⟨g,k,none⟩=false∧w.frozen? ⟨g,k+1,none⟩=false)∧(w.frozen? ⟨g,k+2,none⟩=false∧w.frozen? ⟨g,k+3,none⟩=false))∧((w.frozen? ⟨g,k+4,none⟩=false∧w.frozen? ⟨g,k+5,none⟩=false)∧(w.frozen? ⟨g,k+6,none⟩=false∧w.frozen? ⟨g,k+7,none⟩=false)))∧(w.frozen? ⟨g,k+8,none⟩=false∧w.frozen? ⟨g,k+9,none⟩=false)∧w.frozen? ⟨g,k+10,none⟩=false:=
 ⟨⟨⟨⟨h.frozenAt _,h.frozenAt _⟩,h.frozenAt _,h.frozenAt _⟩,⟨h.frozenAt _,h.frozenAt _⟩,h.frozenAt _,h.frozenAt _⟩,⟨h.frozenAt _,h.frozenAt _⟩,h.frozenAt _⟩
theorem own_put11 {w:World}{base n cap g:Nat}{e:TypeId}{xs:List Value}{z0 z1 z2 z3 z4 z5 z6 z7 z8 z9 z10:Value}(h:w.ownsRow base e 11 (.slice (some ⟨g,0,none⟩) n cap) n (xs ++ [z0,z1,z2,z3,z4,z5,z6,z7,z8,z9,z10])){k:Nat}(hk:xs.length=k)(u0 u1 u2 u3 u4 u5 u6 u7 u8 u9 u10:Value):
  (((((((((((w.setCell ⟨g,k,none⟩ u0).setCell ⟨g,k+1,none⟩ u1).setCell ⟨g,k+2,none⟩ u2).setCell ⟨g,k+3,none⟩ u3).setCell ⟨g,k+4,none⟩ u4).setCell ⟨g,k+5,none⟩ u5).setCell ⟨g,k+6,none⟩ u6).setCell ⟨g,k+7,none⟩ u7).setCell ⟨g,k+8,none⟩ u8).setCell ⟨g,k+9,none⟩ u9).setCell ⟨g,k+10,none⟩ u10).ownsRow base e 11 (.slice (some ⟨g,0,none⟩) n cap) n (xs ++ [u0,u1,u2,u3,u4,u5,u6,u7,u8,u9,u10]):=by
 have h0:=(h.stored k u0).1
 have h1:=(h0.stored (k+1) u1).1
 have h2:=(h1.stored (k+2) u2).1
 have h3:=(h2.stored (k+3) u3).1
 have h4:=(h3.stored (k+4) u4).1
 have h5:=(h4.stored (k+5) u5).1
 have h6:=(h5.stored (k+6) u6).1
 have h7:=(h6.stored (k+7) u7).1
 have h8:=(h7.stored (k+8) u8).1
 have h9:=(h8.stored (k+9) u9).1
 have h10:=(h9.stored (k+10) u10).1
 rw [set11_list xs _ _ _ _ _ _ _ _ _ _ _ u0 u1 u2 u3 u4 u5 u6 u7 u8 u9 u10 hk]at h10
 exact h10
def put11 (w:World)(g k:Nat)(u0 u1 u2 u3 u4 u5 u6 u7 u8 u9 u10:Value):World:=
 (((((((((((w.setCell ⟨g,k,none⟩ u0).setCell ⟨g,k+1,none⟩ u1).setCell ⟨g,k+2,none⟩ u2).setCell ⟨g,k+3,none⟩ u3).setCell ⟨g,k+4,none⟩ u4).setCell ⟨g,k+5,none⟩ u5).setCell ⟨g,k+6,none⟩ u6).setCell ⟨g,k+7,none⟩ u7).setCell ⟨g,k+8,none⟩ u8).setCell ⟨g,k+9,none⟩ u9).setCell ⟨g,k+10,none⟩ u10)
section
variable {w:World} {g k:Nat} {u0 u1 u2 u3 u4 u5 u6 u7 u8 u9 u10:Value}
theorem put11_mod:Mod [g] w (put11 w g k u0 u1 u2 u3 u4 u5 u6 u7 u8 u9 u10):=by
 unfold put11
 iterate 11 refine Mod.set ?_ (.inl (by simp)) _
 exact Mod.refl _ _
theorem put11_other {b:Nat}(hb:b≠g):(put11 w g k u0 u1 u2 u3 u4 u5 u6 u7 u8 u9 u10).heap[b]? =w.heap[b]? :=by
 unfold put11
 iterate 11 rw [Below.heap_setCell _ _ _ _ hb]
end
theorem app_keep {α:Type}{rep:World→(Nat→Prop)→α→List Value→Prop}(hkeep: ∀(w w':World) (S:Nat→Prop) (a:α) (vs:List Value),(∀b,S b→w'.heap[b]? =w.heap[b]?)→rep w S a vs→rep w' S a vs)
  {w w':World} {lo:Nat} {S:Nat→Prop} {l:List α} {xs:List Value} {v v':Value} (h:Reps (rep w S) l xs) (hS: ∀b,S b→lo≤b∧b < w.heap.size∧v.ownBlock≠some b) (hg:w.grownBy w' v.ownBlock) (hv:v'.ownBlock=v.ownBlock∨v'.ownBlock=some w.heap.size):
  Reps (rep w' S) l xs∧∀b,S b→lo≤b∧b < w'.heap.size∧v'.ownBlock≠some b:=by
 refine ⟨h.imp fun a vs=> hkeep w w' S a vs fun b hb=> hg.block b (hS b hb).2.1 (fun e=> (hS b hb).2.2 e.symm),fun b hb=> ?_⟩
 obtain ⟨h1,h2,h3⟩:=hS b hb
 refine ⟨h1,Nat.lt_of_lt_of_le h2 hg.size,fun e=> ?_⟩
 rcases hv with hv | hv
 ·rw [hv]at e;exact h3 e
 ·rw [hv]at e;injection e with e;omega
theorem reps_two {α:Type}{rep:World→(Nat→Prop)→α→List Value→Prop}(hmono: ∀(w:World) (S S':Nat→Prop) (a:α) (vs:List Value),(∀b,S b→S' b)→rep w S a vs→rep w S' a vs)
  {w:World} {S S':Nat→Prop} {l:List α} {y:α} {xs ys:List Value} (h:Reps (rep w S) l xs) (k:rep w S' y ys):Reps (rep w fun b=> S b∨S' b) (l ++ [y]) (xs ++ys):=
 (h.imp fun a vs=> hmono w S _ a vs fun b hb=> .inl hb).append (.one (hmono w S' _ y ys (fun b hb=> .inr hb) k))
theorem ex_keep (w w':World)(S:Nat→Prop)(a:Ex)(vs:List Value)(h: ∀b,S b→w'.heap[b]? =w.heap[b]?)(k:ExR w S a vs):ExR w' S a vs:=ExR.keep h a vs k
theorem ex_mono (w:World)(S S':Nat→Prop)(a:Ex)(vs:List Value)(h: ∀b,S b→S' b)(k:ExR w S a vs):ExR w S' a vs:=ExR.mono h a vs k
end Go.Proofs.YtnbmpfdffoidaaaGreatDoor.Y
