/- Texts of the proof, joined: SynCall, SynCall2, SynOpd, SynOpd2, SynStT, RfG, RfH, RfK, RfC. -/
import Derived.Test.YtnbmpfdffoidaaaGreatDoorPr11
set_option linter.unusedVariables false
set_option linter.unusedSimpArgs false
set_option maxHeartbeats 8000000
set_option maxRecDepth 100000
namespace Go.Proofs.YtnbmpfdffoidaaaGreatDoor.Y
open Go.RowKit O V S X
structure B4 (w:World)(g bx b4 b5 b6 b7 kind n:Nat):Prop where
 h4:w.heap[b4]? =some (.cells #[.pointer (some ⟨g,0,none⟩)] 51 (0,0))
 h5:w.heap[b5]? =some (.cells #[.pointer (some ⟨bx,0,none⟩)] 192 (0,0))
 h6:w.heap[b6]? =some (.cells #[nv kind] 3 (0,0))
 h7:w.heap[b7]? =some (.cells #[nv n] 3 (0,0))
end Go.Proofs.YtnbmpfdffoidaaaGreatDoor.Y
namespace Go.Proofs.YtnbmpfdffoidaaaGreatDoor.Y
open Go.RowKit O V S X
end Go.Proofs.YtnbmpfdffoidaaaGreatDoor.Y
namespace Go.Proofs.YtnbmpfdffoidaaaGreatDoor.Y
open Go.RowKit O V S X
end Go.Proofs.YtnbmpfdffoidaaaGreatDoor.Y
namespace Go.Proofs.YtnbmpfdffoidaaaGreatDoor.Y
open Go.RowKit O V S X
end Go.Proofs.YtnbmpfdffoidaaaGreatDoor.Y
namespace Go.Proofs.YtnbmpfdffoidaaaGreatDoor.Y
open Go.RowKit O V S X
def TreeX (w:World)(lo:Nat)(x:Ex)(vs:List Value):Prop:= ∃S,ExR w S x vs∧In lo w S
def RowX (w:World)(lo:Nat)(A:Option Addr)(n c:Nat)(l:List Ex):Prop:= ∃xs S,Row w S 11 A n c xs∧Reps (ExR w S) l xs∧In lo w S
def RowS (w:World)(lo:Nat)(A:Option Addr)(n c:Nat)(b:Sts):Prop:= ∃xs S,Row w S 11 A n c xs∧StsR w S b xs∧In lo w S
def TreeS (w:World)(lo:Nat)(s:St)(vs:List Value):Prop:= ∃S,StR w S s vs∧In lo w S
section
variable {w w':World} {lo lo':Nat} {bs:List Nat}
theorem TreeX.mod {x:Ex}{vs:List Value}(h:TreeX w lo x vs)(m:Mod bs w w')(hb: ∀b ∈ bs,b < lo):TreeX w' lo x vs:=by
 obtain ⟨S,h1,h2⟩:=h
 exact ⟨S,ExR.keep (h2.keeps m hb) _ _ h1,h2.next m.size⟩
theorem RowS.mod {A:Option Addr}{n c:Nat}{b:Sts}(h:RowS w lo A n c b)(m:Mod bs w w')(hb: ∀b ∈ bs,b < lo):RowS w' lo A n c b:=by
 obtain ⟨xs,S,h1,h2,h3⟩:=h
 exact ⟨xs,S,h1.keep (h3.keeps m hb),StsR.keep (h3.keeps m hb) _ _ h2,h3.next m.size⟩
theorem TreeS.mod {s:St}{vs:List Value}(h:TreeS w lo s vs)(m:Mod bs w w')(hb: ∀b ∈ bs,b < lo):TreeS w' lo s vs:=by
 obtain ⟨S,h1,h2⟩:=h
 exact ⟨S,StR.keep (h2.keeps m hb) _ _ h1,h2.next m.size⟩
theorem TreeX.more {x:Ex}{vs:List Value}(h:TreeX w lo x vs)(hl:lo'≤lo):TreeX w lo' x vs:=by
 obtain ⟨S,h1,h2⟩:=h
 exact ⟨S,h1,h2.more hl⟩
theorem RowS.more {A:Option Addr}{n c:Nat}{b:Sts}(h:RowS w lo A n c b)(hl:lo'≤lo):RowS w lo' A n c b:=by
 obtain ⟨xs,S,h1,h2,h3⟩:=h
 exact ⟨xs,S,h1,h2,h3.more hl⟩
theorem TreeS.more {s:St}{vs:List Value}(h:TreeS w lo s vs)(hl:lo'≤lo):TreeS w lo' s vs:=by
 obtain ⟨S,h1,h2⟩:=h
 exact ⟨S,h1,h2.more hl⟩
theorem RowS.nil_:RowS w lo none 0 0 .nil:=⟨[],fun _=> False,Row.nil_,(StsR_nil _).2 rfl,fun _ h=> h.elim⟩
theorem RowX.one {b c:Nat}{x:Ex}{vs:List Value}(h:TreeX w lo x vs)(hb:w.heap[b]? =some (.cells vs.toArray 59 (0,0)))(hl:lo≤b)(hc:c=1):RowX w lo (some ⟨b,0,none⟩) 1 c [x]:=by
 obtain ⟨S,h1,h2⟩:=h
 subst hc
 refine ⟨vs,fun k=> S k∨k=b,Row.of_block hb (.inr rfl) (by rw [ExR.size _ _ h1]) (by omega) (by omega),.one (ExR.mono (fun k hk=> .inl hk) _ _ h1),?_⟩
 rintro k (hk | hk)
 ·exact h2 k hk
 ·exact ⟨by omega,by rw [hk];exact (Array.getElem?_eq_some_iff.1 hb).1⟩
theorem TreeX.form {x:Ex}{vs:List Value}(h:TreeX w lo x vs): ∃(A:Option Addr) (n c:Nat) (p q r:Int),vs=exC x (.slice A n c) p q r:=by
 obtain ⟨S,h1,_⟩:=h
 exact h1.form
theorem TreeS.mk {s:St}{A B E:Option Addr}{n c m d k f:Nat}{p q r:Int}(h1:RowX w lo A n c (stA s))(hn:n=(stA s).length)(h2:RowS w lo B m d (stB s))(hm:m=(stB s).len)(h3:RowS w lo E k f (stE s))(hk:k=(stE s).len):
  TreeS w lo s (stV s (.slice A n c) (.slice B m d) (.slice E k f) p q r):=by
 subst hn hm hk
 obtain ⟨es,S1,a1,a2,a3⟩:=h1
 obtain ⟨bs,S2,b1,b2,b3⟩:=h2
 obtain ⟨fs,S3,c1,c2,c3⟩:=h3
 refine ⟨fun b=> S1 b∨S2 b∨S3 b,(StR_eq _ _).2 ⟨A,c,es,B,d,bs,E,f,fs,p,q,r,rfl,⟨a1.mono fun _ h=> .inl h,a2.imp fun x vs=> ExR.mono (fun _ h=> .inl h) x vs⟩,⟨b1.mono fun _ h=> .inr (.inl h),StsR.mono (fun _ h=> .inr (.inl h)) _ _ b2⟩,c1.mono fun _ h=> .inr (.inr h),StsR.mono (fun _ h=> .inr (.inr h)) _ _ c2⟩,?_⟩
 rintro b (hb | hb | hb)
 ·exact a3 b hb
 ·exact b3 b hb
 ·exact c3 b hb
theorem TreeS.form {s:St}{vs:List Value}(h:TreeS w lo s vs): ∃(A B E:Option Addr) (n c m d k f:Nat) (p q r:Int),vs=stV s (.slice A n c) (.slice B m d) (.slice E k f) p q r:=by
 obtain ⟨S,h1,_⟩:=h
 obtain ⟨A,c,es,B,d,bs,E,f,fs,p,q,r,e,_⟩:=(StR_eq _ _).1 h1
 exact ⟨A,B,E,_,c,_,d,_,f,p,q,r,e⟩
theorem RowS.one {A:Option Addr}{n c:Nat}{b:Sts}(h:RowS w lo A n c b):n=b.len∧n≤c∧c≤9223372036854775807:=by
 obtain ⟨xs,S,h1,h2,_⟩:=h
 have:=((StsR_reps _ _).1 h2).length StR.size
 rw [h1.len,Sts.list_len]at this
 exact ⟨by omega,h1.cap⟩
end
theorem exV (x:Ex)(A:Option Addr)(n c:Nat)(p q r:Int):Value.agg (exC x (.slice A n c) p q r).toArray= .agg #[nv (hdK x),nv (hdV x).k,nv (hdV x).n,sv (hdV x).s,sv (hdN x),sv (hdC x),nv (hdO x:Nat),.slice A n c,nv p,nv q,nv r]:=rfl
end Go.Proofs.YtnbmpfdffoidaaaGreatDoor.Y
namespace Go.Proofs.YtnbmpfdffoidaaaGreatDoor.Y
open Go.RowKit O V S X
structure Fr (g:Nat)(ms:List Nat)(w W:World)(σ:Sg)(p:World→Prop):Prop where
 gm:g ∈ ms
 st: ∀W W':World,Mod [g] W W'→p W→p W'
 m:Mod ms w W
 s:ST W g σ
 p:p W
structure Bx (g b:Nat)(o:Obj)(q:World→Prop)(W:World):Prop where
 ne:g < b
 qs: ∀W W':World,Mod [g,b] W W'→q W→q W'
 x:W.heap[b]? =some o
 q:q W
section
variable {g b:Nat} {ms:List Nat} {w W W':World} {σ σ':Sg} {p q:World→Prop} {o:Obj}
theorem Bx.st (m:Mod [g] W W')(h:Bx g b o q W):Bx g b o q W':=
 ⟨h.ne,h.qs,m.box h.x (by have:=h.ne;simp;omega),h.qs _ _ (m.more fun x hx=> .inl (by simp at hx;simp [hx])) h.q⟩
theorem Fr.mod (F:Fr g ms w W σ p)(m:Mod [g] W W')(s:ST W' g σ'):Hid (Fr g ms w W' σ' p):=
 Lib.hid ⟨F.gm,F.st,F.m.trans m (fun x hx=> .inl (by simp at hx;rw [hx];exact F.gm)),s,F.st _ _ m F.p⟩
theorem Fr.next (F:Fr g ms w W σ p)(k:Below W.heap.size W W'):Hid (Fr g ms w W' σ p):=F.mod (.of_below k) (F.s.next k)
theorem Fr.imp (F:Fr g ms w W σ p){p':World→Prop}(hs: ∀W W':World,Mod [g] W W'→p' W→p' W')(h:p' W):Hid (Fr g ms w W σ p'):=Lib.hid ⟨F.gm,hs,F.m,F.s,h⟩
theorem Fr.lt (F:Fr g ms w W σ p):g < W.heap.size:=F.s.lt
theorem Fr.box (F:Fr g ms w W σ p){k:Obj}{cs:Array Value}{T:TypeId}(hk:k= .cells cs T)(q:World→Prop)(hq: ∀V V':World,Mod [g,W.heap.size] V V'→q V→q V')(h:q (W.alloc k)):Hid (Fr g ms w (W.alloc k) σ (Bx g W.heap.size (.cells cs T (0,0)) q)):=by
 subst hk
 exact Lib.hid ⟨F.gm,fun _ _=> Bx.st,F.m.alloc _,F.s.next ((Below.refl _ _).alloc (Nat.le_refl _) _),⟨F.lt,hq,alloc_at rfl,h⟩⟩
theorem Fr.set {cs:Array Value}{T:TypeId}(F:Fr g ms w W σ (Bx g b (.cells cs T (0,0)) q))(i:Nat)(v:Value)(hb:b ∈ ms∨w.heap.size≤b){cs':Array Value}(e:cs.setIfInBounds i v=cs'):Hid (Fr g ms w (W.setCell ⟨b,i,none⟩ v) σ (Bx g b (.cells cs' T (0,0)) q)):=
 Lib.hid ⟨F.gm,fun _ _=> Bx.st,F.m.set hb v,F.s.keep fun j hj=> Below.heap_setCell _ _ _ _ (by have:=F.p.ne;simp only;omega),⟨F.p.ne,F.p.qs,heap_set' F.p.x v i e,F.p.qs _ _ ((Mod.refl _ _).set (.inl (by simp)) v) F.p.q⟩⟩
theorem Fr.turn {o':Obj}(F:Fr g ms w W σ (Bx g b o q))(m:Mod [b] W W')(hb:b ∈ ms∨w.heap.size≤b)(h:W'.heap[b]? =some o'):Hid (Fr g ms w W' σ (Bx g b o' q)):=
 Lib.hid ⟨F.gm,fun _ _=> Bx.st,F.m.trans m (fun x hx=> by simp at hx;rw [hx];exact hb),F.s.keep fun j hj=> m.block j (by have:=F.lt;omega) (by have:=F.p.ne;simp;omega),⟨F.p.ne,F.p.qs,h,F.p.qs _ _ (m.more fun x hx=> .inl (by simp at hx;simp [hx])) F.p.q⟩⟩
theorem Fr.call {o':Obj}{q':World→Prop}(F:Fr g ms w W σ (Bx g b o q))(G:Fr g [g,b] W W' σ' (Bx g b o' q'))(hb:b ∈ ms∨w.heap.size≤b):Hid (Fr g ms w W' σ' (Bx g b o' (fun V=> q V∧q' V))):=
 Lib.hid ⟨F.gm,fun _ _=> Bx.st,F.m.trans G.m (fun x hx=> by
  simp at hx
  rcases hx with rfl | rfl
  ·exact .inl F.gm
  ·exact hb),G.s,⟨F.p.ne,fun V V' m h=> ⟨F.p.qs _ _ m h.1,G.p.qs _ _ m h.2⟩,G.p.x,F.p.qs _ _ G.m F.p.q,G.p.q⟩⟩
theorem Fr.as {q':World→Prop}(F:Fr g ms w W σ (Bx g b o q))(hs: ∀V V':World,Mod [g,b] V V'→q' V→q' V')(h:q' W):Hid (Fr g ms w W σ (Bx g b o q')):=F.imp (fun _ _=> Bx.st) ⟨F.p.ne,hs,F.p.x,h⟩
theorem Fr.inc {d:Nat}{t:Tok}{l:List Tok}(F:Fr g ms w W (some (d,t::l)) p): ∃(A:Option Addr) (n c i:Nat) (a b x y z r:Int),W.heap[g]? =some (rfB A n c i d 0 a b x y z r)∧i < 100000∧Hid (Fr g ms w (W.setCell ⟨g,1,none⟩ (nv ((i:Int)+1))) (some (d,l)) p):=by
 obtain ⟨A,n,c,L,i,a,b,x,y,z,r,⟨hl,hi,hd⟩,h⟩:=F.s
 obtain ⟨hi,_,_⟩:=drop_cons hl
 have h1:=h.len
 have h2:=h.row.len
 exact ⟨A,n,c,i,a,b,x,y,z,r,h.box,by omega,F.mod ((Mod.refl _ _).set (.inl (by simp)) _) (ST.inc hl hd h)⟩
def nmA (σ:Sg):Sg:=if nmS σ=true then adv σ else none
def numA (σ:Sg):Sg:=if numS σ=true then adv σ else none
abbrev Step (g:Nat)(ms:List Nat)(w:World)(p:World→Prop)(v:Value)(σ':Sg)(e:Ending)(W':World):Prop:=e= .returned v∧Hid (Fr g ms w W' σ' p)
theorem Fr.want (F:Hid (Fr g ms w W σ p))(s:List UInt8)(hs:s≠[]):Calls Tryz.prog 63 #[.pointer (some ⟨g,0,none⟩),sv s] W (Step g ms w p (.tuple #[]) (wantS σ s)):=
 (f_want g σ s hs W F.out.s).mono fun _ _ ⟨h1,h2,h3⟩=> ⟨h1,F.out.mod h3 h2⟩
theorem Fr.fail (F:Hid (Fr g ms w W σ p))(er:Int)(he:er≠0):Calls Tryz.prog 29 #[.pointer (some ⟨g,0,none⟩),nv er] W (Step g ms w p (.tuple #[]) none):=
 (f_fail g σ er he W F.out.s).mono fun _ _ ⟨h1,h2,h3⟩=> ⟨h1,F.out.mod h3 h2⟩
theorem Fr.take (F:Hid (Fr g ms w W σ p))(s:List UInt8)(hs:s≠[]):Calls Tryz.prog 66 #[.pointer (some ⟨g,0,none⟩),sv s] W (Step g ms w p (.bool (takeB σ s)) (takeS σ s)):=
 (f_take g σ s hs W F.out.s).mono fun _ _ ⟨h1,h2,h3⟩=> ⟨h1,F.out.mod h3 h2⟩
theorem Fr.open_ (F:Hid (Fr g ms w W σ p))(s:List UInt8)(hs:s≠[]):Calls Tryz.prog 121 #[.pointer (some ⟨g,0,none⟩),sv s] W (Step g ms w p (.tuple #[]) (openS σ s)):=
 (f_open g σ s hs W F.out.s).mono fun _ _ ⟨h1,h2,h3⟩=> ⟨h1,F.out.mod h3 h2⟩
theorem Fr.shut (F:Hid (Fr g ms w W σ p))(s:List UInt8)(hs:s≠[])(h1: ∀d l,σ=some (d,l)→1≤d):Calls Tryz.prog 123 #[.pointer (some ⟨g,0,none⟩),sv s] W (Step g ms w p (.tuple #[]) (shutS σ s)):=
 (f_shut g σ s hs W F.out.s h1).mono fun _ _ ⟨h1,h2,h3⟩=> ⟨h1,F.out.mod h3 h2⟩
theorem Fr.name (F:Hid (Fr g ms w W σ p)):Calls Tryz.prog 64 #[.pointer (some ⟨g,0,none⟩)] W (Step g ms w p (sv (nameS σ)) (nmA σ)):=
 (f_name g σ W F.out.s).mono fun _ _ ⟨h1,h2,h3⟩=> ⟨h1,F.out.mod h3 h2⟩
theorem Fr.num (F:Hid (Fr g ms w W σ p)):Calls Tryz.prog 65 #[.pointer (some ⟨g,0,none⟩)] W (Step g ms w p (nv (nnS σ)) (numA σ)):=
 (f_num g σ W F.out.s).mono fun _ _ ⟨h1,h2,h3⟩=> ⟨h1,F.out.mod h3 h2⟩
theorem Fr.text (F:Hid (Fr g ms w W σ p)):Calls Tryz.prog 28 #[.pointer (some ⟨g,0,none⟩)] W (Step g ms w p (sv (txS σ)) σ):=
 (f_text g σ W F.out.s).mono fun _ _ ⟨h1,h2⟩=> ⟨h1,F.out.next h2⟩
theorem Fr.isName (F:Hid (Fr g ms w W σ p)):Calls Tryz.prog 67 #[.pointer (some ⟨g,0,none⟩)] W (Step g ms w p (.bool (nmS σ)) σ):=
 (f_isName g σ W F.out.s).mono fun _ _ ⟨h1,h2⟩=> ⟨h1,F.out.next h2⟩
theorem Fr.here (F:Hid (Fr g ms w W σ p)):Calls Tryz.prog 62 #[.pointer (some ⟨g,0,none⟩)] W (fun e W'=> (∃x y z:Int,e= .returned (.agg #[nv x,nv y,nv z]))∧Hid (Fr g ms w W' σ p)):=
 (f_here g σ W F.out.s).mono fun _ _ ⟨h1,h2⟩=> ⟨h1,F.out.next h2⟩
end
theorem nmA_inv {σ:Sg}{d:Nat}{r:List Tok}(h:nmA σ=some (d,r)): ∃t,σ=some (d,t::r)∧W 1 (t::r)=(nameS σ).length+1+W 1 r∧isNameL (nameS σ)=true:=by
 unfold nmA at h
 split at h
 ·rename_i hn
  obtain ⟨d',t,l,rfl,hk,hl⟩:=nmS_pos hn
  injection h with h
  injection h with e1 e2
  subst e1 e2
  have e:nameS (some (d',t::l))=t.2.1:=if_pos hn
  refine ⟨t,rfl,?_,by rw [e];exact hl⟩
  rw [W_cons,e]
  unfold cw
  rw [if_neg (by omega)]
 ·cases h
theorem wantS_some {σ:Sg}{s:List UInt8}{d':Nat}{r:List Tok}(hs:s≠[])(h:wantS σ s=some (d',r)): ∃t,σ=some (d',t::r)∧W 1 (t::r)=s.length+1+W 1 r:=(wantS_inv hs h).imp fun _ h=> ⟨h.1,h.2.1⟩
structure Ar {α:Type}(rep:World→(Nat→Prop)→α→List Value→Prop)(e:TypeId)(size:Nat)(G:Prop)(W:World)(lo:Nat)(A:Option Addr)(k c:Nat)(a:List α)(xs:List Value):Prop where
 own:W.ownsRow lo e size (.slice A k c) k xs
 len:a.length=k
 tr:G→∃S,Reps (rep W S) a xs∧∀b,S b→lo≤b∧b < W.heap.size∧(Value.slice A k c).ownBlock≠some b
section
variable {α:Type} {rep:World→(Nat→Prop)→α→List Value→Prop} {e:TypeId} {size:Nat} {G G':Prop} {W W':World} {lo k c:Nat} {A:Option Addr} {a:List α} {xs:List Value}
theorem Ar.nil_ (W:World)(lo:Nat):Ar rep e size G W lo none 0 0 [] []:=⟨World.ownsRow_nil _ _ _ _,rfl,fun _=> ⟨fun _=> False,rfl,fun _ h=> h.elim⟩⟩
theorem Ar.imp (h:Ar rep e size G W lo A k c a xs)(hg:G'→G):Ar rep e size G' W lo A k c a xs:=⟨h.own,h.len,fun g=> h.tr (hg g)⟩
theorem Ar.mod (hkeep: ∀(w w':World) (S:Nat→Prop) (a:α) (vs:List Value),(∀b,S b→w'.heap[b]? =w.heap[b]?)→rep w S a vs→rep w' S a vs)
  (h:Ar rep e size G W lo A k c a xs) {bs:List Nat} (m:Mod bs W W') (hb: ∀b ∈ bs,b < lo):Ar rep e size G W' lo A k c a xs:=
 ⟨own_mod h.own m (fun j hj hx=> by have:=(h.own.lt j hj).1;have:=hb j hx;omega),h.len,fun g=> by
  obtain ⟨S,h1,h2⟩:=h.tr g
  exact ⟨S,h1.imp (fun x vs=> hkeep W W' S x vs fun b hs=> m.block b (h2 b hs).2.1 (fun hx=> by have:=hb b hx;have:=(h2 b hs).1;omega)),fun b hs=> ⟨(h2 b hs).1,Nat.lt_of_lt_of_le (h2 b hs).2.1 m.size,(h2 b hs).2.2⟩⟩⟩
theorem Ar.put {W7 WF:World}{c7 lo1:Nat}{A7:Option Addr}{y:α}{vs:List Value}{bs:List Nat}
  (hkeep: ∀(w w':World) (S:Nat→Prop) (a:α) (vs:List Value),(∀b,S b→w'.heap[b]? =w.heap[b]?)→rep w S a vs→rep w' S a vs)
  (hmono: ∀(w:World) (S S':Nat→Prop) (a:α) (vs:List Value),(∀b,S b→S' b)→rep w S a vs→rep w S' a vs)
  (h:Ar rep e size G W lo A k c a xs) (hg:G'→G) (hlo:lo≤lo1) (hown: ∀b,(Value.slice A k c).ownBlock=some b→b < lo1) (hy:G'→∃S5,rep W S5 y vs∧In lo1 W S5)
  (g7:W.grownBy W7 (Value.slice A k c).ownBlock) (h7:(Value.slice A7 (k+1) c7).ownBlock=(Value.slice A k c).ownBlock∨(Value.slice A7 (k+1) c7).ownBlock=some W.heap.size)
  (oF:WF.ownsRow lo e size (.slice A7 (k+1) c7) (k+1) (xs ++vs)) (mF:Mod bs W7 WF) (hb: ∀x ∈ bs,x < lo∨(Value.slice A7 (k+1) c7).ownBlock=some x):Ar rep e size G' WF lo A7 (k+1) c7 (a ++ [y]) (xs ++vs):=by
 refine ⟨oF,by simp [h.len],fun g=> ?_⟩
 obtain ⟨S,h1,h2⟩:=h.tr (hg g)
 obtain ⟨S5,y1,y2⟩:=hy g
 obtain ⟨r1,e1⟩:=app_keep hkeep h1 h2 g7 h7
 obtain ⟨r2,e2⟩:=app_keep (lo:=lo) (l:=[y]) hkeep (Reps.one y1) (fun b hb=> ⟨Nat.le_trans hlo (y2 b hb).1,(y2 b hb).2,fun e=> by have:=hown b e;have:=(y2 b hb).1;omega⟩) g7 h7
 have hk: ∀(T:Nat→Prop),(∀b,T b→lo≤b∧b < W7.heap.size∧(Value.slice A7 (k+1) c7).ownBlock≠some b)→∀b,T b→WF.heap[b]? =W7.heap[b]? :=fun T hT b hb2=> mF.block b (hT b hb2).2.1 fun hx=> (hb b hx).elim (fun e=> by have:=(hT b hb2).1;omega) (hT b hb2).2.2
 have r1':=r1.imp (fun x vs=> hkeep W7 WF S x vs (hk S e1))
 have r2':=r2.imp (fun x vs=> hkeep W7 WF S5 x vs (hk S5 e2))
 obtain ⟨us,ys,q1,q2,q3⟩:=r2'
 have q3:ys=[]:=q3
 subst q3
 rw [List.append_nil]at q1
 subst q1
 exact ⟨fun b=> S b∨S5 b,reps_two hmono r1' q2,fun b hb=> (hb.elim (e1 b) (e2 b)).imp id fun h=> ⟨Nat.lt_of_lt_of_le h.1 mF.size,h.2⟩⟩
end
abbrev ArX:=Ar ExR 59 11
abbrev exL (k vk vn:Int)(vs nm cc:List UInt8)(o:Int)(A:Option Addr)(m c:Nat)(p q r:Int):List Value:=[nv k,nv vk,nv vn,sv vs,sv nm,sv cc,nv o,.slice A m c,nv p,nv q,nv r]
theorem XR.tree {lvl more g:Nat}{σ:Sg}{w w':World}{e:Ending}(h:XR lvl more σ g w e w'): ∃(k vk vn:Int) (vs nm cc:List UInt8) (o:Int) (A:Option Addr) (m c:Nat) (p q r:Int) (σ':Sg) (x:Ex),e= .returned (exVal k vk vn vs nm cc o (.slice A m c) p q r)∧ST w' g σ'∧Mod [g] w w'∧
  ∀d' r',σ'=some (d',r')→∃d l,(σ=some (d,l)∧d'=d∧r'.length < l.length)∧(∃S,ExR w' S x (exL k vk vn vs nm cc o A m c p q r)∧In w.heap.size w' S)∧okX x∧W 1 (toksX x lvl)+more+W 1 r'≤W 1 l:=by
 obtain ⟨V,σ',rfl,⟨k,vk,vn,vs,nm,cc,o,A,m,c,p,q,r,rfl⟩,h1,h2,h3⟩:=h
 cases σ' with
 | none=> exact ⟨k,vk,vn,vs,nm,cc,o,A,m,c,p,q,r,none,.var [],rfl,h1,h2,fun _ _ h=> nomatch h⟩
 | some y=>
  obtain ⟨d',r'⟩:=y
  obtain ⟨d,l,x,A',c',p',q',z',S,e1,⟨e2,h4,h5⟩,h6,h7⟩:=h3
  refine ⟨k,vk,vn,vs,nm,cc,o,A,m,c,p,q,r,_,x,rfl,h1,h2,fun d2 r2 e=> ?_⟩
  injection e with e
  injection e with e3 e4
  subst e3 e4
  refine ⟨d,l,e1,⟨S,?_,h5⟩,h6,h7⟩
  have:=h4.r p' q' z'
  have e3:(exL k vk vn vs nm cc o A m c p q r).toArray=(exC x (.slice A' (parts x).length c') p' q' z').toArray:=by injection e2
  rw [show exL k vk vn vs nm cc o A m c p q r=exC x (.slice A' (parts x).length c') p' q' z' by simpa using e3]
  exact this
def TX (G:Prop)(lo:Nat)(x:Ex)(vs:List Value)(V:World):Prop:=G→∃S,ExR V S x vs∧In lo V S
theorem TX.mod {G:Prop}{lo:Nat}{x:Ex}{vs:List Value}{V V':World}{bs:List Nat}(m:Mod bs V V')(hb: ∀b ∈ bs,b < lo)(h:TX G lo x vs V):TX G lo x vs V':=fun g=> by
 obtain ⟨S,h1,h2⟩:=h g
 exact ⟨S,ExR.keep (h2.keeps m hb) _ _ h1,h2.next m.size⟩
theorem Ar.at_ {G:Prop}{W:World}{lo k c:Nat}{A:Option Addr}{a:List Ex}{xs:List Value}(h:ArX G W lo A k c a xs)(hg:G){x:Ex}(hx:parts x=a): ∃S,ExAt W S x A c∧In lo W S:=by
 obtain ⟨S,h1,h2⟩:=h.tr hg
 have hr:=Row.of_own (S:=fun b=> S b∨(Value.slice A k c).ownBlock=some b) h.own (fun _ h=> .inr h)
 refine ⟨fun b=> S b∨(Value.slice A k c).ownBlock=some b,⟨xs,?_,?_⟩,fun b hb=> hb.elim (fun hb=> ⟨(h2 b hb).1,(h2 b hb).2.1⟩) (fun hb=> h.own.lt b hb)⟩
 ·rw [hx,h.len];exact hr
 ·rw [hx];exact h1.imp fun y us hy=> ExR.mono (fun _ h=> .inl h) y us hy
theorem lenS_nmA (σ:Sg):lenS (nmA σ)≤lenS σ:=by
 cases h:nmA σ with
 | none=> exact Nat.zero_le _
 | some y=>
  obtain ⟨t,e,_⟩:=nmA_inv (d:=y.1) (r:=y.2) h
  rw [e]
  simp [lenS]
theorem takeS_yes {σ:Sg}{s:List UInt8}(hs:s≠[])(hb:takeB σ s=true){d:Nat}{r:List Tok}(h:takeS σ s=some (d,r)): ∃t,σ=some (d,t::r)∧W 1 (t::r)=s.length+1+W 1 r:=by
 have ht:txS σ=s:=by simpa [takeB]using hb
 refine wantS_some hs ?_
 unfold wantS
 rw [if_pos ht,← h]
 unfold takeS
 rw [if_pos ht]
theorem takeS_no {σ:Sg}{s:List UInt8}(hb:takeB σ s=false):takeS σ s=σ:=by
 have ht:txS σ≠s:=by simpa [takeB]using hb
 unfold takeS
 rw [if_neg ht]
theorem numA_inv {g:Nat}{w:World}{σ:Sg}{d:Nat}{r:List Tok}(hs:ST w g σ)(h:numA σ=some (d,r)): ∃t,σ=some (d,t::r)∧t.1=2∧nnS σ=t.2.2.n∧okNum (nnS σ)∧(decL (nnS σ)).length+1+W 1 r≤W 1 (t::r):=by
 unfold numA at h
 split at h
 ·rename_i hn
  obtain ⟨d',t,l,rfl,hk⟩:=numS_pos hn
  injection h with h
  injection h with e1 e2
  subst e1 e2
  have e:nnS (some (d',t::l))=t.2.2.n:=if_pos hk
  have hz:=hs.z.1 t (by simp)
  obtain ⟨n,h1,h2⟩:=hz.1.1 hk
  refine ⟨t,rfl,hk,e,by rw [e,h2];exact h1,?_⟩
  rw [W_cons,e]
  have:=hz.2 hk
  unfold cw
  rw [if_neg (by omega)]
  omega
 ·cases h
def Eat (σ σ':Sg)(n:Nat):Prop:= ∀d r,σ'=some (d,r)→∃l,σ=some (d,l)∧r.length < l.length∧n+W 1 r≤W 1 l
theorem Eat.trans {σ σ1 σ2:Sg}{a b c:Nat}(h:Eat σ σ1 a)(k:Eat σ1 σ2 b)(e:c≤a+b):Eat σ σ2 c:=fun d r hr=> by
 obtain ⟨l,h1,h2,h3⟩:=k d r hr
 obtain ⟨m,h4,h5,h6⟩:=h d l h1
 exact ⟨m,h4,by omega,by omega⟩
theorem Eat.le {σ σ1:Sg}{a c:Nat}(h:Eat σ σ1 a)(e:c≤a):Eat σ σ1 c:=fun d r hr=> by
 obtain ⟨l,h1,h2,h3⟩:=h d r hr
 exact ⟨l,h1,h2,by omega⟩
def lenG:Sg→Nat
 | none=> 0
 | some (_,l)=> l.length+1
theorem Eat.less {σ σ':Sg}{n:Nat}(h:Eat σ σ' n)(h0:0 < lenG σ):lenG σ' < lenG σ:=by
 match σ' with
 | none=> exact h0
 | some (d,r)=>
  obtain ⟨l,h1,h2,_⟩:=h d r rfl
  rw [h1]
  simp [lenG]
  omega
theorem Eat.lenS {σ σ':Sg}{n:Nat}(h:Eat σ σ' n)(h0:0 < lenS σ):lenS σ' < lenS σ:=by
 match σ' with
 | none=> exact h0
 | some (d,r)=>
  obtain ⟨l,h1,h2,_⟩:=h d r rfl
  rw [h1]
  exact h2
theorem Eat.some {σ σ':Sg}{n:Nat}(h:Eat σ σ' n)(k:σ'≠none):σ≠none:=by
 cases σ' with
 | none=> exact absurd rfl k
 | some y=>
  obtain ⟨l,h1,_⟩:=h y.1 y.2 rfl
  rw [h1]
  simp
theorem Eat.want (σ:Sg){s:List UInt8}(hs:s≠[]):Eat σ (wantS σ s) (s.length+1):=fun d r h=> by
 obtain ⟨t,h1,h2⟩:=wantS_some hs h
 exact ⟨_,h1,by simp,by omega⟩
theorem Eat.take {σ:Sg}{s:List UInt8}(hs:s≠[])(hb:takeB σ s=true):Eat σ (takeS σ s) (s.length+1):=fun d r h=> by
 obtain ⟨t,h1,h2⟩:=takeS_yes hs hb h
 exact ⟨_,h1,by simp,by omega⟩
theorem Eat.name (σ:Sg):Eat σ (nmA σ) ((nameS σ).length+1)∧(nmA σ≠none→isNameL (nameS σ)=true):=by
 refine ⟨fun d r h=> ?_,fun h=> ?_⟩
 ·obtain ⟨t,h1,h2,_⟩:=nmA_inv h
  exact ⟨_,h1,by simp,by omega⟩
 ·cases h1:nmA σ with
  | none=> exact absurd h1 h
  | some y=> exact (nmA_inv (d:=y.1) (r:=y.2) h1).elim fun _ h=> h.2.2
theorem Eat.num {g:Nat}{w:World}{σ:Sg}(hs:ST w g σ):Eat σ (numA σ) ((decL (nnS σ)).length+1)∧(numA σ≠none→okNum (nnS σ)):=by
 refine ⟨fun d r h=> ?_,fun h=> ?_⟩
 ·obtain ⟨t,h1,_,_,_,h2⟩:=numA_inv hs h
  exact ⟨_,h1,by simp,by omega⟩
 ·cases h1:numA σ with
  | none=> exact absurd h1 h
  | some y=> exact (numA_inv (d:=y.1) (r:=y.2) hs h1).elim fun _ h=> h.2.2.2.1
end Go.Proofs.YtnbmpfdffoidaaaGreatDoor.Y
namespace Go.Proofs.YtnbmpfdffoidaaaGreatDoor.Y
open Go.RowKit O V S X
theorem setCell_comm {w:World}{a b i j:Nat}(h:a≠b)(u v:Value):(w.setCell ⟨a,i,none⟩ u).setCell ⟨b,j,none⟩ v=(w.setCell ⟨b,j,none⟩ v).setCell ⟨a,i,none⟩ u:=by
 unfold World.setCell
 simp only [World.mk.injEq,and_true]
 refine Array.ext_getElem? fun k=> ?_
 simp only [Array.getElem?_modify]
 by_cases h1:a=k
 ·by_cases h2:b=k
  ·omega
  ·simp [h1,h2]
 ·simp [h1]
theorem put11_comm {w:World}{g k b i:Nat}{u0 u1 u2 u3 u4 u5 u6 u7 u8 u9 u10:Value}(h:b≠g)(v:Value):put11 (w.setCell ⟨b,i,none⟩ v) g k u0 u1 u2 u3 u4 u5 u6 u7 u8 u9 u10=(put11 w g k u0 u1 u2 u3 u4 u5 u6 u7 u8 u9 u10).setCell ⟨b,i,none⟩ v:=by
 unfold put11
 simp only [setCell_comm h]
abbrev zL:List Value:=[nv 0,nv 0,nv 0,sv [],sv [],sv [],nv 0,.slice none 0 0,nv 0,nv 0,nv 0]
theorem Fr.row {g b lo k c c7 lo1 g9 i:Nat}{ms:List Nat}{w W w7:World}{σ:Sg}{cs cs':Array Value}{T:TypeId}{G:Prop}{A:Option Addr}{a:List Ex}{xs:List Value}{y:Ex}{p0:World→Prop}{u0 u1 u2 u3 u4 u5 u6 u7 u8 u9 u10:Value}
  (F:Fr g ms w W σ (Bx g b (.cells cs T (0,0)) (fun V=> p0 V∧ArX G V lo A k c a xs))) (hp: ∀V V':World,(∀j,j < lo→j≠b→V'.heap[j]? =V.heap[j]?)→p0 V→p0 V') (hps: ∀V V':World,Mod [g,b] V V'→p0 V→p0 V') (hms:b ∈ ms∨w.heap.size≤b) (hlw:w.heap.size≤lo) (hb:b < lo) (hG:σ≠none→G) (hlW:lo≤W.heap.size) (hlo:lo≤lo1) (hown: ∀b,(Value.slice A k c).ownBlock=some b→b < lo1)
  (hy:σ≠none→∃S,ExR W S y [u0,u1,u2,u3,u4,u5,u6,u7,u8,u9,u10]∧In lo1 W S) (hl:xs.length=k * 11)
  (o7:w7.ownsRow lo 59 11 (.slice (some ⟨g9,0,none⟩) (k+1) c7) (k+1) (xs ++zL)) (g7:W.grownBy w7 (Value.slice A k c).ownBlock)
  (h7:(Value.slice (some ⟨g9,0,none⟩) (k+1) c7).ownBlock=(Value.slice A k c).ownBlock∨(Value.slice (some ⟨g9,0,none⟩) (k+1) c7).ownBlock=some W.heap.size) (e:cs.setIfInBounds i (.slice (some ⟨g9,0,none⟩) (k+1) c7)=cs'):
  Hid (Fr g ms w ((put11 w7 g9 (k * 11) u0 u1 u2 u3 u4 u5 u6 u7 u8 u9 u10).setCell ⟨b,i,none⟩ (.slice (some ⟨g9,0,none⟩) (k+1) c7)) σ (Bx g b (.cells cs' T (0,0)) (fun V=> p0 V∧ArX (σ≠none) V lo (some ⟨g9,0,none⟩) (k+1) c7 (a ++ [y]) (xs ++ [u0,u1,u2,u3,u4,u5,u6,u7,u8,u9,u10])))):=by
 have hg9:=(o7.lt g9 rfl).1
 have hgb:=F.p.ne
 have hbW:b < W.heap.size:=(Array.getElem?_eq_some_iff.1 F.p.x).1
 have hn7: ∀j,j < lo→some j≠(Value.slice A k c).ownBlock:=fun j hj e=> by have:=(F.p.q.2.own.lt j e.symm).1;omega
 have hx7:=(g7.block b hbW (hn7 b hb)).trans F.p.x
 have hxp:(put11 w7 g9 (k * 11) u0 u1 u2 u3 u4 u5 u6 u7 u8 u9 u10).heap[b]? =some (.cells cs T (0,0)):=(put11_other (by omega)).trans hx7
 have m1:Mod [g9] w7 (put11 w7 g9 (k * 11) u0 u1 u2 u3 u4 u5 u6 u7 u8 u9 u10):=put11_mod
 have m2:Mod [g9,b] w7 ((put11 w7 g9 (k * 11) u0 u1 u2 u3 u4 u5 u6 u7 u8 u9 u10).setCell ⟨b,i,none⟩ (.slice (some ⟨g9,0,none⟩) (k+1) c7)):=(m1.more (fun x hx=> .inl (by simp at hx;simp [hx]))).set (.inl (by simp)) _
 refine Lib.hid ⟨F.gm,fun _ _=> Bx.st,?_,?_,⟨hgb,fun V V' m h=> ⟨hps _ _ m h.1,h.2.mod ex_keep m (fun j hj=> by simp at hj;omega)⟩,heap_set' hxp _ i e,hp _ _ (fun j hj hjb=> ?_) F.p.q.1,?_⟩⟩
 ·exact (F.m.grown g7 (fun j hj=> .inr (by have:=(F.p.q.2.own.lt j hj).1;omega))).trans m2 (fun x hx=> by
   simp at hx
   rcases hx with rfl | rfl
   ·exact .inr (by omega)
   ·exact hms.imp id fun h=> h)
 ·refine F.s.keep fun j hj=> (m2.block j (by have:=g7.size;omega) (by simp;omega)).trans (g7.block j (by omega) (hn7 j (by omega)))
 ·exact (m2.block j (by have:=g7.size;omega) (by simp;omega)).trans (g7.block j (by omega) (hn7 j hj))
 ·exact F.p.q.2.put ex_keep ex_mono hG hlo hown hy g7 h7 (own_mod (own_put11 o7 hl _ _ _ _ _ _ _ _ _ _ _) (bs:=[b]) ((Mod.refl _ _).set (.inl (by simp)) _) (fun j hj=> by have:g9=j:=Option.some.inj hj;simp;omega)) m2 (fun x hx=> by
   simp at hx
   rcases hx with rfl | rfl
   ·exact .inr rfl
   ·exact .inl hb)
theorem zswapX {Q:Exit→Act→World→Prop}{Z:Nat→Bool}{l:List Oper}{bs:List Nat}{i j:Nat}{rest:PlanZ}{a:Act}{w:World}{o o':Oper}{lo n c g9 b f k n' c':Nat}{A':Option Addr}{xs:List Value}{cs:Array Value}{T:TypeId}{ek evk evn:Int}{evs enm ecc:List UInt8}{eo:Int}{eA:Option Addr}{em ec:Nat}{ep eq er:Int}(sp sx sq sy:Operand)
  (hi:l[i]? =some o) (hj:l[j]? =some o') (hd:o.dst=none) (hd':o'.dst=none) (hw:Region.wanted o (yielded l.toArray a.tmps)=true) (hw':Region.wanted o' (yielded l.toArray a.tmps)=true)
  (ho:o.op= .store 59 sp sx) (ho':o'.op= .store 42 sq sy) (e1:a.eval sp= .pointer (some ⟨g9,k,none⟩)) (e2:a.eval sx=exVal ek evk evn evs enm ecc eo (.slice eA em ec) ep eq er) (e3:a.eval sq= .pointer (some ⟨b,f,none⟩)) (e4:a.eval sy= .slice A' n' c')
  (o7:w.ownsRow lo 59 11 (.slice (some ⟨g9,0,none⟩) n c) n (xs ++zL)) (hl:xs.length=k) (hx:w.heap[b]? =some (.cells cs T (0,0))) (hf:f < cs.size) (hne:b≠g9)
  (h:wpZ Tryz.prog l.toArray Q Z [] rest a ((put11 w g9 k (nv ek) (nv evk) (nv evn) (sv evs) (sv enm) (sv ecc) (nv eo) (.slice eA em ec) (nv ep) (nv eq) (nv er)).setCell ⟨b,f,none⟩ (.slice A' n' c'))):wpZ Tryz.prog l.toArray Q Z bs (.swap i j rest) a w:=by
 have r1: ∀(W:World),W.ownsRow lo 59 11 (.slice (some ⟨g9,0,none⟩) n c) n (xs ++zL)→(execOp a.eval o).run Tryz.prog W= .ok .skip (put11 W g9 k (nv ek) (nv evk) (nv evn) (sv evs) (sv enm) (sv ecc) (nv eo) (.slice eA em ec) (nv ep) (nv eq) (nv er)):=fun W oW=> by
  obtain ⟨⟨⟨⟨x0,x1⟩,x2,x3⟩,⟨x4,x5⟩,x6,x7⟩,⟨x8,x9⟩,x10⟩:=own_cells11 oW hl
  obtain ⟨⟨⟨⟨f0,f1⟩,f2,f3⟩,⟨f4,f5⟩,f6,f7⟩,⟨f8,f9⟩,f10⟩:=own_frozen11 oW k
  unfold execOp
  simp only [ho,e1,e2]
  go_simp
  unfold put11
  with_reducible rfl
 have r2: ∀(W:World),W.heap[b]? =some (.cells cs T (0,0))→(execOp a.eval o').run Tryz.prog W= .ok .skip (W.setCell ⟨b,f,none⟩ (.slice A' n' c')):=fun W hW=> by
  have x7:W.cell? ⟨b,f,none⟩=some cs[f]:=by rw [Lib.cell_of_heap hW];simp [hf]
  have f7:W.frozen? ⟨b,f,none⟩=false:=Lib.frozen_of_heap hW f
  unfold execOp
  simp only [ho',e3,e4]
  go_simp
 refine zswap (put11 w g9 k (nv ek) (nv evk) (nv evn) (sv evs) (sv enm) (sv ecc) (nv eo) (.slice eA em ec) (nv ep) (nv eq) (nv er)) (w.setCell ⟨b,f,none⟩ (.slice A' n' c')) _ hi hj hd hd' hw hw' (r1 w o7) (r2 _ ((put11_other hne).trans hx)) (r2 w hx) ?_ h
 rw [← put11_comm hne]
 exact r1 _ (own_mod (bs:=[b]) o7 ((Mod.refl [b] w).set (b:=b) (i:=f) (.inl (by simp)) _) (fun j hj=> by have:g9=j:=Option.some.inj hj;simp;omega))
end Go.Proofs.YtnbmpfdffoidaaaGreatDoor.Y
namespace Go.Proofs.YtnbmpfdffoidaaaGreatDoor.Y
open Go.RowKit O V S X
theorem eval_ne {a:Act}{d t:Nat}{v:Value}(h:d≠t):(a.put (some d) v).eval (.tmp t)=a.eval (.tmp t):=by
 unfold Act.put Act.eval
 simp only [Array.getD_eq_getD_getElem?,Array.getElem?_setIfInBounds]
 rw [if_neg h]
theorem eval_eq {a:Act}{d:Nat}{v:Value}(h:d < a.tmps.size):(a.put (some d) v).eval (.tmp d)=v:=by
 unfold Act.put Act.eval
 simp [Array.getD_eq_getD_getElem?,Array.getElem?_setIfInBounds,h]
theorem put_comm {a:Act}{d t:Nat}{u v:Value}(h:d≠t):(a.put (some d) u).put (some t) v=(a.put (some t) v).put (some d) u:=by
 unfold Act.put
 simp only [Act.mk.injEq,and_true]
 exact Array.setIfInBounds_comm _ _ h
theorem wp_value {P:Program}{K:Act→World→Prop}{Q:Exit→Act→World→Prop}{a:Act}{w w':World}{o:Oper}{v:Value}(h:(execOp a.eval o).run P w= .ok (.value v) w')(k:K (a.put o.dst v) w'):o.wp P a w K Q:=by
 unfold Oper.wp
 rw [h]
 exact k
theorem wp_call {P:Program}{K:Act→World→Prop}{Q:Exit→Act→World→Prop}{a:Act}{w:World}{o:Oper}{fn:Nat}{args:Array Operand}{ts:Array TypeId}{vs:Array Value}(ho:o.op= .call { callee:= .value (.func fn),args:=args,argTypes:=ts })(hv:args.map a.eval=vs)(hc:(callFunc fn vs).run P w= .ok (.enter fn vs) w){R:Ending→World→Prop}(h:Calls P fn vs w R)(hr: ∀e w',R e w'→∃v,e= .returned v∧K (a.put o.dst v) w'):o.wp P a w K Q:=by
 unfold Oper.wp execOp
 simp only [ho,resolve,Act.eval,Deferred.ofValue,invoke,Sem.run_bind,Sem.run_pure,Result.andThen_ok,Array.append_empty]
 rw [show (Array.map (fun x=> Act.eval a x) args)=vs from hv,Array.empty_append,hc]
 refine h.mono fun e w' k=> ?_
 obtain ⟨v,rfl,k2⟩:=hr e w' k
 exact k2
theorem run_zero (w:World)(a:Act)(o:Oper)(h:o.op= .buildSlice 42 1 #[(0,.const (.agg zL.toArray))]):(execOp a.eval o).run Tryz.prog w= .ok (.value (.slice (some ⟨w.heap.size,0,none⟩) 1 1)) (w.alloc (.cells zL.toArray 59)):=by
 unfold execOp
 simp only [h]
 go_simp
def XF (g:Nat)(ms:List Nat)(w W0:World)(lvl more:Nat)(p:World→Prop)(σ:Sg)(e:Ending)(W:World):Prop:= ∃(k vk vn:Int) (vs nm cc:List UInt8) (o:Int) (A:Option Addr) (m c:Nat) (x y z:Int) (σ':Sg) (t:Ex),
 e= .returned (exVal k vk vn vs nm cc o (.slice A m c) x y z)∧(Hid (Fr g ms w W σ' p)∧Mod [g] W0 W)∧Hid (Eat σ σ' (Y.W 1 (toksX t lvl)+more))∧Hid (σ'≠none→okX t)∧Hid (TX (σ'≠none) W0.heap.size t (exL k vk vn vs nm cc o A m c x y z) W)
theorem XR.fr {lvl more g:Nat}{σ:Sg}{ms:List Nat}{w W W':World}{e:Ending}{p:World→Prop}(h:XR lvl more σ g W e W')(F:Fr g ms w W σ p):XF g ms w W lvl more p σ e W':=by
 obtain ⟨k,vk,vn,vs,nm,cc,o,A,m,c,x,y,z,σ',t,rfl,h1,h2,h3⟩:=h.tree
 refine ⟨k,vk,vn,vs,nm,cc,o,A,m,c,x,y,z,σ',t,rfl,⟨F.mod h2 h1,h2⟩,Lib.hid fun d r e=> ?_,Lib.hid fun hs=> ?_,Lib.hid fun hs=> ?_⟩
 ·obtain ⟨d0,l,⟨h4,rfl,h5⟩,_,_,h6⟩:=h3 d r e
  exact ⟨l,h4,h5,by omega⟩
 ·cases σ' with
  | none=> exact absurd rfl hs
  | some v=> exact (h3 v.1 v.2 rfl).elim fun _ h=> h.elim fun _ h=> h.2.2.1
 ·cases σ' with
  | none=> exact absurd rfl hs
  | some v=> exact (h3 v.1 v.2 rfl).elim fun _ h=> h.elim fun _ h=> h.2.1
theorem growX {Q:Exit→Act→World→Prop}{Z:Nat→Bool}{l:List Oper}{i j m fn di dj dm x:Nat}{rest:PlanZ}{a:Act}{wd w:World}{oi oj om:Oper}{args:Array Operand}{vs:Array Value}{ts:Array TypeId}{g b lo lvl more k c:Nat}{ms:List Nat}{σ:Sg}{cs:Array Value}{T:TypeId}{p0:World→Prop}{G:Prop}{A:Option Addr}{ax:List Ex}{xs:List Value}
  (hi:l[i]? =some oi) (hj:l[j]? =some oj) (hm:l[m]? =some om) (wi: ∀y,Region.wanted oi y=true) (wj: ∀y,Region.wanted oj y=true) (wm: ∀y,Region.wanted om y=true)
  (ei:oi.op= .call { callee:= .value (.func fn),args:=args,argTypes:=ts }) (ej:oj.op= .buildSlice 42 1 #[(0,.const (.agg zL.toArray))]) (em:om.op= .call { callee:= .builtin .append,args:=#[.tmp x,.tmp dj],argTypes:=#[42,42] })
  (ti:oi.dst=some di) (tj:oj.dst=some dj) (tm:om.dst=some dm) (hx:a.eval (.tmp x)= .slice A k c) (hne:(di≠x∧dj≠x)∧di≠dj) (hsz:dj < a.tmps.size) (hv:args.map a.eval=vs) (hv2: ∀v,args.map (a.put (some dj) v).eval=vs) (hc: ∀W,(callFunc fn vs).run Tryz.prog W= .ok (.enter fn vs) W)
  (hC: ∀W,ST W g σ→Calls Tryz.prog fn vs W (XR lvl more σ g W)) (F:Hid (Fr g ms w wd σ (Bx g b (.cells cs T (0,0)) (fun V=> p0 V∧ArX G V lo A k c ax xs)))) (hk:k≤1000) (hlo:lo≤wd.heap.size) (hb:b < lo)
  (h: ∀(vi vj:Value) (W wA:World) (ek evk evn:Int) (evs enm ecc:List UInt8) (eo:Int) (eA:Option Addr) (eM ec:Nat) (ep eq er:Int) (σ8:Sg) (y:Ex) (g9 c7:Nat),vi=exVal ek evk evn evs enm ecc eo (.slice eA eM ec) ep eq er→
   Hid (Fr g ms w W σ8 (Bx g b (.cells cs T (0,0)) (fun V=> p0 V∧ArX G V lo A k c ax xs)))→Hid (Eat σ σ8 (Y.W 1 (toksX y lvl)+more))→Hid (σ8≠none→okX y)→(σ8≠none→∃S,ExR W S y (exL ek evk evn evs enm ecc eo eA eM ec ep eq er)∧In wd.heap.size W S)→
   wA.ownsRow lo 59 11 (.slice (some ⟨g9,0,none⟩) (k+1) c7) (k+1) (xs ++zL)→W.grownBy wA (Value.slice A k c).ownBlock→((Value.slice (some ⟨g9,0,none⟩) (k+1) c7).ownBlock=(Value.slice A k c).ownBlock∨(Value.slice (some ⟨g9,0,none⟩) (k+1) c7).ownBlock=some W.heap.size)→wd.heap.size≤W.heap.size→
   wpZ Tryz.prog l.toArray Q Z [b] rest (((a.put (some di) vi).put (some dj) vj).put (some dm) (.slice (some ⟨g9,0,none⟩) (k+1) c7)) wA):
  wpZ Tryz.prog l.toArray Q Z [b] (.two i j (.call j (.call m rest)) (.call i (.call m rest))) a wd:=by
 have hbd:=(Array.getElem?_eq_some_iff.1 F.out.p.x).1
 have hgb:=F.out.p.ne
 have hown: ∀b,(Value.slice A k c).ownBlock=some b→b < wd.heap.size:=fun b h=> (F.out.p.q.2.own.lt b h).2
 have tail: ∀(vi:Value) (V:World) (z0:Nat) (ek evk evn:Int) (evs enm ecc:List UInt8) (eo:Int) (eA:Option Addr) (eM ec:Nat) (ep eq er:Int) (σ8:Sg) (y:Ex),vi=exVal ek evk evn evs enm ecc eo (.slice eA eM ec) ep eq er→
   Hid (Fr g ms w V σ8 (Bx g b (.cells cs T (0,0)) (fun V=> p0 V∧ArX G V lo A k c ax xs)))→Hid (Eat σ σ8 (W 1 (toksX y lvl)+more))→Hid (σ8≠none→okX y)→(σ8≠none→∃S,ExR V S y (exL ek evk evn evs enm ecc eo eA eM ec ep eq er)∧In wd.heap.size V S)→
   V.heap[z0]? =some (.cells zL.toArray 59 (0,0))→wd.heap.size≤V.heap.size→wpZ Tryz.prog l.toArray Q Z [b] (.call m rest) ((a.put (some di) vi).put (some dj) (.slice (some ⟨z0,0,none⟩) 1 1)) V:=by
  intro vi V z0 ek evk evn evs enm ecc eo eA eM ec ep eq er σ8 y e8 F8 E8 N8 T8 ZX hz
  refine zcall hm (wm _) (fun K hK=> ?_)
  refine wapp4 (.tmp x) (.tmp dj) exE em lo xs (by rw [eval_ne hne.1.2,eval_ne hne.1.1,hx]) F8.out.p.q.2.own (eval_eq (by simpa [Act.put]using hsz)) zL ((Row.of_block (S:=fun k=> k=z0) (n:=1) (c:=1) (xs:=zL) ZX rfl rfl (by omega) (by omega)).rd (B:=z0+1) (fun b hb=> by omega)) (by simp [Value.oneCell']) (by unfold maxLen;omega) (by omega) (by omega) rfl ?_
  intro A7 c7 wA o7 g7 h7
  obtain ⟨g9,rfl,hg9,hg9l⟩:=own_form o7 (by omega)
  refine hK.out _ _ (fun b' hb=> by simp at hb;rw [hb];exact g7.block _ (by omega) (fun e=> by have:=(F8.out.p.q.2.own.lt _ e.symm).1;omega)) ?_
  rw [tm]
  exact h vi _ V wA ek evk evn evs enm ecc eo eA eM ec ep eq er σ8 y g9 c7 e8 F8 E8 N8 T8 o7 g7 h7 hz
 refine ztwo hi (wi _) hj (wj _) (fun K hK=> ?_) (fun K hK=> ?_)
 ·refine wp_call ei hv (hc wd) (hC wd F.out.s) (fun e w8 hx=> ?_)
  obtain ⟨ek,evk,evn,evs,enm,ecc,eo,eA,eM,ec,ep,eq,er,σ8,y,rfl,⟨F8,m8⟩,E8,N8,T8⟩:=hx.fr F.out
  refine ⟨_,rfl,hK.out _ _ (fun b' hb=> by simp at hb;rw [hb];exact m8.block _ hbd (by simp;omega)) ?_⟩
  rw [ti]
  refine zcall hj (wj _) (fun K hK=> ?_)
  refine wp_value (run_zero _ _ _ ej) ?_
  have h8:=m8.size
  refine hK.out _ _ (fun b' hb=> by simp at hb;exact Below.heap_alloc _ _ _ (by omega)) ?_
  rw [tj]
  refine tail _ _ _ ek evk evn evs enm ecc eo eA eM ec ep eq er σ8 y rfl (F8.out.next one_new) E8 N8 (fun hs=> ?_) (alloc_at rfl) (by simp;omega)
  obtain ⟨S,h1,h2⟩:=T8.out hs
  exact ⟨S,ExR.keep (fun b hb=> Below.heap_alloc _ _ _ (h2 b hb).2) _ _ h1,h2.next (by simp)⟩
 ·refine wp_value (run_zero _ _ _ ej) ?_
  refine hK.out _ _ (fun b' hb=> by simp at hb;exact Below.heap_alloc _ _ _ (by omega)) ?_
  rw [tj]
  refine zcall hi (wi _) (fun K hK=> ?_)
  have Fe:=F.out.next (one_new (o:= .cells zL.toArray 59))
  refine wp_call ei (hv2 _) (hc _) (hC _ Fe.out.s) (fun e w8 hx=> ?_)
  obtain ⟨ek,evk,evn,evs,enm,ecc,eo,eA,eM,ec,ep,eq,er,σ8,y,rfl,⟨F8,m8⟩,E8,N8,T8⟩:=hx.fr Fe.out
  have hze:(wd.alloc (.cells zL.toArray 59)).heap.size=wd.heap.size+1:=by simp
  refine ⟨_,rfl,hK.out _ _ (fun b' hb=> by simp at hb;rw [hb];exact m8.block _ (by omega) (by simp;omega)) ?_⟩
  rw [ti,put_comm (fun e=> hne.2 e.symm)]
  have h8:=m8.size
  refine tail _ _ _ ek evk evn evs enm ecc eo eA eM ec ep eq er σ8 y rfl F8 E8 N8 (fun hs=> ?_) (m8.box (alloc_at rfl) (by simp;omega)) (by omega)
  obtain ⟨S,h1,h2⟩:=T8.out hs
  exact ⟨S,h1,h2.more (by omega)⟩
end Go.Proofs.YtnbmpfdffoidaaaGreatDoor.Y
namespace Go.Proofs.YtnbmpfdffoidaaaGreatDoor.Y
open Go.RowKit O V S X
def WA (a:List Ex):Nat:=(a.map fun x=> 2+W 1 (toks0 x)).sum
theorem WA_snoc (a:List Ex)(x:Ex):WA (a ++ [x])=WA a+(2+W 1 (toks0 x)):=by unfold WA;simp
theorem len2 {α:Type}: ∀{l:List α},l.length=2→∃x y,l=[x,y]
 | [x,y],_=> ⟨x,y,rfl⟩
def headW (kd:Nat)(nm cc:List UInt8):Nat:=2+(nm.length+1)+if kd=5 then 2+(cc.length+1)else 0
def CI (kd d0:Nat)(l0:List Tok)(nm cc:List UInt8)(a:List Ex)(σ:Sg):Prop:= ∀d r,σ=some (d,r)→(d=d0+1∧r.length < l0.length)∧(isNameL nm=true∧(kd=5→isNameL cc=true))∧(∀x ∈ a,okX x)∧headW kd nm cc+WA a+W 1 r≤W 1 l0
def CallR (kd d0 : Nat) (l0 : List Tok) (w : World) (g b : Nat) (p q z : Int) (e : Ending) (w' : World) : Prop := ∃ (nm cc : List UInt8) (A : Option Addr) (k c : Nat) (a : List Ex) (xs : List Value) (σ' : Sg), e = .returned (.tuple #[]) ∧
      Hid (Fr g [g,b] w w' σ' (Bx g b (exB kd 0 0 [] nm cc 0 (.slice A k c) p q z) (fun V=> ArX (σ'≠none) V w.heap.size A k c a xs)))∧∀d r,σ'=some (d,r)→(d=d0∧r.length < l0.length)∧∃x,exVal kd 0 0 [] nm cc 0 (.slice A k c) p q z=exX x A c p q z∧parts x=a∧okX x∧W 1 (toksX x 7)+W 1 r≤(if kd=6 then 6 else 4)+W 1 l0
theorem f_call (f:Nat)(HE:ExprC f)(kd n:Nat)(hk:(kd=4∧n=1)∨(kd=5∧n=2)∨(kd=6∧n=2))(d0:Nat)(t:Tok)(l0:List Tok)(w:World)(g b:Nat)(p q z:Int)(h:ST w g (some (d0,t::l0)))(hgb:g < b)(hb:w.heap[b]? =some (exB 0 0 0 [] [] [] 0 (.slice none 0 0) p q z))(hm:10 * l0.length+7≤f):
  Calls Tryz.prog 182 #[.pointer (some ⟨g,0,none⟩),.pointer (some ⟨b,0,none⟩),nv kd,nv n] w (CallR kd d0 l0 w g b p q z):=by
 have hbl:b < w.heap.size:=(Array.getElem?_eq_some_iff.1 hb).1
 have HE:=Lib.hid HE
 have F:Hid (Fr g [g,b] w w (some (d0,t::l0)) (Bx g b (exB 0 0 0 [] [] [] 0 (.slice none 0 0) p q z) (fun _=> True))):=Lib.hid ⟨by simp,fun _ _=> Bx.st,Mod.refl _ _,h,⟨hgb,fun _ _ _ _=> trivial,hb,trivial⟩⟩
 clear h hb
 obtain ⟨QA,qn,qc,i0,qa,qb,qx,qy,qz,qr,hbox,hi0,F1⟩:=F.out.inc
 obtain ⟨⟨⟨c0,c1⟩,c2,c3⟩,⟨⟨c4,c5⟩,c6,c7⟩,c8,c9⟩:=cells10 hbox
 obtain ⟨⟨⟨g0,g1⟩,g2,g3⟩,⟨⟨g4,g5⟩,g6,g7⟩,g8,g9⟩:=frozen10 hbox
 clear hbox
 go_enter Tryz.func182,Tryz.ntmps182
 go_upto_region 1 with fail
 clear c0 c1 c2 c3 c4 c5 c6 c7 c8 c9 g0 g1 g2 g3 g4 g5 g6 g7 g8 g9 F
 obtain ⟨w1,hw⟩: ∃W,w.setCell ⟨g,1,none⟩ (nv ((i0:Int)+1))=W:=⟨_,rfl⟩
 rw [hw]at F1
 rw [hw]
 clear hw
 obtain ⟨⟨⟨⟨x0,x1⟩,x2,x3⟩,⟨x4,x5⟩,x6,x7⟩,⟨x8,x9⟩,x10⟩:=cells11 F1.out.p.x
 obtain ⟨⟨⟨⟨f0,f1⟩,f2,f3⟩,⟨f4,f5⟩,f6,f7⟩,⟨f8,f9⟩,f10⟩:=frozen11 F1.out.p.x
 go_upto_region 2 with fail
 clear x0 x1 x2 x3 x4 x5 x6 x7 x8 x9 x10 f0 f1 f2 f3 f4 f5 f6 f7 f8 f9 f10
 have F2:Hid (Fr g [g,b] w _ _ (Bx g b (exB kd 0 0 [] [] [] 0 (.slice none 0 0) p q z) fun _=> True)):=F1.out.set 0 (nv kd) (.inl (by simp)) rfl
 clear F1
 obtain ⟨w2,hw⟩: ∃W,w1.setCell ⟨b,0,none⟩ (nv kd)=W:=⟨_,rfl⟩
 rw [hw]at F2
 rw [hw]
 clear hw
 go_wp2_with fail
 refine (Fr.open_ F2 [40] (by simp)).mono ?_;rintro e w3 ⟨rfl,F3⟩
 have S3:Hid (∀d r,openS (some (d0,l0)) [40]=some (d,r)→d=d0+1∧r.length < l0.length∧2+W 1 r≤W 1 l0):=Lib.hid fun d r he=> by
  obtain ⟨d1,t1,e1,e2,e3,_⟩:=openS_inv (by simp) he
  injection e1 with e1
  injection e1 with e1 e4
  subst e1 e4
  exact ⟨e2,by simp,by rw [e3];simp⟩
 clear F2
 generalize openS (some (d0,l0)) [40]=σ3 at *
 go_wp2_with fail
 refine (Fr.name F3).mono ?_;rintro e w4 ⟨rfl,F4⟩
 obtain ⟨⟨⟨⟨x0,x1⟩,x2,x3⟩,⟨x4,x5⟩,x6,x7⟩,⟨x8,x9⟩,x10⟩:=cells11 F4.out.p.x
 obtain ⟨⟨⟨⟨f0,f1⟩,f2,f3⟩,⟨f4,f5⟩,f6,f7⟩,⟨f8,f9⟩,f10⟩:=frozen11 F4.out.p.x
 go_upto_if 28 with fail
 clear x0 x1 x2 x3 x4 x5 x6 x7 x8 x9 x10 f0 f1 f2 f3 f4 f5 f6 f7 f8 f9 f10
 have F5:Hid (Fr g [g,b] w _ _ (Bx g b (exB kd 0 0 [] (nameS σ3) [] 0 (.slice none 0 0) p q z) fun _=> True)):=F4.out.set 4 (sv (nameS σ3)) (.inl (by simp)) rfl
 obtain ⟨w5,hw⟩: ∃W,w4.setCell ⟨b,4,none⟩ (sv (nameS σ3))=W:=⟨_,rfl⟩
 rw [hw]at F5
 first | rw [hw] | (unfold sv at hw;rw [hw])
 clear hw F3 F4
 have S5:Hid (∀d r,nmA σ3=some (d,r)→(d=d0+1∧r.length < l0.length)∧isNameL (nameS σ3)=true∧2+((nameS σ3).length+1)+W 1 r≤W 1 l0):=Lib.hid fun d r he=> by
  obtain ⟨t1,e1,e2,e3⟩:=nmA_inv he
  obtain ⟨e4,e5,e6⟩:=S3.out _ _ e1
  exact ⟨⟨e4,by simp at e5;omega⟩,e3,by omega⟩
 clear S3
 generalize nameS σ3=nm at *
 generalize nmA σ3=σ5 at *
 go_cut [8] (fun _ wx=> ∃(cc:List UInt8) (σ6:Sg),Hid (Fr g [g,b] w wx σ6 (Bx g b (exB kd 0 0 [] nm cc 0 (.slice none 0 0) p q z) fun _=> True))∧Hid (CI kd d0 l0 nm cc [] σ6∧(kd≠5→cc=[])))
 case first=>
  by_cases hk5:kd=5
  ·have e1:((kd:Int)==5)=true:=by simp;omega
   have HK5:=Lib.hid hk5
   clear hk5
   go_wp2_with fail
   refine (Fr.want F5 [46] (by simp)).mono ?_;rintro e w6 ⟨rfl,F6⟩
   have S6:Hid (∀d r,wantS σ5 [46]=some (d,r)→∃t,σ5=some (d,t::r)∧W 1 (t::r)=2+W 1 r):=Lib.hid fun d r he=> wantS_some (by simp) he
   clear F5
   generalize wantS σ5 [46]=σ6 at *
   go_wp2_with fail
   refine (Fr.name F6).mono ?_;rintro e w7 ⟨rfl,F7⟩
   have S7:Hid (CI kd d0 l0 nm (nameS σ6) [] (nmA σ6)):=Lib.hid fun d r he=> by
    obtain ⟨t1,e1,e2,e3⟩:=nmA_inv he
    obtain ⟨t2,e4,e5⟩:=S6.out _ _ e1
    obtain ⟨⟨e6,e7⟩,e8,e9⟩:=S5.out _ _ e4
    refine ⟨⟨e6,by simp at e7;omega⟩,⟨e8,fun _=> e3⟩,fun _ h=> (by simp at h),?_⟩
    unfold headW WA
    rw [if_pos HK5.out]
    simp
    omega
   clear F6 S6
   generalize nameS σ6=cc at *
   generalize nmA σ6=σ7 at *
   obtain ⟨⟨⟨⟨x0,x1⟩,x2,x3⟩,⟨x4,x5⟩,x6,x7⟩,⟨x8,x9⟩,x10⟩:=cells11 F7.out.p.x
   obtain ⟨⟨⟨⟨f0,f1⟩,f2,f3⟩,⟨f4,f5⟩,f6,f7⟩,⟨f8,f9⟩,f10⟩:=frozen11 F7.out.p.x
   go_wp2_with fail
   clear x0 x1 x2 x3 x4 x5 x6 x7 x8 x9 x10 f0 f1 f2 f3 f4 f5 f6 f7 f8 f9 f10
   go_meet
   exact ⟨cc,σ7,F7.out.set 5 (sv cc) (.inl (by simp)) rfl,Lib.hid ⟨S7.out,fun h=> absurd HK5.out h⟩⟩
  ·have e1:((kd:Int)==5)=false:=by simp;omega
   have HK5:=Lib.hid hk5
   clear hk5
   go_wp2_with fail
   go_meet
   refine ⟨[],σ5,F5,Lib.hid ⟨fun d r he=> ?_,fun _=> rfl⟩⟩
   obtain ⟨e2,e3,e4⟩:=S5.out _ _ he
   refine ⟨e2,⟨e3,fun h=> absurd h HK5.out⟩,fun _ h=> (by simp at h),?_⟩
   unfold headW WA
   rw [if_neg HK5.out]
   simp
   omega
 case rest=>
  obtain ⟨cc,σ6,F6,S6⟩:=hcut
  clear F5 S5
  go_wp2_with fail
  go_loopw [8] (fun iv wr=> ∃(i:Nat) (σ:Sg) (A:Option Addr) (c:Nat) (a:List Ex) (xs:List Value),i≤n∧iv= .int .i64 (i:Int)∧Hid (Fr g [g,b] w wr σ (Bx g b (exB kd 0 0 [] nm cc 0 (.slice A i c) p q z) (fun V=> True∧ArX (σ≠none) V w.heap.size A i c a xs)))∧Hid (CI kd d0 l0 nm cc a σ)) (fun iv _=> n - (intOf iv).toNat)
  case atStart=> exact ⟨0,σ6,none,0,[],[],by omega,rfl,F6.out.as (fun V V' m h=> ⟨trivial,h.2.mod ex_keep m (fun j hj=> by simp at hj;omega)⟩) ⟨trivial,Ar.nil_ _ _⟩,Lib.hid S6.out.1⟩
  case round=>
   clear F6
   obtain ⟨i,σ,A,c,a,xs,hin,rfl,F,S⟩:=hrel
   by_cases hlt:i < n
   ·have hii:(i:Int) < (n:Int):=by omega
    go_wp2_with fail
    refine (Fr.want F [44] (by simp)).mono ?_;rintro e w7 ⟨rfl,F7⟩
    obtain ⟨σ7,hσ7⟩: ∃s,wantS σ [44]=s:=⟨_,rfl⟩
    have S7:Hid (Eat σ σ7 2):=Lib.hid (by rw [← hσ7];exact (Eat.want σ (s:=[44]) (by simp)).le (by simp))
    have hm7:10 * lenS σ7+7≤f:=by
     cases σ7 with
     | none=> simp [lenS];omega
     | some y=>
      obtain ⟨l1,e1,h1,_⟩:=S7.out y.1 y.2 rfl
      have:=(S.out _ _ e1).1.2
      simp [lenS]
      omega
    rw [hσ7]at F7
    clear hσ7 F
    go_upto_region 11 with fail
    obtain ⟨wd,hwd⟩: ∃W,w7.drew=W:=⟨_,rfl⟩
    have Fd:Hid (Fr g [g,b] w wd σ7 _):=Lib.hid (by rw [← hwd];exact (F7.out.next (Below.refl _ _).drew).out)
    clear F7
    refine wp_region_Z [10,13] [b] (.read 0 (.read 1 (.read 2 (.read 3 (.read 4 (.read 6 (.two 5 7 (.call 7 (.call 8 (.pure 9 (.pure 11 (.pure 12 (.swap 10 13 .done)))))) (.call 5 (.call 8 (.pure 9 (.pure 11 (.pure 12 (.swap 10 13 .done))))))))))))) (by kernel_rfl) (by kernel_rfl) (fun _ _ d _ _ h=> by cases d <;> exact h) ?_
    rw [hwd]
    clear hwd
    refine zwith (fun W hW=> cells11 ((hW b (by simp)).trans Fd.out.p.x)) (fun qx=> ?_)
    repeat (refine zrE ?_;simp only [Act.put,sA,sB,sC])
    clear qx
    have hsd:=Fd.out.m.size
    refine growX (vs:=#[.pointer (some ⟨g,0,none⟩),nv 1]) rfl rfl rfl (fun _=> rfl) (fun _=> rfl) (fun _=> rfl) rfl rfl rfl rfl rfl rfl rfl (by decide) (by simp) (by simp [Act.eval]) (fun v=> by simp [Act.eval,Act.put]) (fun W=> by go_simp) (fun W h=> HE.out 1 σ7 W g (by omega) (by omega) h hm7) Fd (by omega) (by omega) (by omega) ?_
    intro vi vj w9 wA ek evk evn evs enm ecc eo eA em ec ep eq er σ8 y g9 c7 hvi F9 E9 N9 T9 o7 g7 h7 hz9
    subst hvi
    try simp only [Act.put,sA,sB,sC]
    have hg9:=(o7.lt g9 rfl).1
    have hl9:xs.length=i * 11:=F9.out.p.q.2.own.1
    have hb9:=(Array.getElem?_eq_some_iff.1 F9.out.p.x).1
    have hx7:=(g7.block _ hb9 (fun e=> by have:=(F9.out.p.q.2.own.lt _ e.symm).1;omega)).trans F9.out.p.x
    have hown:=fun b h=> (Fd.out.p.q.2.own.lt b h).2
    repeat (refine zpE ?_;simp only [Act.put,sA,sB,sC])
    have FF:Hid (Fr g _ w _ σ8 (Bx g _ (exB kd 0 0 [] nm cc 0 (.slice (some ⟨g9,0,none⟩) (i+1) c7) p q z) _)):=F9.out.row (i:=7) (y:=y) (lo1:=wd.heap.size) (fun _ _ _ h=> h) (fun _ _ _ h=> h) (.inl (by simp)) (by omega) (by omega) (fun h=> S7.out.some (E9.out.some h)) (by omega) (by omega) hown T9 hl9 o7 g7 h7 rfl
    refine zswapX (.tmp 52) (.tmp 48) (.tmp 54) (.tmp 51) rfl rfl rfl rfl rfl rfl rfl rfl rfl rfl rfl rfl o7 hl9 hx7 (by simp) (by omega) (zdone ?_)
    generalize hw:(put11 wA g9 (i * 11) (nv ek) (nv evk) (nv evn) (sv evs) (sv enm) (sv ecc) (nv eo) (.slice eA em ec) (nv ep) (nv eq) (nv er)).setCell _ _=wF at FF⊢
    clear hw o7 g7 h7 hx7 F9 hown T9 hb9 hl9 hg9 Fd hz9
    have SF:Hid (CI kd d0 l0 nm cc (a ++ [y]) σ8):=Lib.hid fun d' r' e=> by
     obtain ⟨l,h1,h2,h3⟩:=E9.out d' r' e
     obtain ⟨m,h6,h7,h8⟩:=S7.out _ _ h1
     obtain ⟨⟨h9,hA⟩,hB,hC,hD⟩:=S.out _ _ h6
     have hE:=W_0 (e:=1) y 1
     refine ⟨⟨by omega,by omega⟩,hB,fun x hx=> (List.mem_append.1 hx).elim (hC x) (fun h=> by simp at h;rw [h];exact N9.out (by rw [e];simp)),?_⟩
     rw [WA_snoc]
     omega
    go_wp2_with fail
    go_roundw
    case rel=> exact ⟨i+1,σ8,_,c7,a ++ [y],_,by omega,by go_num,FF,SF⟩
    case measure=> simp [intOf];omega
   ·obtain rfl:i=n:=by omega
    go_wp2_with fail
    refine (Fr.shut F [41] (by simp) (fun d r e=> by have:=(S.out _ _ e).1.1;omega)).mono ?_;rintro e w7 ⟨rfl,F7⟩
    go_wp2_with fail
    first | go_end0 | refine bodyPost_ret (results_none rfl _ _ _) rfl ?_
    have hG:shutS σ [41]≠none→σ≠none:=fun h e=> h (by rw [e];rfl)
    refine ⟨nm,cc,A,i,c,a,xs,_,rfl,F7.out.as (fun V V' m h=> h.mod ex_keep m (fun j hj=> by simp at hj;omega)) (F7.out.p.q.2.imp hG),fun d r e=> ?_⟩
    obtain ⟨d1,t1,e1,e2,e3⟩:=shutS_inv (by simp) e
    obtain ⟨⟨h1,h2⟩,⟨h3,h4⟩,h5,h6⟩:=S.out _ _ e1
    have hlen:=F.out.p.q.2.len
    refine ⟨⟨by omega,by simp at h2;omega⟩,?_⟩
    unfold headW WA at h6
    rcases hk with ⟨rfl,rfl⟩ | ⟨rfl,rfl⟩ | ⟨rfl,rfl⟩
    ·obtain ⟨x,rfl⟩:=List.length_eq_one_iff.1 hlen
     obtain rfl:=S6.out.2 (by decide)
     refine ⟨.has nm x,rfl,rfl,⟨h3,h5 x (by simp)⟩,?_⟩
     rw [toksX_no (by simp [lvlX]),toks0]
     simp only [W_cons,W_app,W_nil,cw_w,cw_g,w_has,List.length_cons,List.length_nil,List.map_cons,List.map_nil,List.sum_cons,List.sum_nil]at h6 e3⊢
     simp at h6⊢
     omega
    ·obtain ⟨x,y,rfl⟩:=len2 hlen
     refine ⟨.sum nm cc x y,rfl,rfl,⟨h3,h4 rfl,h5 x (by simp),h5 y (by simp)⟩,?_⟩
     rw [toksX_no (by simp [lvlX]),toks0]
     simp only [W_cons,W_app,W_nil,cw_w,cw_g,w_sum,List.length_cons,List.length_nil,List.map_cons,List.map_nil,List.sum_cons,List.sum_nil]at h6 e3⊢
     simp at h6⊢
     omega
    ·obtain ⟨x,y,rfl⟩:=len2 hlen
     obtain rfl:=S6.out.2 (by decide)
     refine ⟨.cnt nm x y,rfl,rfl,⟨h3,h5 x (by simp),h5 y (by simp)⟩,?_⟩
     rw [toksX_no (by simp [lvlX]),toks0]
     simp only [W_cons,W_app,W_nil,cw_w,cw_g,w_count,List.length_cons,List.length_nil,List.map_cons,List.map_nil,List.sum_cons,List.sum_nil]at h6 e3⊢
     simp at h6⊢
     omega
end Go.Proofs.YtnbmpfdffoidaaaGreatDoor.Y
