/- Texts of the proof, joined: SynPx3, ValParse, ValRParse. -/
import Derived.Test.YtnbmpfdffoidaaaGreatDoorPr01
import Derived.Test.YtnbmpfdffoidaaaGreatDoorPr02
import Derived.Test.YtnbmpfdffoidaaaGreatDoorPr04
import Derived.Test.YtnbmpfdffoidaaaGreatDoorPr06
import Derived.Test.YtnbmpfdffoidaaaGreatDoorPr07
import Derived.IntWalk
import Derived.RegionTactic
import Derived.ChangeAlike
set_option linter.unusedVariables false
set_option linter.unusedSimpArgs false
set_option maxHeartbeats 8000000
set_option maxRecDepth 100000
namespace Go.Proofs.YtnbmpfdffoidaaaGreatDoor.Y
open Go.RowKit O V S X
theorem arg_at {x:Ex}{A:Option Addr}{c:Nat}{p q r:Int}{S:Nat→Prop}{i g:Nat}{w:World}(hi:i < (parts x).length)(hg:g≤w.heap.size)(h:ExAt w S x A c)(hS: ∀b,S b→b < g):
  ∃A' c' p' q' r',Arg g (exX x A c p q r) i (exX (parts x)[i] A' c' p' q' r') w∧ExAt w S (parts x)[i] A' c':=by
 obtain ⟨b,off,A',c',p',q',r',rfl,hb,hc,h3⟩:=h.part hS hi
 refine ⟨A',c',p',q',r',fun w' hw=> ?_,h3⟩
 exact arg_raw _ _ _ _ _ _ _ _ _ _ b off (parts x).length c i rfl hi (by have:=parts_len x;omega) _ _ _ _ _ _ _ A' _ c' p' q' r' w' (by have:=hw.size;omega) (fun j hj=> (hw.cell (p:=⟨b,off+i * 11+j,none⟩) hb).trans (hc j hj))
theorem toksX_no {x:Ex}{least:Nat}(h:least≤lvlX x):toksX x least=toks0 x:=by unfold toksX br;rw [if_neg (by omega)]
theorem toksX_yes {x:Ex}{least:Nat}(h:lvlX x < least):toksX x least=tg [40]::(toks0 x ++ [tg [41]]):=by unfold toksX br;rw [if_pos h]
def PX0 (x:Ex):Prop:= ∀least,least≤lvlX x→PX x least
theorem PX0.all {x:Ex}(hx:okX x)(h:PX0 x): ∀least,PX x least:=by
 intro least
 by_cases hl:least≤lvlX x
 ·exact h least hl
 ·intro A c p q r g S w hat hS hg
  have h0:=h 0 (by omega) A c p q r g S w hat hS hg
  rw [toksX_no (by omega)]at h0
  rw [toksX_yes (by omega)]
  have:=brk_raw (hdK x) (hdV x).k (hdV x).n (hdV x).s (hdN x) (hdC x) (hdO x:Nat) A (parts x).length c p q r g w (lvlX x) least (txts (toks0 x)) (fun w'=> level_any x hx _ p q r w') (by omega) h0
  rw [txts_cons,txts_app]
  exact this
theorem px_any: ∀x,okX x→∀least,PX x least:=
 Ex.ind fun x ih hx=> by
  refine PX0.all hx fun least hl A c p q r g S w hat hS hg=> ?_
  rw [toksX_no hl]
  have hlev:Lev (exX x A c p q r) (lvlX x):=fun w'=> level_any x hx _ p q r w'
  cases x with
  | val v=>
   have h1:v.s.length≤1000000000∧-9223372036854775808≤v.n∧v.n≤9223372036854775807:=by
    have hx:okV v:=hx
    obtain ⟨k,n,s⟩:=v
    rcases right_cases hx.1 with ⟨e,e2⟩ | ⟨e,e2,e3⟩ | ⟨e,e2,e3⟩
    ·have:=hx.2 e
     simp only at e2 this⊢
     rw [e2]
     simp only [List.length_nil]
     omega
    ·simp only at e2 e3⊢
     rw [e2]
     simp only [List.length_nil]
     omega
    ·have:=plain_len e3
     simp only at e2 this⊢
     omega
   have:=val_raw v.k v.n v.s [] [] 0 A 0 c p q r g w 7 least hlev hl h1.1 h1.2.1 h1.2.2
   have e:txts (toks0 (.val v))=[printV ⟨v.k,v.n,v.s⟩]:=by
    show [(tv v).2.1]=_
    rw [tv_text (show okV v from hx).1]
   rw [e]
   exact this
  | var n=> exact var_raw 0 0 [] n [] 0 A 0 c p q r g w 7 least hlev hl
  | cell n col k=>
   obtain ⟨A',c',p',q',r',h1,h2⟩:=arg_at (p:=p) (q:=q) (r:=r) (i:=0) (by simp [parts]) hg hat hS
   have hk:=ih k (by simp [parts]) hx.2.2 0 A' c' p' q' r' g S w h2 hS hg
   rw [toksX_no (by omega)]at hk
   have:=cell_raw 0 0 [] n col 0 A 1 c p q r g w 7 least _ _ hlev hl h1 (key_raw _ _ _ _ _ _ _ _ _ _ _ _ _ g w _ hk)
   have e:txts (toks0 (.cell n col k))=n::(([91]::(txts (toks0 k) ++ [[93]])) ++ [[46],col]):=by
    rw [toks0]
    simp [txts,tw,tg]
   rw [e]
   exact this
  | un op a=>
   obtain ⟨A',c',p',q',r',h1,h2⟩:=arg_at (p:=p) (q:=q) (r:=r) (i:=0) (by simp [parts]) hg hat hS
   have hk:=ih a (by simp [parts]) hx.2 6 A' c' p' q' r' g S w h2 hS hg
   exact un_raw 0 0 [] [] [] A 1 c p q r g w op 6 least hx.1 _ _ hlev hl h1 hk
  | bin op a b=>
   obtain ⟨A',c',p',q',r',h1,h2⟩:=arg_at (p:=p) (q:=q) (r:=r) (i:=0) (by simp [parts]) hg hat hS
   obtain ⟨A2,c2,p2,q2,r2,h3,h4⟩:=arg_at (p:=p) (q:=q) (r:=r) (i:=1) (by simp [parts]) hg hat hS
   have hk:=ih a (by simp [parts]) hx.2.1 (lvlS op) A' c' p' q' r' g S w h2 hS hg
   have hk2:=ih b (by simp [parts]) hx.2.2 (lvlS op+1) A2 c2 p2 q2 r2 g S w h4 hS hg
   have:=bin_raw 0 0 [] [] [] A 2 c p q r g w op (lvlS op) least hx.1 _ _ _ _ hlev hl h1 h3 hk hk2
   have e:txts (toks0 (.bin op a b))=txts (toksX a (lvlS op)) ++signS op::txts (toksX b (lvlS op+1)):=by
    rw [toks0]
    simp [txts,tg,toksX]
   rw [e]
   exact this
  | has n k=>
   have hc:=prcall_any (.has n k) w_has A c p q r g S w hat hS hg fun y hy=> ih y hy (by simp [parts]at hy;subst hy;exact hx.2) 0
   have:=q4_raw 0 0 [] n [] 0 A 1 c p q r g w 7 least _ hlev hl hc
   have e:txts (toks0 (.has n k))=callT w_has (.has n k):=by
    rw [toks0]
    simp [callT,argT,parts,hdK,hdN,txts,tw,tg]
   rw [e]
   exact this
  | sum n col a b=>
   have hc:=prcall_any (.sum n col a b) w_sum A c p q r g S w hat hS hg fun y hy=> ih y hy (by simp [parts]at hy;rcases hy with rfl | rfl;exact hx.2.2.1;exact hx.2.2.2) 0
   have:=q5_raw 0 0 [] n col 0 A 2 c p q r g w 7 least _ hlev hl hc
   have e:txts (toks0 (.sum n col a b))=callT w_sum (.sum n col a b):=by
    rw [toks0]
    simp [callT,argT,parts,hdK,hdN,hdC,txts,tw,tg]
   rw [e]
   exact this
  | cnt n a b=>
   have hc:=prcall_any (.cnt n a b) w_count A c p q r g S w hat hS hg fun y hy=> ih y hy (by simp [parts]at hy;rcases hy with rfl | rfl;exact hx.2.1;exact hx.2.2) 0
   have:=q6_raw 0 0 [] n [] 0 A 2 c p q r g w 7 least _ hlev hl hc
   have e:txts (toks0 (.cnt n a b))=callT w_count (.cnt n a b):=by
    rw [toks0]
    simp [callT,argT,parts,hdK,hdN,txts,tw,tg]
   rw [e]
   exact this
def textOf (l:List Tok):List UInt8:=joinB (txts l)
theorem printExpr_any (x:Ex)(hx:okX x)(A:Option Addr)(c:Nat)(p q r:Int)(S:Nat→Prop)(w:World)(hat:ExAt w S x A c)(hS: ∀b,S b→b < w.heap.size)(hlim:(toks0 x).length≤1000000000)(hlen:(textOf (toks0 x)).length≤140737488355328):
  Calls Tryz.prog 18 #[exX x A c p q r] w fun e w'=> e= .returned (sv (textOf (toks0 x)))∧Below w.heap.size w w':=by
 have hpx:=px_any x hx 0
 have e0:toksX x 0=toks0 x:=toksX_no (by omega)
 have hb1:Below w.heap.size w ((w.alloc (exO (hdK x) (hdV x).k (hdV x).n (hdV x).s (hdN x) (hdC x) (hdO x:Nat) (.slice A (parts x).length c) p q r)).alloc (.cells #[.slice none 0 0] 64)):=by repeat (first | exact Below.refl _ _ | refine Below.alloc ?_ (by simp <;> omega) _)
 have hrun:=hpx A c p q r (w.heap.size+1) S _ (hat.keep fun b hb=> hb1.block b (hS b hb)) (fun b hb=> by have:=hS b hb;omega) (by simp)
 have HR:=Lib.hid hrun
 have HB:=Lib.hid hb1
 clear hpx hrun hat hb1
 go_enter Tryz.func18,Tryz.ntmps18
 go_wp2_with fail
 refine (HR.out _ [] (Below.refl _ _) ⟨none,0,0,alloc_at (by simp),World.ownsRow_nil _ _ _ _⟩ (by rw [txts_len,e0];simp;omega)).mono ?_;rintro e w2 ⟨rfl,p2,f2⟩
 rw [e0,List.nil_append]at p2
 have hlt:=p2.lt
 obtain ⟨A2,n2,c2,h2,o2⟩:=p2
 have y0:w2.cell? ⟨w.heap.size+1,0,none⟩=some (.slice A2 n2 c2):=by rw [Lib.cell_of_heap h2];rfl
 have hn2:n2≤1000000000:=by have:=o2.1;rw [List.length_map,txts_len]at this;omega
 have O2:=Lib.hid o2
 have F2:=Lib.hid f2
 clear o2 f2 h2
 go_wp2_with fail
 have hj:=joinB_eq (txts (toks0 x))
 refine (join_rd (c:=c2) (txts (toks0 x)) [32] (Rd.of_own O2.out) (own_cap O2.out) (by omega) (by rw [hj];exact hlen)).mono ?_;rintro e w3 ⟨rfl,b3⟩
 go_wp2_with fail
 go_ret
 refine ⟨rfl,HB.out.trans ?_⟩
 have:=F2.out.below (by simp)
 exact (this.mono (by omega)).trans (b3.mono (by have:=F2.out.size;simp at this;omega))
end Go.Proofs.YtnbmpfdffoidaaaGreatDoor.Y
namespace Go.Proofs.YtnbmpfdffoidaaaGreatDoor.V
open Go.RowKit O
theorem mid_len (s:List UInt8):(mid s).length=s.length - 2:=by unfold mid;simp;omega
theorem mid_get {s:List UInt8}{k:Nat}(h:k < (mid s).length)(h':k+1 < s.length):(mid s)[k]=s[k+1]:=by
 simp [mid,Nat.add_comm]
def PB (w:World)(B:Nat)(n:Int)(u:List UInt8)(W:World):Prop:=
 W.heap[w.heap.size]? =some (.cells #[.int .i64 0,.int .i64 0,.string ⟨#[]⟩] 57 (0,0))∧
 W.heap[B]? =some (.cells #[.int .i64 1,.int .i64 n,.string ⟨#[]⟩,.int .i64 2,.int .i64 1,.string ⟨#[]⟩,.int .i64 2,.int .i64 0,.string ⟨#[]⟩,.int .i64 3,.int .i64 0,.string ⟨u.toArray⟩] 57 (0,0))∧Below w.heap.size w W
end Go.Proofs.YtnbmpfdffoidaaaGreatDoor.V
namespace Go.Proofs.YtnbmpfdffoidaaaGreatDoor.V
open Go.RowKit O
theorem pow_step {a k:Nat}(h:a < 10 ^ (20 - k))(h10:10≤a)(hk:k≤19):k+1≤19∧a / 10 < 10 ^ (20 - (k+1)):=by
 rcases Nat.lt_or_ge k 19 with h1 | h1
 ·refine ⟨by omega,?_⟩
  rw [show 20 - k=(20 - (k+1))+1 by omega,Nat.pow_succ]at h
  omega
 ·obtain rfl:k=19:=by omega
  simp at h
  omega
theorem dig_step {N a:Nat}{t:List UInt8}(h:digN N=digN a ++t)(h10:10≤a):digN N=digN (a / 10) ++([UInt8.ofNat (48+a % 10)] ++t):=by
 rw [h,digN_ge h10];simp
theorem dig_end {N a:Nat}{t:List UInt8}(h:digN N=digN a ++t)(h10:a < 10):digN N=[UInt8.ofNat (48+a % 10)] ++t:=by
 rw [h,digN_lt h10,Nat.mod_eq_of_lt h10]
theorem strqR {W:World}{B n c:Nat}{A:Option Addr}{l:List UInt8}(h:Rd W B 1 A n (bv l)):(convert 112 9 (.slice A n c)).run Tryz.prog W= .ok (.string ⟨l.toArray⟩) W:=
 run_str W Tryz.underlying112 Tryz.underlying5 Tryz.underlying9 h
theorem dig_q (d:Nat)(hd:d < 10)(w:World):(convert 112 9 (.slice (some ⟨w.heap.size,0,none⟩) 1 1)).run Tryz.prog (w.alloc (.cells #[.int .u8 (48+(d:Int))] 5))= .ok (.string ⟨[UInt8.ofNat (48+d)].toArray⟩) (w.alloc (.cells #[.int .u8 (48+(d:Int))] 5)):=by
 have:[Value.int .u8 (48+(d:Int))]=bv [UInt8.ofNat (48+d)]:=by simp [bv];omega
 have r:Rd (w.alloc (.cells #[.int .u8 (48+(d:Int))] 5)) (w.heap.size+1) 1 (some ⟨w.heap.size,0,none⟩) 1 (bv [UInt8.ofNat (48+d)]):=by rw [← this];exact Rd.built w _ _
 exact strqR (c:=1) r
theorem dig_q0 (w:World):(convert 112 9 (.slice (some ⟨w.heap.size,0,none⟩) 1 1)).run Tryz.prog (w.alloc (.cells #[.int .u8 48] 5))= .ok (.string ⟨[48].toArray⟩) (w.alloc (.cells #[.int .u8 48] 5)):=
 strqR (c:=1) (l:=[48]) (Rd.built w (.int .u8 48) 5)
theorem tmod_neg (a:Nat):(-(a:Int)).tmod 10=-((a % 10:Nat):Int):=by rw [Int.neg_tmod,Int.tmod_eq_emod_of_nonneg (by omega)];omega
theorem tdiv_neg (a:Nat):(-(a:Int)).tdiv 10=-((a / 10:Nat):Int):=by rw [Int.neg_tdiv,Int.tdiv_eq_ediv_of_nonneg (by omega)];omega
theorem rdec_any (n0:Int)(w:World)(h1:-9223372036854775808≤n0)(h2:n0≤9223372036854775807):Calls Tryz.prog 71 #[.int .i64 n0] w fun e w'=> e= .returned (.string ⟨(decL n0).toArray⟩)∧Below w.heap.size w w':=by
 go_enter Tryz.func71,Tryz.ntmps71
 go_wp2_with fail
 go_loopw [0,3,4,5] (fun n s i _ wr=> ∃(x:Int) (k:Nat) (t:List UInt8),n= .int .i64 x∧s= .string ⟨t.toArray⟩∧i= .int .i64 k∧Hid (digN n0.natAbs=digN x.natAbs ++t)∧Hid (x.natAbs < 10 ^ (20 - k))∧k≤19∧t.length≤k∧-9223372036854775808≤x∧x≤9223372036854775807∧((n0 < 0∧x < 0)∨(0≤n0∧0≤x))∧Below w.heap.size w wr) (fun _ _ i _ _=> 20 - (intOf i).toNat)
 case atStart=> exact ⟨n0,0,[],rfl,rfl,rfl,Lib.hid (by simp),Lib.hid (by simp;omega),by omega,by simp,h1,h2,by omega,Below.refl _ _⟩
 case round=>
  obtain ⟨x,k,t,rfl,rfl,rfl,H,HP,hk,htl,hx1,hx2,hsg,hb⟩:=hrel
  obtain ⟨a,ha⟩: ∃a,x.natAbs=a:=⟨_,rfl⟩
  rw [ha]at H HP
  obtain ⟨d,hd⟩: ∃d,a % 10=d:=⟨_,rfl⟩
  obtain ⟨b,hb2⟩: ∃b,a / 10=b:=⟨_,rfl⟩
  have hd10:d < 10:=by omega
  have hq:=fun w=> dig_q d hd10 w
  obtain ⟨c,hc⟩: ∃c,UInt8.ofNat (48+d)=c:=⟨_,rfl⟩
  rw [hc]at hq
  have hbb:(b:Int)≤922337203685477580:=by omega
  have hlim:1+t.length≤9223372036854775807:=by omega
  have hlim2:1+(1+t.length)≤9223372036854775807:=by omega
  have hsz:(ByteArray.mk t.toArray).size=t.length:=by simp [ByteArray.size]
  rcases hsg with ⟨n1,n2⟩ | ⟨n1,n2⟩
  ·obtain rfl:x=-(a:Int):=by omega
   have hfin:Hid (decL n0=[45] ++digN n0.natAbs):=Lib.hid (by unfold decL;rw [if_pos n1];rfl)
   have e1:(-(a:Int)).tmod 10=-(d:Int):=by rw [tmod_neg,hd]
   have e2:(-(a:Int)).tdiv 10=-(b:Int):=by rw [tdiv_neg,hb2]
   have n3:decide (-(a:Int) < 0)=true:=by simp;omega
   by_cases h10:10≤a
   ·have hs:=Lib.hid (dig_step H.out h10)
    have hp:=pow_step HP.out h10 hk
    rw [hd,hb2,hc]at hs
    have hb0:0 < b:=by omega
    rw [hb2]at hp
    obtain ⟨hk1,hp1⟩:=hp
    have hp2:Hid ((-(b:Int)).natAbs < 10 ^ (20 - (k+1))):=Lib.hid (by rw [show (-(b:Int)).natAbs=b by omega];exact hp1)
    have hs:Hid (digN n0.natAbs=digN (-(b:Int)).natAbs ++([c] ++t)):=Lib.hid (by rw [show (-(b:Int)).natAbs=b by omega];exact hs.out)
    clear hp1
    have g1:decide (-(a:Int) > -10)=false:=by simp;omega
    have hc48:d=0→c=48:=fun h=> by rw [← hc,h];rfl
    clear hd hb2 ha H HP hc
    by_cases hd0:d=0
    ·subst hd0
     have hq0:=fun w=> dig_q0 w
     have e1:(-(a:Int)).tmod 10=0:=e1
     clear hq
     obtain rfl:c=48:=hc48 rfl
     go_wp2_with fail
     go_roundw
     case rel=> exact ⟨-(b:Int),k+1,[48] ++t,rfl,by rw [ba_append],by go_num,hs,hp2,hk1,by simp;omega,by omega,by omega,by omega,by repeat (first | (with_reducible exact hb) | refine Below.alloc ?_ (by first | exact hb.size | (simp;have:=hb.size;omega)) _)⟩
     case measure=> simp [intOf];omega
    ·have g0:decide (-(d:Int) < 0)=true:=by simp;omega
     go_wp2_with fail
     go_roundw
     case rel=> exact ⟨-(b:Int),k+1,_,rfl,by rw [ba_append],by go_num,hs,hp2,hk1,by simp;omega,by omega,by omega,by omega,by repeat (first | (with_reducible exact hb) | refine Below.alloc ?_ (by first | exact hb.size | (simp;have:=hb.size;omega)) _)⟩
     case measure=> simp [intOf];omega
   ·have hs:=Lib.hid (dig_end H.out (by omega))
    rw [hd,hc]at hs
    have hda:d=a:=by omega
    subst hda
    have g0:decide (-(d:Int) < 0)=true:=by simp;omega
    have g1:decide (-(d:Int) > -10)=true:=by simp;omega
    have g2:decide (-(d:Int) < 10)=true:=by simp;omega
    clear hd hb2 ha H HP hc
    go_wp2_with fail
    go_ret
    rw [ba_append,ba_append]
    exact ⟨by rw [hfin.out,hs.out];rfl,by repeat (first | (with_reducible exact hb) | refine Below.alloc ?_ (by first | exact hb.size | (simp;have:=hb.size;omega)) _)⟩
  ·obtain rfl:x=(a:Int):=by omega
   have hfin:Hid (decL n0=digN n0.natAbs):=Lib.hid (by unfold decL;rw [if_neg (by omega)])
   have e1:(a:Int) % 10=(d:Int):=by omega
   have e2:(a:Int) / 10=(b:Int):=by omega
   have n3:decide ((a:Int) < 0)=false:=by simp
   have g0:decide ((d:Int) < 0)=false:=by simp
   have g1:decide ((a:Int) > -10)=true:=by simp;omega
   by_cases h10:10≤a
   ·have hs:=Lib.hid (dig_step H.out h10)
    have hp:=pow_step HP.out h10 hk
    rw [hd,hb2,hc]at hs
    have hb0:0 < b:=by omega
    rw [hb2]at hp
    obtain ⟨hk1,hp1⟩:=hp
    have hp2:Hid (((b:Int)).natAbs < 10 ^ (20 - (k+1))):=Lib.hid (by rw [show ((b:Int)).natAbs=b by omega];exact hp1)
    have hs:Hid (digN n0.natAbs=digN ((b:Int)).natAbs ++([c] ++t)):=Lib.hid (by rw [show ((b:Int)).natAbs=b by omega];exact hs.out)
    clear hp1
    have g2:decide ((a:Int) < 10)=false:=by simp;omega
    clear hd hb2 ha H HP hc
    go_wp2_with fail
    go_roundw
    case rel=> exact ⟨(b:Int),k+1,_,rfl,by rw [ba_append],by go_num,hs,hp2,hk1,by simp;omega,by omega,by omega,by omega,by repeat (first | (with_reducible exact hb) | refine Below.alloc ?_ (by first | exact hb.size | (simp;have:=hb.size;omega)) _)⟩
    case measure=> simp [intOf];omega
   ·have hs:=Lib.hid (dig_end H.out (by omega))
    rw [hd,hc]at hs
    have g2:decide ((a:Int) < 10)=true:=by simp;omega
    clear hd hb2 ha H HP hc
    go_wp2_with fail
    go_ret
    rw [ba_append]
    exact ⟨by rw [hfin.out,hs.out];rfl,by repeat (first | (with_reducible exact hb) | refine Below.alloc ?_ (by first | exact hb.size | (simp;have:=hb.size;omega)) _)⟩
theorem esc_ba {s:List UInt8}{k:Nat}(h:k < s.length){c:UInt8}(hc:s[k]=c):(ByteArray.mk s.toArray).extract k (k+1)=ByteArray.mk [c].toArray:=by
 apply ByteArray.ext
 subst hc
 apply Array.ext'
 simp [List.extract_eq_take_drop]
 rw [List.drop_eq_getElem_cons h]
 rfl
theorem rprint_any (v:Val)(w:World)(hs:v.s.length≤100000000)(h1:-9223372036854775808≤v.n)(h2:v.n≤9223372036854775807):
  Calls Tryz.prog 125 #[vv v] w fun e w'=> e= .returned (.string ⟨(printV v).toArray⟩)∧Below w.heap.size w w':=by
 obtain ⟨k,m,s⟩:=v
 have hs':(⟨k,m,s⟩:Val).s.length≤1000000000000:=by omega
 have hs2:s.length≤100000000:=hs
 clear hs
 have h1':-9223372036854775808≤m:=h1
 have h2':m≤9223372036854775807:=h2
 clear h1 h2
 simp only [vv]
 cases hr:right ⟨k,m,s⟩
 ·have hp:=Lib.hid (printV_no hr)
  go_enter Tryz.func125,Tryz.ntmps125
  go_wp2_with fail
  refine (rright_any ⟨k,m,s⟩ _ hs').mono ?_;rintro e w1 ⟨rfl,b1⟩
  rw [hr]
  have B1:Below w.heap.size w w1:=bthen (by repeat (first | exact Below.refl _ _ | refine Below.alloc ?_ (by simp <;> omega) _)) b1
  go_wp2_with fail
  go_ret
  exact ⟨by rw [hp.out];rfl,B1⟩
 ·rcases (show k=1∨(k=2∧s=[]∧(m=0∨m=1))∨(k=3∧m=0) by rcases right_cases hr with ⟨e,_⟩ | ⟨e,e2,e3⟩ | ⟨e,e2,_⟩ <;> simp_all)with rfl | ⟨rfl,rfl,hm⟩ | ⟨rfl,rfl⟩
  ·have hp:=Lib.hid (printV_one hr)
   go_enter Tryz.func125,Tryz.ntmps125
   go_wp2_with fail
   refine (rright_any ⟨1,m,s⟩ _ hs').mono ?_;rintro e w1 ⟨rfl,b1⟩
   rw [hr]
   have B1:Below w.heap.size w w1:=bthen (by repeat (first | exact Below.refl _ _ | refine Below.alloc ?_ (by simp <;> omega) _)) b1
   have x:w1.heap[w.heap.size]? =some (.cells #[.int .i64 1,.int .i64 m,.string ⟨s.toArray⟩] 57 (0,0)):=box_next (by repeat (first | (refine alloc_at ?_;simp;done) | refine alloc_old' ?_)) b1
   have xc0:w1.cell? ⟨w.heap.size,0,none⟩=some (.int .i64 1):=by rw [Lib.cell_of_heap x];rfl
   have xf0:w1.frozen? ⟨w.heap.size,0,none⟩=false:=Lib.frozen_of_heap x 0
   have xc1:w1.cell? ⟨w.heap.size,1,none⟩=some (.int .i64 m):=by rw [Lib.cell_of_heap x];rfl
   have xf1:w1.frozen? ⟨w.heap.size,1,none⟩=false:=Lib.frozen_of_heap x 1
   have xc2:w1.cell? ⟨w.heap.size,2,none⟩=some (.string ⟨s.toArray⟩):=by rw [Lib.cell_of_heap x];rfl
   have xf2:w1.frozen? ⟨w.heap.size,2,none⟩=false:=Lib.frozen_of_heap x 2
   go_wp2_with fail
   refine (rdec_any m _ h1' h2').mono ?_;rintro e w2 ⟨rfl,b2⟩
   go_wp2_with fail
   go_ret
   exact ⟨by rw [hp.out];rfl,bthen B1 b2⟩
  ·have hp:=Lib.hid (printV_two hr)
   rcases hm with rfl | rfl
   ·go_enter Tryz.func125,Tryz.ntmps125
    go_wp2_with fail
    refine (rright_any ⟨2,0,[]⟩ _ hs').mono ?_;rintro e w1 ⟨rfl,b1⟩
    rw [hr]
    have B1:Below w.heap.size w w1:=bthen (by repeat (first | exact Below.refl _ _ | refine Below.alloc ?_ (by simp <;> omega) _)) b1
    have x:w1.heap[w.heap.size]? =some (.cells #[.int .i64 2,.int .i64 0,.string ⟨#[]⟩] 57 (0,0)):=box_next (by repeat (first | (refine alloc_at ?_;simp;done) | refine alloc_old' ?_)) b1
    have xc0:w1.cell? ⟨w.heap.size,0,none⟩=some (.int .i64 2):=by rw [Lib.cell_of_heap x];rfl
    have xf0:w1.frozen? ⟨w.heap.size,0,none⟩=false:=Lib.frozen_of_heap x 0
    have xc1:w1.cell? ⟨w.heap.size,1,none⟩=some (.int .i64 0):=by rw [Lib.cell_of_heap x];rfl
    have xf1:w1.frozen? ⟨w.heap.size,1,none⟩=false:=Lib.frozen_of_heap x 1
    have xc2:w1.cell? ⟨w.heap.size,2,none⟩=some (.string ⟨#[]⟩):=by rw [Lib.cell_of_heap x];rfl
    have xf2:w1.frozen? ⟨w.heap.size,2,none⟩=false:=Lib.frozen_of_heap x 2
    go_wp2_with fail
    go_ret
    exact ⟨by rw [hp.out];rfl,B1⟩
   ·go_enter Tryz.func125,Tryz.ntmps125
    go_wp2_with fail
    refine (rright_any ⟨2,1,[]⟩ _ hs').mono ?_;rintro e w1 ⟨rfl,b1⟩
    rw [hr]
    have B1:Below w.heap.size w w1:=bthen (by repeat (first | exact Below.refl _ _ | refine Below.alloc ?_ (by simp <;> omega) _)) b1
    have x:w1.heap[w.heap.size]? =some (.cells #[.int .i64 2,.int .i64 1,.string ⟨#[]⟩] 57 (0,0)):=box_next (by repeat (first | (refine alloc_at ?_;simp;done) | refine alloc_old' ?_)) b1
    have xc0:w1.cell? ⟨w.heap.size,0,none⟩=some (.int .i64 2):=by rw [Lib.cell_of_heap x];rfl
    have xf0:w1.frozen? ⟨w.heap.size,0,none⟩=false:=Lib.frozen_of_heap x 0
    have xc1:w1.cell? ⟨w.heap.size,1,none⟩=some (.int .i64 1):=by rw [Lib.cell_of_heap x];rfl
    have xf1:w1.frozen? ⟨w.heap.size,1,none⟩=false:=Lib.frozen_of_heap x 1
    have xc2:w1.cell? ⟨w.heap.size,2,none⟩=some (.string ⟨#[]⟩):=by rw [Lib.cell_of_heap x];rfl
    have xf2:w1.frozen? ⟨w.heap.size,2,none⟩=false:=Lib.frozen_of_heap x 2
    go_wp2_with fail
    go_ret
    exact ⟨by rw [hp.out];rfl,B1⟩
  ·have hp:=Lib.hid (printV_three hr)
   have hsz:(ByteArray.mk s.toArray).size=s.length:=by simp [ByteArray.size]
   go_enter Tryz.func125,Tryz.ntmps125
   go_wp2_with fail
   refine (rright_any ⟨3,0,s⟩ _ hs').mono ?_;rintro e w1 ⟨rfl,b1⟩
   rw [hr]
   have B1:Below w.heap.size w w1:=bthen (by repeat (first | exact Below.refl _ _ | refine Below.alloc ?_ (by simp <;> omega) _)) b1
   have x:w1.heap[w.heap.size]? =some (.cells #[.int .i64 3,.int .i64 0,.string ⟨s.toArray⟩] 57 (0,0)):=box_next (by repeat (first | (refine alloc_at ?_;simp;done) | refine alloc_old' ?_)) b1
   have xc0:w1.cell? ⟨w.heap.size,0,none⟩=some (.int .i64 3):=by rw [Lib.cell_of_heap x];rfl
   have xf0:w1.frozen? ⟨w.heap.size,0,none⟩=false:=Lib.frozen_of_heap x 0
   have xc1:w1.cell? ⟨w.heap.size,1,none⟩=some (.int .i64 0):=by rw [Lib.cell_of_heap x];rfl
   have xf1:w1.frozen? ⟨w.heap.size,1,none⟩=false:=Lib.frozen_of_heap x 1
   have xc2:w1.cell? ⟨w.heap.size,2,none⟩=some (.string ⟨s.toArray⟩):=by rw [Lib.cell_of_heap x];rfl
   have xf2:w1.frozen? ⟨w.heap.size,2,none⟩=false:=Lib.frozen_of_heap x 2
   clear b1 x
   go_wp2_with fail
   go_loop [3,4] (fun t i=> ∃j:Nat,j≤s.length∧i= .int .i64 j∧t= .string ⟨([34] ++escL (s.take j)).toArray⟩) (fun _ i=> s.length - (intOf i).toNat)
   case atStart=> exact ⟨0,by omega,rfl,by simp [escL]⟩
   case round=>
    obtain ⟨j,hj,rfl,rfl⟩:=hrel
    have hel:([34] ++escL (s.take j)).length≤300000000:=by have:=escL_len (s.take j);simp at this⊢;omega
    by_cases hlt:j < s.length
    ·have hn:=Lib.hid (esc_step hlt)
     obtain ⟨c,hc⟩: ∃c,s[j]=c:=⟨_,rfl⟩
     rw [hc]at hn
     have hn':Hid ([34] ++escL (s.take (j+1))=([34] ++escL (s.take j)) ++esc c):=Lib.hid (by rw [hn.out];simp)
     have hx:=ba_at s j hlt hc
     have hex:=esc_ba hlt hc
     clear hc
     generalize [34] ++escL (s.take j)=t at *
     have ht:(ByteArray.mk t.toArray).size=t.length:=by simp [ByteArray.size]
     have hlm1:t.length+1≤9223372036854775807:=by omega
     have hlm2:t.length+1+1≤9223372036854775807:=by omega
     by_cases h34:c.toNat=34∨c.toNat=92
     ·have he:Hid (esc c=[92,c]):=Lib.hid (by unfold esc;rw [if_pos h34])
      rcases h34 with h34 | h34
      ·have g1:((c.toNat:Int)==34)=true:=by simp;omega
       clear h34
       go_wp2_with fail
       go_round
       case rel=> exact ⟨j+1,by omega,by go_num,by rw [hn'.out,he.out];simp only [ba_append,List.append_assoc] <;> rfl⟩
       case measure=> simp [intOf];omega
      ·have g1:((c.toNat:Int)==34)=false:=by simp;omega
       have g2:((c.toNat:Int)==92)=true:=by simp;omega
       clear h34
       go_wp2_with fail
       go_round
       case rel=> exact ⟨j+1,by omega,by go_num,by rw [hn'.out,he.out];simp only [ba_append,List.append_assoc] <;> rfl⟩
       case measure=> simp [intOf];omega
     ·have he:Hid (esc c=[c]):=Lib.hid (by unfold esc;rw [if_neg h34])
      have g1:((c.toNat:Int)==34)=false:=by simp;omega
      have g2:((c.toNat:Int)==92)=false:=by simp;omega
      go_wp2_with fail
      go_round
      case rel=> exact ⟨j+1,by omega,by go_num,by rw [hn'.out,he.out];simp only [ba_append,List.append_assoc] <;> rfl⟩
      case measure=> simp [intOf];omega
    ·obtain rfl:j=s.length:=by omega
     rw [List.take_length]at hel⊢
     have hpq:Hid (printV ⟨3,0,s⟩=([34] ++escL s) ++ [34]):=Lib.hid (by rw [hp.out];simp [quoteL])
     generalize [34] ++escL s=t at *
     have ht:(ByteArray.mk t.toArray).size=t.length:=by simp [ByteArray.size]
     have hlm1:t.length+1≤9223372036854775807:=by omega
     go_wp2_with fail
     go_ret
     rw [ba_append]
     exact ⟨by rw [hpq.out];rfl,B1⟩
def RetR (s:List UInt8)(w:World)(e:Ending)(w':World):Prop:= ∃u:Val,e= .returned (.tuple #[vv u,.bool (parseR s).isSome])∧(∀v,parseR s=some v→u=v)∧Below w.heap.size w w'
theorem unqR_step1 {m done:List UInt8}{k:Nat}(h:k < m.length)(hc: ¬(m[k].toNat=92∧k+1 < m.length))(H:unqR m=done ++unqR (m.drop k)):unqR m=(done ++ [m[k]]) ++unqR (m.drop (k+1)):=by
 by_cases h92:m[k].toNat=92
 ·have hk: ¬k+1 < m.length:=fun h'=> hc ⟨h92,h'⟩
  rw [H,List.drop_eq_getElem_cons h,List.drop_of_length_le (show m.length≤k+1 by omega)]
  simp [unqR]
 ·rw [H,List.drop_eq_getElem_cons h,unqR_cons h92]
  simp
theorem unqR_step2 {m done:List UInt8}{k:Nat}(h:k+1 < m.length)(hc:m[k].toNat=92)(H:unqR m=done ++unqR (m.drop k)):unqR m=(done ++ [m[k+1]]) ++unqR (m.drop (k+2)):=by
 rw [H,List.drop_eq_getElem_cons (by omega),List.drop_eq_getElem_cons h,unqR_two hc]
 simp
theorem unqR_end {m done:List UInt8}{k:Nat}(h:m.length≤k)(H:unqR m=done ++unqR (m.drop k)):unqR m=done:=by
 rw [H,List.drop_of_length_le h]
 simp [unqR]
theorem rn_step {s:List UInt8}{k:Nat}(h:k < s.length):rnum0 (s.take (k+1))=rstep (rnum0 (s.take k)) s[k]:=by
 rw [List.take_succ_eq_append_getElem h,rnum0_snoc]
theorem rnum0_bounds (s:List UInt8):-9223372036854775808≤rnum0 s∧rnum0 s≤9223372036854775807:=rfold _ _ (by omega)
def RB (w:World)(done:List UInt8)(W:World):Prop:=
 W.heap[w.heap.size]? =some (.cells #[.int .i64 0,.int .i64 0,.string ⟨#[]⟩] 57 (0,0))∧
 W.heap[w.heap.size+1]? =some (.cells #[.int .i64 3,.int .i64 0,.string ⟨done.toArray⟩] 57 (0,0))∧Below w.heap.size w W
theorem RB.start (w:World):RB w [] ((w.alloc (.cells #[.int .i64 0,.int .i64 0,.string ⟨#[]⟩] 57)).alloc (.cells #[.int .i64 3,.int .i64 0,.string ⟨#[]⟩] 57)):=
 ⟨alloc_old' (alloc_at rfl),alloc_at (by simp),by repeat (first | exact Below.refl _ _ | refine Below.alloc ?_ (by simp <;> omega) _)⟩
theorem rparse_true (w:World):Calls Tryz.prog 117 #[.string ⟨#[116,114,117,101]⟩] w (RetR [116,114,117,101] w):=by
 go_enter Tryz.func117,Tryz.ntmps117
 go_wp2_with fail
 refine bodyPost_ret (v:= .tuple #[vv ⟨2,1,[]⟩,.bool true]) (by simp [results,Tryz.results117,go_sem,vv]) rfl ?_
 exact ⟨_,rfl,fun v h=> by simpa [parseR]using h,by repeat (first | (with_reducible exact Below.refl _ _) | refine Below.setCell ?_ (by simp <;> omega) _ | refine Below.alloc ?_ (by simp <;> omega) _ | refine Below.drew ?_)⟩
theorem rparse_false (w:World):Calls Tryz.prog 117 #[.string ⟨#[102,97,108,115,101]⟩] w (RetR [102,97,108,115,101] w):=by
 go_enter Tryz.func117,Tryz.ntmps117
 go_wp2_with fail
 refine bodyPost_ret (v:= .tuple #[vv ⟨2,0,[]⟩,.bool true]) (by simp [results,Tryz.results117,go_sem,vv]) rfl ?_
 exact ⟨_,rfl,fun v h=> by simpa [parseR]using h,by repeat (first | (with_reducible exact Below.refl _ _) | refine Below.setCell ?_ (by simp <;> omega) _ | refine Below.alloc ?_ (by simp <;> omega) _ | refine Below.drew ?_)⟩
theorem rparse_num (s:List UInt8)(w:World)(hs:s.length≤1000000)(h1:(s==[116,114,117,101])=false)(h2:(s==[102,97,108,115,101])=false)(h3: ¬(2≤s.length∧s.head?.map (·.toNat)=some 34)):
  Calls Tryz.prog 117 #[.string ⟨s.toArray⟩] w (RetR s w):=by
 have hsz:(ByteArray.mk s.toArray).size=s.length:=by simp [ByteArray.size]
 have hpr:parseR s=if decL (rnum s)=s then some ⟨1,rnum s,[]⟩else none:=by
  unfold parseR
  rw [if_neg (by simpa using h1),if_neg (by simpa using h2),if_neg h3]
 have hrb:=rnum_bounds s
 have hd:(decL (rnum s)==s)=true∨(decL (rnum s)==s)=false:=by cases (decL (rnum s)==s) <;> simp
 have hrn:rnum s=if s.head?.map (·.toNat)=some 45 then rnum0 (s.take 21)else wrap64 (-rnum0 (s.take 21)):=rfl
 have Hhpr:=Lib.hid hpr;clear hpr
 have Hhd:=Lib.hid hd;clear hd
 have Hhrn:=Lib.hid hrn;clear hrn
 have hend: ∀k:Nat,k≤s.length→k≤21→¬(k < s.length∧k < 21)→s.take k=s.take 21:=by
  intro k k1 k2 k3
  by_cases h:k=21
  ·rw [h]
  ·rw [List.take_of_length_le (show s.length≤k by omega),List.take_of_length_le (by omega)]
 have Hhend:=Lib.hid hend;clear hend
 obtain ⟨hr1,hr2⟩:=hrb
 have hcase:(s=[])∨∃c r,s=c::r:=by cases s with | nil=> exact .inl rfl | cons c r=> exact .inr ⟨c,r,rfl⟩
 generalize hR:rnum s=R at *
 rcases hcase with rfl | ⟨c,r,hcr⟩
 ·have H0:Hid (R=0):=Lib.hid (by rw [← hR];simp [rnum,rnum0,wrap64])
  have Hn:Hid (parseR []=none):=Lib.hid (by decide +kernel)
  have hd0:Hid (decL 0=[48]):=Lib.hid (by decide +kernel)
  clear hR
  go_enter Tryz.func117,Tryz.ntmps117
  go_wp2_with fail
  go_loop [7,8] (fun n i=> n= .int .i64 0∧i= .int .i64 0) (fun _ _=> 0)
  case atStart=> exact ⟨rfl,rfl⟩
  case round=>
   obtain ⟨rfl,rfl⟩:=hrel
   go_wp2_with fail
   refine (rdec_any 0 _ (by omega) (by omega)).mono ?_;rintro e w1 ⟨rfl,b1⟩
   rw [hd0.out]
   have x:w1.heap[w.heap.size]? =some (.cells #[.int .i64 0,.int .i64 0,.string ⟨#[]⟩] 57 (0,0)):=box_next (by repeat (first | (refine alloc_at ?_;simp;done) | refine alloc_old' ?_)) b1
   have xc0:w1.cell? ⟨w.heap.size,0,none⟩=some (.int .i64 0):=by rw [Lib.cell_of_heap x];rfl
   have xf0:w1.frozen? ⟨w.heap.size,0,none⟩=false:=Lib.frozen_of_heap x 0
   have xc1:w1.cell? ⟨w.heap.size,1,none⟩=some (.int .i64 0):=by rw [Lib.cell_of_heap x];rfl
   have xf1:w1.frozen? ⟨w.heap.size,1,none⟩=false:=Lib.frozen_of_heap x 1
   have xc2:w1.cell? ⟨w.heap.size,2,none⟩=some (.string ⟨#[]⟩):=by rw [Lib.cell_of_heap x];rfl
   have xf2:w1.frozen? ⟨w.heap.size,2,none⟩=false:=Lib.frozen_of_heap x 2
   have B1:Below w.heap.size w w1:=bthen (by repeat (first | exact Below.refl _ _ | refine Below.alloc ?_ (by simp <;> omega) _)) b1
   go_wp2_with fail
   refine bodyPost_ret (v:= .tuple #[vv ⟨0,0,[]⟩,.bool false]) (by simp [results,Tryz.results117,go_sem,vv,xc0,xc1,xc2]) rfl ?_
   refine ⟨_,by rw [Hn.out];rfl,(fun v h=> by rw [Hn.out]at h;cases h),?_⟩
   repeat (first | (with_reducible exact Below.refl _ _) | (with_reducible assumption) | refine Below.setCell ?_ (by simp <;> omega) _ | refine Below.alloc ?_ (by simp <;> omega) _ | refine Below.drew ?_)
 ·have hlt0:0 < s.length:=by rw [hcr];simp
  have hg0:s[0]=c:=by simp [hcr]
  have hc0:=ba_at s 0 hlt0 hg0
  have hl1:1≤s.length:=by rw [hcr];simp
  have hl0:((s.length:Int)==0)=false:=beq_eq_false_iff_ne.2 (by omega)
  clear hg0
  have hR2:Hid (R=if c.toNat=45 then rnum0 (s.take 21)else wrap64 (-rnum0 (s.take 21))):=Lib.hid (by rw [← hR,rnum,hcr];simp)
  have h34: ¬(2≤s.length∧c.toNat=34):=by rw [hcr]at h3⊢;simpa using h3
  clear hR h3 hcr Hhrn
  have hA:(decide ((s.length:Int) ≥ 2)=true∧((c.toNat:Int)==34)=false)∨decide ((s.length:Int) ≥ 2)=false:=by simp;omega
  have hB:(((c.toNat:Int) !=45)=true∧R=wrap64 (-rnum0 (s.take 21)))∨(((c.toNat:Int) !=45)=false∧R=rnum0 (s.take 21)):=by
   by_cases h:c.toNat=45
   ·exact .inr ⟨by simp;omega,by rw [hR2.out,if_pos h]⟩
   ·exact .inl ⟨by simp;omega,by rw [hR2.out,if_neg h]⟩
  have HB:=Lib.hid hB
  clear hB h34 hR2
  rcases hA with ⟨a1,a2⟩ | a1
  ·go_enter Tryz.func117,Tryz.ntmps117
   go_wp2_with fail
   go_loop [7,8] (fun n i=> ∃k:Nat,k≤s.length∧k≤21∧i= .int .i64 k∧n= .int .i64 (rnum0 (s.take k))) (fun _ i=> 21 - (intOf i).toNat)
   case atStart=> exact ⟨0,by omega,by omega,rfl,rfl⟩
   case round=>
    obtain ⟨k,hk,hk2,rfl,rfl⟩:=hrel
    have hb0:=rnum0_bounds (s.take k)
    obtain ⟨hb1,hb2⟩:=hb0
    by_cases hlt:k < s.length∧k < 21
    ·obtain ⟨hlt,hlt2⟩:=hlt
     have hst:=Lib.hid (rn_step hlt)
     obtain ⟨d,hd⟩: ∃d,s[k]=d:=⟨_,rfl⟩
     rw [hd]at hst
     have hx:=ba_at s k hlt hd
     clear hd
     have q1:decide ((k:Int) < 21)=true:=by simp;omega
     generalize rnum0 (s.take k)=n at *
     by_cases h48:(d.toNat:Int) ≥ 48
     ·have q2:decide ((d.toNat:Int) ≥ 48)=true:=by simp;omega
      by_cases h57:(d.toNat:Int)≤57
      ·have q3:decide ((d.toNat:Int)≤57)=true:=by simp;omega
       have hr:Hid (rstep n d=wrap64 (wrap64 (wrap64 (n * 10) - d.toNat)+48)):=Lib.hid (by unfold rstep;rw [if_pos (by omega)])
       go_wp2_with fail
       go_round
       case rel=> exact ⟨k+1,by omega,by omega,by go_num,by rw [hst.out,hr.out]⟩
       case measure=> simp [intOf];omega
      ·have q3:decide ((d.toNat:Int)≤57)=false:=by simp;omega
       have hr:Hid (rstep n d=n):=Lib.hid (by unfold rstep;rw [if_neg (by omega)])
       go_wp2_with fail
       go_round
       case rel=> exact ⟨k+1,by omega,by omega,by go_num,by rw [hst.out,hr.out]⟩
       case measure=> simp [intOf];omega
     ·have q2:decide ((d.toNat:Int) ≥ 48)=false:=by simp;omega
      have hr:Hid (rstep n d=n):=Lib.hid (by unfold rstep;rw [if_neg (by omega)])
      go_wp2_with fail
      go_round
      case rel=> exact ⟨k+1,by omega,by omega,by go_num,by rw [hst.out,hr.out]⟩
      case measure=> simp [intOf];omega
    ·rw [Hhend.out k hk hk2 hlt]at hb1 hb2⊢
     have q0:(decide (k < s.length)=true∧k < s.length∧decide ((k:Int) < 21)=false)∨(decide (k < s.length)=false∧s.length≤k∧True):=by simp;omega
     rcases q0 with ⟨q1,q3,q2⟩ | ⟨q1,q3,q2⟩
     all_goals
      clear hlt hk hk2
      rcases Hhd.out with hd | hd
      ·have Hd:=Lib.hid hd
       clear hd
       rcases HB.out with ⟨c1,c2⟩ | ⟨c1,c2⟩
       ·have C2:=Lib.hid c2
        clear c2
        go_wp2_with fail
        rw [← C2.out]
        refine (rdec_any R _ hr1 hr2).mono ?_;rintro e w1 ⟨rfl,b1⟩
        have hne:(decL R !=s)=false:=by unfold bne;rw [Hd.out];rfl
        have heq:=Hd.out
        have x:w1.heap[w.heap.size]? =some (.cells #[.int .i64 0,.int .i64 0,.string ⟨#[]⟩] 57 (0,0)):=box_next (by repeat (first | (refine alloc_at ?_;simp;done) | refine alloc_old' ?_)) b1
        have xc0:w1.cell? ⟨w.heap.size,0,none⟩=some (.int .i64 0):=by rw [Lib.cell_of_heap x];rfl
        have xf0:w1.frozen? ⟨w.heap.size,0,none⟩=false:=Lib.frozen_of_heap x 0
        have xc1:w1.cell? ⟨w.heap.size,1,none⟩=some (.int .i64 0):=by rw [Lib.cell_of_heap x];rfl
        have xf1:w1.frozen? ⟨w.heap.size,1,none⟩=false:=Lib.frozen_of_heap x 1
        have xc2:w1.cell? ⟨w.heap.size,2,none⟩=some (.string ⟨#[]⟩):=by rw [Lib.cell_of_heap x];rfl
        have xf2:w1.frozen? ⟨w.heap.size,2,none⟩=false:=Lib.frozen_of_heap x 2
        have B1:Below w.heap.size w w1:=bthen (by repeat (first | exact Below.refl _ _ | refine Below.alloc ?_ (by simp <;> omega) _)) b1
        have HP:Hid (parseR s=some ⟨1,R,[]⟩):=Lib.hid (by rw [Hhpr.out,if_pos (by simpa using Hd.out)])
        go_wp2_with fail
        refine bodyPost_ret (v:= .tuple #[vv ⟨1,R,[]⟩,.bool true]) (by simp [results,Tryz.results117,go_sem,vv,xc0,xc1,xc2]) rfl ?_
        refine ⟨_,by rw [HP.out];rfl,(fun v h=> by rw [HP.out]at h;injection h with h),?_⟩
        repeat (first | (with_reducible exact Below.refl _ _) | (with_reducible assumption) | refine Below.setCell ?_ (by simp <;> omega) _ | refine Below.alloc ?_ (by simp <;> omega) _ | refine Below.drew ?_)
       ·have C2:=Lib.hid c2
        clear c2
        go_wp2_with fail
        rw [← C2.out]
        refine (rdec_any R _ hr1 hr2).mono ?_;rintro e w1 ⟨rfl,b1⟩
        have hne:(decL R !=s)=false:=by unfold bne;rw [Hd.out];rfl
        have heq:=Hd.out
        have x:w1.heap[w.heap.size]? =some (.cells #[.int .i64 0,.int .i64 0,.string ⟨#[]⟩] 57 (0,0)):=box_next (by repeat (first | (refine alloc_at ?_;simp;done) | refine alloc_old' ?_)) b1
        have xc0:w1.cell? ⟨w.heap.size,0,none⟩=some (.int .i64 0):=by rw [Lib.cell_of_heap x];rfl
        have xf0:w1.frozen? ⟨w.heap.size,0,none⟩=false:=Lib.frozen_of_heap x 0
        have xc1:w1.cell? ⟨w.heap.size,1,none⟩=some (.int .i64 0):=by rw [Lib.cell_of_heap x];rfl
        have xf1:w1.frozen? ⟨w.heap.size,1,none⟩=false:=Lib.frozen_of_heap x 1
        have xc2:w1.cell? ⟨w.heap.size,2,none⟩=some (.string ⟨#[]⟩):=by rw [Lib.cell_of_heap x];rfl
        have xf2:w1.frozen? ⟨w.heap.size,2,none⟩=false:=Lib.frozen_of_heap x 2
        have B1:Below w.heap.size w w1:=bthen (by repeat (first | exact Below.refl _ _ | refine Below.alloc ?_ (by simp <;> omega) _)) b1
        have HP:Hid (parseR s=some ⟨1,R,[]⟩):=Lib.hid (by rw [Hhpr.out,if_pos (by simpa using Hd.out)])
        go_wp2_with fail
        refine bodyPost_ret (v:= .tuple #[vv ⟨1,R,[]⟩,.bool true]) (by simp [results,Tryz.results117,go_sem,vv,xc0,xc1,xc2]) rfl ?_
        refine ⟨_,by rw [HP.out];rfl,(fun v h=> by rw [HP.out]at h;injection h with h),?_⟩
        repeat (first | (with_reducible exact Below.refl _ _) | (with_reducible assumption) | refine Below.setCell ?_ (by simp <;> omega) _ | refine Below.alloc ?_ (by simp <;> omega) _ | refine Below.drew ?_)
      ·have Hd:=Lib.hid hd
       clear hd
       rcases HB.out with ⟨c1,c2⟩ | ⟨c1,c2⟩
       ·have C2:=Lib.hid c2
        clear c2
        go_wp2_with fail
        rw [← C2.out]
        refine (rdec_any R _ hr1 hr2).mono ?_;rintro e w1 ⟨rfl,b1⟩
        have hne:(decL R !=s)=true:=by unfold bne;rw [Hd.out];rfl
        have heq:=Hd.out
        have x:w1.heap[w.heap.size]? =some (.cells #[.int .i64 0,.int .i64 0,.string ⟨#[]⟩] 57 (0,0)):=box_next (by repeat (first | (refine alloc_at ?_;simp;done) | refine alloc_old' ?_)) b1
        have xc0:w1.cell? ⟨w.heap.size,0,none⟩=some (.int .i64 0):=by rw [Lib.cell_of_heap x];rfl
        have xf0:w1.frozen? ⟨w.heap.size,0,none⟩=false:=Lib.frozen_of_heap x 0
        have xc1:w1.cell? ⟨w.heap.size,1,none⟩=some (.int .i64 0):=by rw [Lib.cell_of_heap x];rfl
        have xf1:w1.frozen? ⟨w.heap.size,1,none⟩=false:=Lib.frozen_of_heap x 1
        have xc2:w1.cell? ⟨w.heap.size,2,none⟩=some (.string ⟨#[]⟩):=by rw [Lib.cell_of_heap x];rfl
        have xf2:w1.frozen? ⟨w.heap.size,2,none⟩=false:=Lib.frozen_of_heap x 2
        have B1:Below w.heap.size w w1:=bthen (by repeat (first | exact Below.refl _ _ | refine Below.alloc ?_ (by simp <;> omega) _)) b1
        have HP:Hid (parseR s=none):=Lib.hid (by rw [Hhpr.out,if_neg (by simpa using Hd.out)])
        go_wp2_with fail
        refine bodyPost_ret (v:= .tuple #[vv ⟨0,0,[]⟩,.bool false]) (by simp [results,Tryz.results117,go_sem,vv,xc0,xc1,xc2]) rfl ?_
        refine ⟨_,by rw [HP.out];rfl,(fun v h=> by rw [HP.out]at h;cases h),?_⟩
        repeat (first | (with_reducible exact Below.refl _ _) | (with_reducible assumption) | refine Below.setCell ?_ (by simp <;> omega) _ | refine Below.alloc ?_ (by simp <;> omega) _ | refine Below.drew ?_)
       ·have C2:=Lib.hid c2
        clear c2
        go_wp2_with fail
        rw [← C2.out]
        refine (rdec_any R _ hr1 hr2).mono ?_;rintro e w1 ⟨rfl,b1⟩
        have hne:(decL R !=s)=true:=by unfold bne;rw [Hd.out];rfl
        have heq:=Hd.out
        have x:w1.heap[w.heap.size]? =some (.cells #[.int .i64 0,.int .i64 0,.string ⟨#[]⟩] 57 (0,0)):=box_next (by repeat (first | (refine alloc_at ?_;simp;done) | refine alloc_old' ?_)) b1
        have xc0:w1.cell? ⟨w.heap.size,0,none⟩=some (.int .i64 0):=by rw [Lib.cell_of_heap x];rfl
        have xf0:w1.frozen? ⟨w.heap.size,0,none⟩=false:=Lib.frozen_of_heap x 0
        have xc1:w1.cell? ⟨w.heap.size,1,none⟩=some (.int .i64 0):=by rw [Lib.cell_of_heap x];rfl
        have xf1:w1.frozen? ⟨w.heap.size,1,none⟩=false:=Lib.frozen_of_heap x 1
        have xc2:w1.cell? ⟨w.heap.size,2,none⟩=some (.string ⟨#[]⟩):=by rw [Lib.cell_of_heap x];rfl
        have xf2:w1.frozen? ⟨w.heap.size,2,none⟩=false:=Lib.frozen_of_heap x 2
        have B1:Below w.heap.size w w1:=bthen (by repeat (first | exact Below.refl _ _ | refine Below.alloc ?_ (by simp <;> omega) _)) b1
        have HP:Hid (parseR s=none):=Lib.hid (by rw [Hhpr.out,if_neg (by simpa using Hd.out)])
        go_wp2_with fail
        refine bodyPost_ret (v:= .tuple #[vv ⟨0,0,[]⟩,.bool false]) (by simp [results,Tryz.results117,go_sem,vv,xc0,xc1,xc2]) rfl ?_
        refine ⟨_,by rw [HP.out];rfl,(fun v h=> by rw [HP.out]at h;cases h),?_⟩
        repeat (first | (with_reducible exact Below.refl _ _) | (with_reducible assumption) | refine Below.setCell ?_ (by simp <;> omega) _ | refine Below.alloc ?_ (by simp <;> omega) _ | refine Below.drew ?_)
  ·go_enter Tryz.func117,Tryz.ntmps117
   go_wp2_with fail
   go_loop [7,8] (fun n i=> ∃k:Nat,k≤s.length∧k≤21∧i= .int .i64 k∧n= .int .i64 (rnum0 (s.take k))) (fun _ i=> 21 - (intOf i).toNat)
   case atStart=> exact ⟨0,by omega,by omega,rfl,rfl⟩
   case round=>
    obtain ⟨k,hk,hk2,rfl,rfl⟩:=hrel
    have hb0:=rnum0_bounds (s.take k)
    obtain ⟨hb1,hb2⟩:=hb0
    by_cases hlt:k < s.length∧k < 21
    ·obtain ⟨hlt,hlt2⟩:=hlt
     have hst:=Lib.hid (rn_step hlt)
     obtain ⟨d,hd⟩: ∃d,s[k]=d:=⟨_,rfl⟩
     rw [hd]at hst
     have hx:=ba_at s k hlt hd
     clear hd
     have q1:decide ((k:Int) < 21)=true:=by simp;omega
     generalize rnum0 (s.take k)=n at *
     by_cases h48:(d.toNat:Int) ≥ 48
     ·have q2:decide ((d.toNat:Int) ≥ 48)=true:=by simp;omega
      by_cases h57:(d.toNat:Int)≤57
      ·have q3:decide ((d.toNat:Int)≤57)=true:=by simp;omega
       have hr:Hid (rstep n d=wrap64 (wrap64 (wrap64 (n * 10) - d.toNat)+48)):=Lib.hid (by unfold rstep;rw [if_pos (by omega)])
       go_wp2_with fail
       go_round
       case rel=> exact ⟨k+1,by omega,by omega,by go_num,by rw [hst.out,hr.out]⟩
       case measure=> simp [intOf];omega
      ·have q3:decide ((d.toNat:Int)≤57)=false:=by simp;omega
       have hr:Hid (rstep n d=n):=Lib.hid (by unfold rstep;rw [if_neg (by omega)])
       go_wp2_with fail
       go_round
       case rel=> exact ⟨k+1,by omega,by omega,by go_num,by rw [hst.out,hr.out]⟩
       case measure=> simp [intOf];omega
     ·have q2:decide ((d.toNat:Int) ≥ 48)=false:=by simp;omega
      have hr:Hid (rstep n d=n):=Lib.hid (by unfold rstep;rw [if_neg (by omega)])
      go_wp2_with fail
      go_round
      case rel=> exact ⟨k+1,by omega,by omega,by go_num,by rw [hst.out,hr.out]⟩
      case measure=> simp [intOf];omega
    ·rw [Hhend.out k hk hk2 hlt]at hb1 hb2⊢
     have q0:(decide (k < s.length)=true∧k < s.length∧decide ((k:Int) < 21)=false)∨(decide (k < s.length)=false∧s.length≤k∧True):=by simp;omega
     rcases q0 with ⟨q1,q3,q2⟩ | ⟨q1,q3,q2⟩
     all_goals
      clear hlt hk hk2
      rcases Hhd.out with hd | hd
      ·have Hd:=Lib.hid hd
       clear hd
       rcases HB.out with ⟨c1,c2⟩ | ⟨c1,c2⟩
       ·have C2:=Lib.hid c2
        clear c2
        go_wp2_with fail
        rw [← C2.out]
        refine (rdec_any R _ hr1 hr2).mono ?_;rintro e w1 ⟨rfl,b1⟩
        have hne:(decL R !=s)=false:=by unfold bne;rw [Hd.out];rfl
        have heq:=Hd.out
        have x:w1.heap[w.heap.size]? =some (.cells #[.int .i64 0,.int .i64 0,.string ⟨#[]⟩] 57 (0,0)):=box_next (by repeat (first | (refine alloc_at ?_;simp;done) | refine alloc_old' ?_)) b1
        have xc0:w1.cell? ⟨w.heap.size,0,none⟩=some (.int .i64 0):=by rw [Lib.cell_of_heap x];rfl
        have xf0:w1.frozen? ⟨w.heap.size,0,none⟩=false:=Lib.frozen_of_heap x 0
        have xc1:w1.cell? ⟨w.heap.size,1,none⟩=some (.int .i64 0):=by rw [Lib.cell_of_heap x];rfl
        have xf1:w1.frozen? ⟨w.heap.size,1,none⟩=false:=Lib.frozen_of_heap x 1
        have xc2:w1.cell? ⟨w.heap.size,2,none⟩=some (.string ⟨#[]⟩):=by rw [Lib.cell_of_heap x];rfl
        have xf2:w1.frozen? ⟨w.heap.size,2,none⟩=false:=Lib.frozen_of_heap x 2
        have B1:Below w.heap.size w w1:=bthen (by repeat (first | exact Below.refl _ _ | refine Below.alloc ?_ (by simp <;> omega) _)) b1
        have HP:Hid (parseR s=some ⟨1,R,[]⟩):=Lib.hid (by rw [Hhpr.out,if_pos (by simpa using Hd.out)])
        go_wp2_with fail
        refine bodyPost_ret (v:= .tuple #[vv ⟨1,R,[]⟩,.bool true]) (by simp [results,Tryz.results117,go_sem,vv,xc0,xc1,xc2]) rfl ?_
        refine ⟨_,by rw [HP.out];rfl,(fun v h=> by rw [HP.out]at h;injection h with h),?_⟩
        repeat (first | (with_reducible exact Below.refl _ _) | (with_reducible assumption) | refine Below.setCell ?_ (by simp <;> omega) _ | refine Below.alloc ?_ (by simp <;> omega) _ | refine Below.drew ?_)
       ·have C2:=Lib.hid c2
        clear c2
        go_wp2_with fail
        rw [← C2.out]
        refine (rdec_any R _ hr1 hr2).mono ?_;rintro e w1 ⟨rfl,b1⟩
        have hne:(decL R !=s)=false:=by unfold bne;rw [Hd.out];rfl
        have heq:=Hd.out
        have x:w1.heap[w.heap.size]? =some (.cells #[.int .i64 0,.int .i64 0,.string ⟨#[]⟩] 57 (0,0)):=box_next (by repeat (first | (refine alloc_at ?_;simp;done) | refine alloc_old' ?_)) b1
        have xc0:w1.cell? ⟨w.heap.size,0,none⟩=some (.int .i64 0):=by rw [Lib.cell_of_heap x];rfl
        have xf0:w1.frozen? ⟨w.heap.size,0,none⟩=false:=Lib.frozen_of_heap x 0
        have xc1:w1.cell? ⟨w.heap.size,1,none⟩=some (.int .i64 0):=by rw [Lib.cell_of_heap x];rfl
        have xf1:w1.frozen? ⟨w.heap.size,1,none⟩=false:=Lib.frozen_of_heap x 1
        have xc2:w1.cell? ⟨w.heap.size,2,none⟩=some (.string ⟨#[]⟩):=by rw [Lib.cell_of_heap x];rfl
        have xf2:w1.frozen? ⟨w.heap.size,2,none⟩=false:=Lib.frozen_of_heap x 2
        have B1:Below w.heap.size w w1:=bthen (by repeat (first | exact Below.refl _ _ | refine Below.alloc ?_ (by simp <;> omega) _)) b1
        have HP:Hid (parseR s=some ⟨1,R,[]⟩):=Lib.hid (by rw [Hhpr.out,if_pos (by simpa using Hd.out)])
        go_wp2_with fail
        refine bodyPost_ret (v:= .tuple #[vv ⟨1,R,[]⟩,.bool true]) (by simp [results,Tryz.results117,go_sem,vv,xc0,xc1,xc2]) rfl ?_
        refine ⟨_,by rw [HP.out];rfl,(fun v h=> by rw [HP.out]at h;injection h with h),?_⟩
        repeat (first | (with_reducible exact Below.refl _ _) | (with_reducible assumption) | refine Below.setCell ?_ (by simp <;> omega) _ | refine Below.alloc ?_ (by simp <;> omega) _ | refine Below.drew ?_)
      ·have Hd:=Lib.hid hd
       clear hd
       rcases HB.out with ⟨c1,c2⟩ | ⟨c1,c2⟩
       ·have C2:=Lib.hid c2
        clear c2
        go_wp2_with fail
        rw [← C2.out]
        refine (rdec_any R _ hr1 hr2).mono ?_;rintro e w1 ⟨rfl,b1⟩
        have hne:(decL R !=s)=true:=by unfold bne;rw [Hd.out];rfl
        have heq:=Hd.out
        have x:w1.heap[w.heap.size]? =some (.cells #[.int .i64 0,.int .i64 0,.string ⟨#[]⟩] 57 (0,0)):=box_next (by repeat (first | (refine alloc_at ?_;simp;done) | refine alloc_old' ?_)) b1
        have xc0:w1.cell? ⟨w.heap.size,0,none⟩=some (.int .i64 0):=by rw [Lib.cell_of_heap x];rfl
        have xf0:w1.frozen? ⟨w.heap.size,0,none⟩=false:=Lib.frozen_of_heap x 0
        have xc1:w1.cell? ⟨w.heap.size,1,none⟩=some (.int .i64 0):=by rw [Lib.cell_of_heap x];rfl
        have xf1:w1.frozen? ⟨w.heap.size,1,none⟩=false:=Lib.frozen_of_heap x 1
        have xc2:w1.cell? ⟨w.heap.size,2,none⟩=some (.string ⟨#[]⟩):=by rw [Lib.cell_of_heap x];rfl
        have xf2:w1.frozen? ⟨w.heap.size,2,none⟩=false:=Lib.frozen_of_heap x 2
        have B1:Below w.heap.size w w1:=bthen (by repeat (first | exact Below.refl _ _ | refine Below.alloc ?_ (by simp <;> omega) _)) b1
        have HP:Hid (parseR s=none):=Lib.hid (by rw [Hhpr.out,if_neg (by simpa using Hd.out)])
        go_wp2_with fail
        refine bodyPost_ret (v:= .tuple #[vv ⟨0,0,[]⟩,.bool false]) (by simp [results,Tryz.results117,go_sem,vv,xc0,xc1,xc2]) rfl ?_
        refine ⟨_,by rw [HP.out];rfl,(fun v h=> by rw [HP.out]at h;cases h),?_⟩
        repeat (first | (with_reducible exact Below.refl _ _) | (with_reducible assumption) | refine Below.setCell ?_ (by simp <;> omega) _ | refine Below.alloc ?_ (by simp <;> omega) _ | refine Below.drew ?_)
       ·have C2:=Lib.hid c2
        clear c2
        go_wp2_with fail
        rw [← C2.out]
        refine (rdec_any R _ hr1 hr2).mono ?_;rintro e w1 ⟨rfl,b1⟩
        have hne:(decL R !=s)=true:=by unfold bne;rw [Hd.out];rfl
        have heq:=Hd.out
        have x:w1.heap[w.heap.size]? =some (.cells #[.int .i64 0,.int .i64 0,.string ⟨#[]⟩] 57 (0,0)):=box_next (by repeat (first | (refine alloc_at ?_;simp;done) | refine alloc_old' ?_)) b1
        have xc0:w1.cell? ⟨w.heap.size,0,none⟩=some (.int .i64 0):=by rw [Lib.cell_of_heap x];rfl
        have xf0:w1.frozen? ⟨w.heap.size,0,none⟩=false:=Lib.frozen_of_heap x 0
        have xc1:w1.cell? ⟨w.heap.size,1,none⟩=some (.int .i64 0):=by rw [Lib.cell_of_heap x];rfl
        have xf1:w1.frozen? ⟨w.heap.size,1,none⟩=false:=Lib.frozen_of_heap x 1
        have xc2:w1.cell? ⟨w.heap.size,2,none⟩=some (.string ⟨#[]⟩):=by rw [Lib.cell_of_heap x];rfl
        have xf2:w1.frozen? ⟨w.heap.size,2,none⟩=false:=Lib.frozen_of_heap x 2
        have B1:Below w.heap.size w w1:=bthen (by repeat (first | exact Below.refl _ _ | refine Below.alloc ?_ (by simp <;> omega) _)) b1
        have HP:Hid (parseR s=none):=Lib.hid (by rw [Hhpr.out,if_neg (by simpa using Hd.out)])
        go_wp2_with fail
        refine bodyPost_ret (v:= .tuple #[vv ⟨0,0,[]⟩,.bool false]) (by simp [results,Tryz.results117,go_sem,vv,xc0,xc1,xc2]) rfl ?_
        refine ⟨_,by rw [HP.out];rfl,(fun v h=> by rw [HP.out]at h;cases h),?_⟩
        repeat (first | (with_reducible exact Below.refl _ _) | (with_reducible assumption) | refine Below.setCell ?_ (by simp <;> omega) _ | refine Below.alloc ?_ (by simp <;> omega) _ | refine Below.drew ?_)
end Go.Proofs.YtnbmpfdffoidaaaGreatDoor.V
