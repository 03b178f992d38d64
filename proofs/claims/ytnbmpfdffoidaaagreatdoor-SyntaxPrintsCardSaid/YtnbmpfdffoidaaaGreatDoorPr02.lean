/- Texts of the proof, joined: ShelfLex, Sched, ValFns, LexFns, LexRun, LexPass, LexNum, LexSign, ValFns2, ShelfStr. -/
import Derived.Test.YtnbmpfdffoidaaaGreatDoorPr01
import Derived.Shelf.Small.Strs
import Derived.Shelf.Strings.Search1
import Derived.Shelf.Strings.Count
import Derived.Shelf.Strings.LastIndex
import Derived.Shelf.Strings.Prefix
import Derived.Test.YtnbmpfdffoidaaaGreatDoorProg
import Derived.OrdersHeld
import Derived.Deep.RegionHeld
import Derived.Deep.RegionHeld3
import Derived.Outline
import Derived.Lib.Builder
import Derived.IntWalk
import Derived.Lib.LastIndexByte
import Derived.StillTailTactics
import Derived.Shelf.Strings.Builder1
import Derived.Shelf.Strings.Builder2
import Derived.Shelf.Strings.OnBuilder
import Derived.Shelf.Small.Wraps
import Derived.Shelf.Strings.BuilderF
import Derived.Shelf.Strings.BuilderK
import Derived.Shelf.Strconv.Itoa0
import Derived.Shelf.Slices.Equal
set_option linter.unusedVariables false
set_option linter.unusedSimpArgs false
set_option maxHeartbeats 8000000
set_option maxRecDepth 100000
namespace Go.Proofs
open Go.Shelf
def Tryz.lays137_ren:Go.Shelf.Ren:=⟨fun | 137=> 133 | 217=> 157 | 266=> 173 | n=> n,fun | 9=> 9 | 5=> 5 | 3=> 3 | n=> n,fun | n=> n⟩
theorem Tryz.lays137:Go.Proofs.Lays.n137 Tryz.prog Tryz.lays137_ren:= {
 mixed:=by kernel_rfl
 f137:=Tryz.func133.trans (congrArg some (by kernel_rfl))
 f217:=Tryz.func157.trans (congrArg some (by kernel_rfl))
 f266:=Tryz.func173.trans (congrArg some (by kernel_rfl))
 t3:=Tryz.underlying3
 a3:=Tryz.isAgg3
 z3:=Tryz.sizeOf3
 v3:=Tryz.zeroValue3
 t5:=Tryz.underlying5
 a5:=Tryz.isAgg5
 z5:=Tryz.sizeOf5
 v5:=Tryz.zeroValue5
 t9:=Tryz.underlying9
 a9:=Tryz.isAgg9
 z9:=Tryz.sizeOf9
 v9:=Tryz.zeroValue9 }
open Go.RowKit in
theorem Tryz.strings_IndexByte (s:ByteArray)(c:Int)(w:World):
  Calls Tryz.prog 133 #[.string s,.int .u8 c] w fun e w'=> e= .returned (.int .i64 (Lib.indexByte s.data.toList c.toNat.toUInt8))∧w'=w:=Any.strings_IndexByte Tryz.lays137 s c w
def Tryz.lays138_ren:Go.Shelf.Ren:=⟨fun | 138=> 43 | 195=> 90 | 218=> 91 | 143=> 92 | 219=> 134 | 217=> 157 | 225=> 158 | 224=> 159 | 267=> 160 | 266=> 173 | 314=> 174 | n=> n,fun | 9=> 9 | 3=> 3 | 4=> 4 | 5=> 5 | 0=> 0 | 46=> 182 | 146=> 165 | 51=> 164 | n=> n,fun | 1=> 0 | n=> n⟩
theorem Tryz.lays138:Go.Proofs.Lays.n138 Tryz.prog Tryz.lays138_ren:= {
 mixed:=by kernel_rfl
 f138:=Tryz.func43.trans (congrArg some (by kernel_rfl))
 f143:=Tryz.func92.trans (congrArg some (by kernel_rfl))
 f195:=Tryz.func90.trans (congrArg some (by kernel_rfl))
 f217:=Tryz.func157.trans (congrArg some (by kernel_rfl))
 f218:=Tryz.func91.trans (congrArg some (by kernel_rfl))
 f219:=Tryz.func134.trans (congrArg some (by kernel_rfl))
 f224:=Tryz.func159.trans (congrArg some (by kernel_rfl))
 f225:=Tryz.func158.trans (congrArg some (by kernel_rfl))
 f266:=Tryz.func173.trans (congrArg some (by kernel_rfl))
 f267:=Tryz.func160.trans (congrArg some (by kernel_rfl))
 f314:=Tryz.func174.trans (congrArg some (by kernel_rfl))
 t0:=Tryz.underlying0
 a0:=Tryz.isAgg0
 z0:=Tryz.sizeOf0
 v0:=Tryz.zeroValue0
 t3:=Tryz.underlying3
 a3:=Tryz.isAgg3
 z3:=Tryz.sizeOf3
 v3:=Tryz.zeroValue3
 t4:=Tryz.underlying4
 a4:=Tryz.isAgg4
 z4:=Tryz.sizeOf4
 v4:=Tryz.zeroValue4
 t5:=Tryz.underlying5
 a5:=Tryz.isAgg5
 z5:=Tryz.sizeOf5
 v5:=Tryz.zeroValue5
 t9:=Tryz.underlying9
 a9:=Tryz.isAgg9
 z9:=Tryz.sizeOf9
 v9:=Tryz.zeroValue9
 t46:=Tryz.underlying182
 a46:=Tryz.isAgg182
 z46:=Tryz.sizeOf182
 v46:=Tryz.zeroValue182
 t51:=Tryz.underlying164
 a51:=Tryz.isAgg164
 z51:=Tryz.sizeOf164
 v51:=Tryz.zeroValue164
 t146:=Tryz.underlying165
 a146:=Tryz.isAgg165
 z146:=Tryz.sizeOf165
 v146:=Tryz.zeroValue165
 g1:=by kernel_rfl }
open Go.RowKit Go.Lib in
theorem Tryz.strings_Count_one (s:ByteArray)(c:UInt8)(w:World):
  Calls Tryz.prog 43 #[.string s,.string ⟨#[c]⟩] w fun e w'=> e= .returned (.int .i64 (Lib.countByte s.data.toList c))∧w'=w:=Any.strings_Count_one Tryz.lays138 s c w
def Tryz.lays149_ren:Go.Shelf.Ren:=⟨fun | 149=> 129 | 222=> 93 | n=> n,fun | 9=> 9 | 5=> 5 | 3=> 3 | 4=> 4 | n=> n,fun | n=> n⟩
theorem Tryz.lays149:Go.Proofs.Lays.n149 Tryz.prog Tryz.lays149_ren:= {
 mixed:=by kernel_rfl
 f149:=Tryz.func129.trans (congrArg some (by kernel_rfl))
 f222:=Tryz.func93.trans (congrArg some (by kernel_rfl))
 t3:=Tryz.underlying3
 a3:=Tryz.isAgg3
 z3:=Tryz.sizeOf3
 v3:=Tryz.zeroValue3
 t4:=Tryz.underlying4
 a4:=Tryz.isAgg4
 z4:=Tryz.sizeOf4
 v4:=Tryz.zeroValue4
 t5:=Tryz.underlying5
 a5:=Tryz.isAgg5
 z5:=Tryz.sizeOf5
 v5:=Tryz.zeroValue5
 t9:=Tryz.underlying9
 a9:=Tryz.isAgg9
 z9:=Tryz.sizeOf9
 v9:=Tryz.zeroValue9 }
open Go.RowKit Go.Lib in
theorem Tryz.strings_LastIndexByte (s:ByteArray)(c:Int)(hs:s.size < 4611686018427387904)(w:World):
  Calls Tryz.prog 129 #[.string s,.int .u8 c] w fun e w'=> e= .returned (.int .i64 (Lib.lastIndexByte s c))∧w'=w:=Any.strings_LastIndexByte Tryz.lays149 s c hs w
def Tryz.lays148_ren:Go.Shelf.Ren:=⟨fun | 148=> 44 | 222=> 93 | 223=> 94 | 269=> 135 | n=> n,fun | 9=> 9 | 3=> 3 | 4=> 4 | 5=> 5 | 146=> 165 | 51=> 164 | 46=> 182 | n=> n,fun | n=> n⟩
theorem Tryz.lays148:Go.Proofs.Lays.n148 Tryz.prog Tryz.lays148_ren:= {
 mixed:=by kernel_rfl
 f148:=Tryz.func44.trans (congrArg some (by kernel_rfl))
 f222:=Tryz.func93.trans (congrArg some (by kernel_rfl))
 f223:=Tryz.func94.trans (congrArg some (by kernel_rfl))
 f269:=Tryz.func135.trans (congrArg some (by kernel_rfl))
 t3:=Tryz.underlying3
 a3:=Tryz.isAgg3
 z3:=Tryz.sizeOf3
 v3:=Tryz.zeroValue3
 t4:=Tryz.underlying4
 a4:=Tryz.isAgg4
 z4:=Tryz.sizeOf4
 v4:=Tryz.zeroValue4
 t5:=Tryz.underlying5
 a5:=Tryz.isAgg5
 z5:=Tryz.sizeOf5
 v5:=Tryz.zeroValue5
 t9:=Tryz.underlying9
 a9:=Tryz.isAgg9
 z9:=Tryz.sizeOf9
 v9:=Tryz.zeroValue9
 t46:=Tryz.underlying182
 a46:=Tryz.isAgg182
 z46:=Tryz.sizeOf182
 v46:=Tryz.zeroValue182
 t51:=Tryz.underlying164
 a51:=Tryz.isAgg164
 z51:=Tryz.sizeOf164
 v51:=Tryz.zeroValue164
 t146:=Tryz.underlying165
 a146:=Tryz.isAgg165
 z146:=Tryz.sizeOf165
 v146:=Tryz.zeroValue165 }
open Go.RowKit Go.Lib in
theorem Tryz.strings_LastIndex_one (s sub:ByteArray)(h1:sub.size=1)(hs:s.size < 4611686018427387904)(w:World):
  Calls Tryz.prog 44 #[.string s,.string sub] w fun e w'=> e= .returned (.int .i64 (Lib.lastIndexByte s ((sub[0]'(by omega)).toNat:Int)))∧w'=w:=Any.strings_LastIndex_one Tryz.lays148 s sub h1 hs w
def Tryz.lays99_ren:Go.Shelf.Ren:=⟨fun | 99=> 132 | 206=> 156 | n=> n,fun | 9=> 9 | 4=> 4 | 3=> 3 | n=> n,fun | n=> n⟩
theorem Tryz.lays99:Go.Proofs.Lays.n99 Tryz.prog Tryz.lays99_ren:= {
 mixed:=by kernel_rfl
 f99:=Tryz.func132.trans (congrArg some (by kernel_rfl))
 f206:=Tryz.func156.trans (congrArg some (by kernel_rfl))
 t3:=Tryz.underlying3
 a3:=Tryz.isAgg3
 z3:=Tryz.sizeOf3
 v3:=Tryz.zeroValue3
 t4:=Tryz.underlying4
 a4:=Tryz.isAgg4
 z4:=Tryz.sizeOf4
 v4:=Tryz.zeroValue4
 t9:=Tryz.underlying9
 a9:=Tryz.isAgg9
 z9:=Tryz.sizeOf9
 v9:=Tryz.zeroValue9 }
open Go.RowKit Go.Lib in
theorem Tryz.strings_HasPrefix (s p:ByteArray)(w:World):
  Calls Tryz.prog 132 #[.string s,.string p] w fun e w'=> e= .returned (.bool (Lib.hasPrefix s.data.toList p.data.toList))∧w'=w:=Any.strings_HasPrefix Tryz.lays99 s p w
end Go.Proofs
namespace Go.Proofs.YtnbmpfdffoidaaaGreatDoor
open Go.RowKit
def Grow (w W:World):Prop:=Below w.heap.size w W
theorem Grow.out {w W:World}(h:Grow w W):Below w.heap.size w W:=h
theorem Grow.refl (w:World):Grow w w:=Below.refl _ _
theorem Grow.trans {a b c:World}(h:Grow a b)(k:Grow b c):Grow a c:=bthen h k
section
variable {P:Program} {ops:Array Oper} {Q:Exit→Act→World→Prop} {md:Region.Mode}
theorem wpAnyH_imp {S S':World→Prop}(h: ∀W,S' W→S W): ∀(fuel:Nat) (listed:Array Bool) (a:Act) (w:World),wpAnyH P md ops Q S' fuel listed a w→wpAnyH P md ops Q S fuel listed a w
 | 0,_,_,_,hh=> hh
 | fuel+1,_,_,_,hh=> ⟨hh.1,fun i hi=> wpOp_mono (fun a' w' h'=> ⟨h w' h'.1,wpAnyH_imp h fuel _ a' w' h'.2⟩) (hh.2 i hi)⟩
def wpSched (P:Program)(ops:Array Oper)(Q:Exit→Act→World→Prop):List (Nat × Bool)→Act→World→Prop
  | [],a,w=> Q .normal a w
  | (i,true)::rest,a,w=> ∃o,ops[i]? =some o∧
      ((Region.wanted o (yielded ops a.tmps)=true∧∃v,(∀W,Grow w W→(execOp a.eval o).run P W= .ok (.value v) W)∧wpSched P ops Q rest (a.put o.dst v) w)∨
       (Region.wanted o (yielded ops a.tmps)=false∧wpSched P ops Q rest (a.put o.dst undef) w))
  | (i,false)::rest,a,w=> ∃o,ops[i]? =some o∧
      ((Region.wanted o (yielded ops a.tmps)=true∧o.wp P a w (fun a' w'=> Grow w w'∧wpSched P ops Q rest a' w') Q)∨
       (Region.wanted o (yielded ops a.tmps)=false∧wpSched P ops Q rest (a.put o.dst undef) w))
def schedOk (md:Region.Mode)(ops:Array Oper):Array Bool→List (Nat × Bool)→Bool
 | listed,[]=> (Region.ready md ops listed).isEmpty
 | listed,(i,true)::rest=> Region.free md ops listed i && (Region.ready md ops listed).contains i && schedOk md ops (listed.setIfInBounds i true) rest
 | listed,(i,false)::rest=> (Region.ready md ops listed==[i]) && schedOk md ops (listed.setIfInBounds i true) rest
theorem wpAnyH_sched (hs:Region.noSelect ops=true)(hQ: ∀c a d v w,Q (.panic c) (a.put d v) w→Q (.panic c) a w):
  ∀(steps:List (Nat × Bool)) (listed:Array Bool) (a:Act) (w:World),schedOk md ops listed steps=true→wpSched P ops Q steps a w→wpAnyH P md ops Q (Grow w) steps.length listed a w
 | [],listed,a,w,hok,h=> ⟨by simpa [schedOk]using hok,h⟩
 | (i,true)::rest,listed,a,w,hok,h=> by
  simp only [schedOk,Bool.and_eq_true]at hok
  obtain ⟨⟨hf,hr⟩,hok⟩:=hok
  obtain ⟨o,hi,h⟩:=h
  rcases h with ⟨hw,v,hv,h⟩ | ⟨hw,h⟩
  ·exact wpAnyH_take (v:=v) hi hs hf hr (fun c a w=> hQ c a o.dst v w) (.inl ⟨hw,hv⟩) (Grow.refl w) (wpAnyH_sched hs hQ rest _ _ w hok h)
  ·exact wpAnyH_take (v:=undef) hi hs hf hr (fun c a w=> hQ c a o.dst undef w) (.inr ⟨hw,rfl⟩) (Grow.refl w) (wpAnyH_sched hs hQ rest _ _ w hok h)
 | (i,false)::rest,listed,a,w,hok,h=> by
  simp only [schedOk,Bool.and_eq_true,beq_iff_eq]at hok
  obtain ⟨hr,hok⟩:=hok
  obtain ⟨o,hi,h⟩:=h
  refine wpAnyH_all hr (by simp) fun j hj=> ?_
  obtain rfl:j=i:=by simpa using hj
  unfold wpOp
  simp only [hi]
  rcases h with ⟨hw,h⟩ | ⟨hw,h⟩
  ·simp only [hw,if_true]
   refine .inl (Oper.wp_mono (fun a' w' h'=> ⟨h'.1,?_⟩) h)
   exact wpAnyH_imp (fun W hW=> h'.1.trans hW) _ _ _ _ (wpAnyH_sched hs hQ rest _ a' w' hok h'.2)
  ·simp only [hw,Bool.false_eq_true,if_false]
   exact ⟨Grow.refl w,wpAnyH_sched hs hQ rest _ _ w hok h⟩
theorem wp_region_sched {id:Nat}{a:Act}{w:World}(steps:List (Nat × Bool))(hm:P.follows .mixedOrders=true)
  (hok:(Region.noSelect ops && steps.length==ops.size && schedOk .any ops (Array.replicate ops.size false) steps)=true)
  (hQ: ∀c a d v w,Q (.panic c) (a.put d v) w→Q (.panic c) a w) (h:wpSched P ops Q steps a w.drew):(Code.region id ops true).wp P Q a w:=by
 simp only [Bool.and_eq_true,beq_iff_eq]at hok
 obtain ⟨⟨hs,hl⟩,hok⟩:=hok
 refine wp_region_held (S:=Grow w.drew) hm ?_
 rw [← hl]
 exact wpAnyH_sched hs hQ steps _ a w.drew (by rw [hl];exact hok) h
theorem sskip {l:List Oper}{i:Nat}{b:Bool}{rest:List (Nat × Bool)}{a:Act}{w:World}{o:Oper}(hi:l[i]? =some o)(hw:Region.wanted o (yielded l.toArray a.tmps)=false)
  (h:wpSched P l.toArray Q rest (a.put o.dst undef) w):wpSched P l.toArray Q ((i,b)::rest) a w:=by cases b <;> exact ⟨o,by simpa using hi,.inr ⟨hw,h⟩⟩
theorem sdone {a:Act}{w:World}(h:Q .normal a w):wpSched P ops Q [] a w:=h
theorem scall {l:List Oper}{i:Nat}{rest:List (Nat × Bool)}{a:Act}{w:World}{o:Oper}(hi:l[i]? =some o)(hw:Region.wanted o (yielded l.toArray a.tmps)=true)
  (h: ∀K:Act→World→Prop,Shut (∀a' w',Grow w w'→wpSched P l.toArray Q rest a' w'→K a' w')→o.wp P a w K Q):wpSched P l.toArray Q ((i,false)::rest) a w:=
 ⟨o,by simpa using hi,.inl ⟨hw,h _ (fun _ _ hg hk=> ⟨hg,hk⟩)⟩⟩
theorem sreadx {l:List Oper}{i:Nat}{rest:List (Nat × Bool)}{a:Act}{w:World}{o:Oper}(hi:l[i]? =some o)(hw:Region.wanted o (yielded l.toArray a.tmps)=true)
  (h: ∃v,(∀W,Grow w W→(execOp a.eval o).run P W= .ok (.value v) W)∧wpSched P l.toArray Q rest (a.put o.dst v) w):wpSched P l.toArray Q ((i,true)::rest) a w:=⟨o,by simpa using hi,.inl ⟨hw,h⟩⟩
theorem swith {steps:List (Nat × Bool)}{a:Act}{w:World}{p:World→Prop}(h1: ∀W,Grow w W→p W)(h2:(∀W,Grow w W→p W)→wpSched P ops Q steps a w):wpSched P ops Q steps a w:=h2 h1
theorem sbelow {steps:List (Nat × Bool)}{a:Act}{w w0:World}(h:Below w0.heap.size w0 w)(k:Below w0.heap.size w0 w→wpSched P ops Q steps a w):wpSched P ops Q steps a w:=k h
theorem srE {l:List Oper}{i:Nat}{rest:List (Nat × Bool)}{a:Act}{w:World}{o:Oper}{v:Value}(h:wpSched P l.toArray Q rest (a.put o.dst v) w)(hi:l[i]? =some o:=by rfl)(hw:Region.wanted o (yielded l.toArray a.tmps)=true:=by rfl)
  (h1: ∀W,Grow w W→(execOp a.eval o).run P W= .ok (.value v) W:=by intro W hW;go_simp;try (first | with_reducible rfl | (rw [if_neg (by omega)];try with_reducible rfl))):wpSched P l.toArray Q ((i,true)::rest) a w:=sreadx hi hw ⟨v,h1,h⟩
theorem skE {l:List Oper}{i:Nat}{b:Bool}{rest:List (Nat × Bool)}{a:Act}{w:World}{o:Oper}(h:wpSched P l.toArray Q rest (a.put o.dst undef) w)(hi:l[i]? =some o:=by rfl)(hw:Region.wanted o (yielded l.toArray a.tmps)=false:=by rfl):wpSched P l.toArray Q ((i,b)::rest) a w:=sskip hi hw h
theorem sA {α:Type}(l:List α)(i:Nat)(a:α):l.toArray.setIfInBounds i a=(l.set i a).toArray:=List.setIfInBounds_toArray ..
theorem sB {α:Type}(a b:α)(l:List α):(a::l).set 0 b=b::l:=List.set_cons_zero ..
theorem sC {α:Type}(a:α)(l:List α)(n:Nat)(b:α):(a::l).set (n+1) b=a::l.set n b:=List.set_cons_succ ..
end
end Go.Proofs.YtnbmpfdffoidaaaGreatDoor
namespace Go.Proofs.YtnbmpfdffoidaaaGreatDoor.V
open Go.RowKit O
theorem box_next {w w':World}{g:Nat}{o:Obj}(h:w.heap[g]? =some o)(b:Below w.heap.size w w'):w'.heap[g]? =some o:=by
 have hg:g < w.heap.size:=(Array.getElem?_eq_some_iff.1 h).1
 rw [b.block g hg];exact h
theorem alloc_at {w:World}{o:Obj}{k:Nat}(h:k=w.heap.size):(w.alloc o).heap[k]? =some o:=by subst h;exact heap_alloc_new w o
theorem alloc_old' {w:World}{o x:Obj}{k:Nat}(h:w.heap[k]? =some x):(w.alloc o).heap[k]? =some x:=by
 rw [Lib.alloc_old w o k (Array.getElem?_eq_some_iff.1 h).1];exact h
def vv (v:Val):Value:= .agg #[.int .i64 v.k,.int .i64 v.n,.string ⟨v.s.toArray⟩]
theorem all_step {s:List UInt8}{k:Nat}(h:k < s.length)(ha:(s.take k).all okC=true):(s.take (k+1)).all okC=okC s[k]:=by
 rw [List.take_succ_eq_append_getElem h,List.all_append,ha]
 simp
theorem all_no {s:List UInt8}{k:Nat}(h:k < s.length)(hc:okC s[k]=false):plainL s=false:=by
 unfold plainL
 have:s.all okC=false:=by
  rw [List.all_eq_false]
  exact ⟨s[k],List.getElem_mem h,by simp [hc]⟩
 rw [this];rfl
theorem ba_at (s:List UInt8)(k:Nat)(h:k < s.length){c:UInt8}(hc:s[k]=c):(ByteArray.mk s.toArray)[k]'(by simpa [ByteArray.size]using h)=c:=hc
theorem okC_yes {c:UInt8}(h:okC c=true):32≤(c.toNat:Int)∧(c.toNat:Int)≤126:=by simp [okC]at h;omega
theorem okC_no {c:UInt8}(h:okC c=false):(c.toNat:Int) < 32∨(32≤(c.toNat:Int)∧126 < (c.toNat:Int)):=by simp [okC]at h;omega
theorem all_end {s:List UInt8}(h:(s.take s.length).all okC=true):plainL s=decide ((s.length:Int)≤32):=by
 rw [List.take_length]at h
 unfold plainL
 rw [h]
 simp
 omega
theorem plain_any (s:List UInt8)(w:World)(hs:s.length≤1000000000000):Calls Tryz.prog 143 #[.string ⟨s.toArray⟩] w fun e w'=> e= .returned (.bool (plainL s))∧w=w':=by
 have hsz:(ByteArray.mk s.toArray).size=s.length:=by simp [ByteArray.size]
 go_enter Tryz.func143,Tryz.ntmps143
 go_wp2_with fail
 go_loop [2,3,6] (fun _ _ i=> ∃k:Nat,k≤s.length∧i= .int .i64 k∧Hid ((s.take k).all okC=true)) (fun _ _ i=> s.length - (intOf i).toNat)
 case atStart=> exact ⟨0,by omega,rfl,Lib.hid (by simp)⟩
 case round=>
  obtain ⟨k,hk,rfl,H⟩:=hrel
  by_cases hlt:k < s.length
  ·have hn:=Lib.hid (all_step hlt H.out)
   have hno:=Lib.hid (all_no hlt)
   generalize hc:s[k]=c at hn hno
   have hx:=ba_at s k hlt hc
   cases ho:okC c
   ·rcases okC_no ho with h1 | ⟨h1,h2⟩
    all_goals
     go_wp2_with fail
     go_ret
     exact ⟨by rw [hno.out ho];rfl,rfl⟩
   ·obtain ⟨h1,h2⟩:=okC_yes ho
    go_wp2_with fail
    go_round
    case rel=> exact ⟨k+1,by omega,by go_num,Lib.hid (by rw [hn.out,ho])⟩
    case measure=> simp [intOf];omega
  ·obtain rfl:k=s.length:=by omega
   have he:=Lib.hid (all_end H.out)
   go_wp2_with fail
   go_ret
   exact ⟨by rw [he.out];rfl,rfl⟩
theorem right_any (v:Val)(w:World)(hs:v.s.length≤1000000000000):Calls Tryz.prog 108 #[vv v] w fun e w'=> e= .returned (.bool (right v))∧Below w.heap.size w w':=by
 obtain ⟨k,n,s⟩:=v
 simp only [vv]
 by_cases h1:k=1
 ·subst h1
  go_enter Tryz.func108,Tryz.ntmps108
  go_wp2_with fail
  go_ret
  exact ⟨by simp [right],(Below.refl _ _).alloc (Nat.le_refl _) _⟩
 ·by_cases h2:k=2
  ·subst h2
   cases he:s.isEmpty
   ·go_enter Tryz.func108,Tryz.ntmps108
    go_wp2_with fail
    go_ret
    exact ⟨by simp [right,he],(Below.refl _ _).alloc (Nat.le_refl _) _⟩
   ·by_cases h0:n=0
    ·subst h0
     go_enter Tryz.func108,Tryz.ntmps108
     go_wp2_with fail
     go_ret
     exact ⟨by simp [right,he],(Below.refl _ _).alloc (Nat.le_refl _) _⟩
    ·go_enter Tryz.func108,Tryz.ntmps108
     go_wp2_with fail
     go_ret
     exact ⟨by simp [right,he,h0],(Below.refl _ _).alloc (Nat.le_refl _) _⟩
  ·by_cases h3:k=3
   ·subst h3
    by_cases h0:n=0
    ·subst h0
     go_enter Tryz.func108,Tryz.ntmps108
     go_wp2_with fail
     refine (plain_any s _ hs).mono ?_;rintro e w1 ⟨rfl,rfl⟩
     go_wp2_with fail
     go_ret
     exact ⟨by simp [right],(Below.refl _ _).alloc (Nat.le_refl _) _⟩
    ·go_enter Tryz.func108,Tryz.ntmps108
     go_wp2_with fail
     go_ret
     exact ⟨by simp [right,h0],(Below.refl _ _).alloc (Nat.le_refl _) _⟩
   ·go_enter Tryz.func108,Tryz.ntmps108
    go_wp2_with fail
    go_ret
    exact ⟨by simp [right,h1,h2,h3],(Below.refl _ _).alloc (Nat.le_refl _) _⟩
def tv (k m:Int):Value:= .agg #[.int .i64 k,.int .i64 m]
def rightT (k m:Int):Bool:=((k==1 || k==2) && m==0) || (k==3 && decide (1≤m) && decide (m≤32))
theorem rightType_any (k m:Int)(w:World):Calls Tryz.prog 113 #[tv k m] w fun e w'=> e= .returned (.bool (rightT k m))∧Below w.heap.size w w':=by
 simp only [tv]
 by_cases h1:k=1
 ·subst h1
  go_enter Tryz.func113,Tryz.ntmps113
  go_wp2_with fail
  go_ret
  exact ⟨by simp [rightT],(Below.refl _ _).alloc (Nat.le_refl _) _⟩
 ·by_cases h2:k=2
  ·subst h2
   go_enter Tryz.func113,Tryz.ntmps113
   go_wp2_with fail
   go_ret
   exact ⟨by simp [rightT],(Below.refl _ _).alloc (Nat.le_refl _) _⟩
  ·by_cases h3:k=3
   ·subst h3
    by_cases h0:1≤m
    ·go_enter Tryz.func113,Tryz.ntmps113
     go_wp2_with fail
     go_ret
     exact ⟨by simp [rightT,h0],(Below.refl _ _).alloc (Nat.le_refl _) _⟩
    ·go_enter Tryz.func113,Tryz.ntmps113
     go_wp2_with fail
     go_ret
     exact ⟨by simp [rightT];omega,(Below.refl _ _).alloc (Nat.le_refl _) _⟩
   ·go_enter Tryz.func113,Tryz.ntmps113
    go_wp2_with fail
    go_ret
    exact ⟨by simp [rightT,h1,h2,h3],(Below.refl _ _).alloc (Nat.le_refl _) _⟩
end Go.Proofs.YtnbmpfdffoidaaaGreatDoor.V
namespace Go.Proofs.YtnbmpfdffoidaaaGreatDoor.X
open Go.RowKit O V S
theorem heap_set {w:World}{b i:Nat}{cs:Array Value}{T:TypeId}(hb:w.heap[b]? =some (.cells cs T (0,0)))(v:Value):(w.setCell ⟨b,i,none⟩ v).heap[b]? =some (.cells (cs.setIfInBounds i v) T (0,0)):=by
 simp [World.setCell,Array.getElem?_modify,hb]
theorem gb_set (w:World)(g j:Nat)(v:Value):w.grownBy (w.setCell ⟨g,j,none⟩ v) (some g):=⟨rfl,rfl,rfl,by simp,fun i _ hi=> Below.heap_setCell _ _ _ _ (fun e=> hi (by rw [e]))⟩
def isN (c:UInt8)(n:Nat):Bool:=decide (c.toNat=n)
theorem isN_b {c:UInt8}{n:Nat}{b:Bool}(h:isN c n=b):((c.toNat:Int)==(n:Int))=b:=by
 subst h;unfold isN;rw [Bool.eq_iff_iff];simp;omega
theorem lblank_any (c:UInt8)(w:World):Calls Tryz.prog 80 #[.int .u8 (c.toNat:Int)] w fun e w'=> e= .returned (.bool (blankC c))∧w=w':=by
 have hb:blankC c=(isN c 32 || (isN c 9 || (isN c 10 || isN c 13))):=rfl
 cases h1:isN c 32
 ·cases h2:isN c 9
  ·cases h3:isN c 10
   ·cases h4:isN c 13
    all_goals
     have e1:=isN_b h1
     have e2:=isN_b h2
     have e3:=isN_b h3
     have e4:=isN_b h4
     have HB:=Lib.hid (show blankC c=_ by rw [hb,h1,h2,h3,h4])
     clear h1 h2 h3 h4 hb
     simp only [Int.cast_ofNat_Int]at e1 e2 e3 e4
     go_enter Tryz.func80,Tryz.ntmps80
     go_wp2_with fail
     go_ret
     exact ⟨by rw [HB.out];rfl,rfl⟩
   ·have e1:=isN_b h1
    have e2:=isN_b h2
    have e3:=isN_b h3
    have HB:=Lib.hid (show blankC c=true by rw [hb,h1,h2,h3];rfl)
    clear h1 h2 h3 hb
    simp only [Int.cast_ofNat_Int]at e1 e2 e3
    go_enter Tryz.func80,Tryz.ntmps80
    go_wp2_with fail
    go_ret
    exact ⟨by rw [HB.out];rfl,rfl⟩
  ·have e1:=isN_b h1
   have e2:=isN_b h2
   have HB:=Lib.hid (show blankC c=true by rw [hb,h1,h2];rfl)
   clear h1 h2 hb
   simp only [Int.cast_ofNat_Int]at e1 e2
   go_enter Tryz.func80,Tryz.ntmps80
   go_wp2_with fail
   go_ret
   exact ⟨by rw [HB.out];rfl,rfl⟩
 ·have e1:=isN_b h1
  have HB:=Lib.hid (show blankC c=true by rw [hb,h1];rfl)
  clear h1 hb
  simp only [Int.cast_ofNat_Int]at e1
  go_enter Tryz.func80,Tryz.ntmps80
  go_wp2_with fail
  go_ret
  exact ⟨by rw [HB.out];rfl,rfl⟩
theorem lsmall_any (c:UInt8)(w:World):Calls Tryz.prog 83 #[.int .u8 (c.toNat:Int)] w fun e w'=> e= .returned (.bool (smallC c))∧w=w':=by
 by_cases h1:(c.toNat:Int) ≥ 97
 ·have d1:decide ((c.toNat:Int) ≥ 97)=true:=by simp;omega
  by_cases h2:(c.toNat:Int)≤122
  ·have d2:decide ((c.toNat:Int)≤122)=true:=by simp;omega
   have HB:=Lib.hid (show smallC c=true by unfold smallC;simp;omega)
   clear h1 h2
   go_enter Tryz.func83,Tryz.ntmps83
   go_wp2_with fail
   go_ret
   exact ⟨by rw [HB.out];rfl,rfl⟩
  ·have d2:decide ((c.toNat:Int)≤122)=false:=by simp;omega
   have HB:=Lib.hid (show smallC c=false by unfold smallC;simp;omega)
   clear h1 h2
   go_enter Tryz.func83,Tryz.ntmps83
   go_wp2_with fail
   go_ret
   exact ⟨by rw [HB.out];rfl,rfl⟩
 ·have d1:decide ((c.toNat:Int) ≥ 97)=false:=by simp;omega
  have HB:=Lib.hid (show smallC c=false by unfold smallC;simp;omega)
  clear h1
  go_enter Tryz.func83,Tryz.ntmps83
  go_wp2_with fail
  go_ret
  exact ⟨by rw [HB.out];rfl,rfl⟩
theorem ldigit_any (c:UInt8)(w:World):Calls Tryz.prog 85 #[.int .u8 (c.toNat:Int)] w fun e w'=> e= .returned (.bool (digitC c))∧w=w':=by
 by_cases h1:(c.toNat:Int) ≥ 48
 ·have d1:decide ((c.toNat:Int) ≥ 48)=true:=by simp;omega
  by_cases h2:(c.toNat:Int)≤57
  ·have d2:decide ((c.toNat:Int)≤57)=true:=by simp;omega
   have HB:=Lib.hid (show digitC c=true by unfold digitC;simp;omega)
   clear h1 h2
   go_enter Tryz.func85,Tryz.ntmps85
   go_wp2_with fail
   go_ret
   exact ⟨by rw [HB.out];rfl,rfl⟩
  ·have d2:decide ((c.toNat:Int)≤57)=false:=by simp;omega
   have HB:=Lib.hid (show digitC c=false by unfold digitC;simp;omega)
   clear h1 h2
   go_enter Tryz.func85,Tryz.ntmps85
   go_wp2_with fail
   go_ret
   exact ⟨by rw [HB.out];rfl,rfl⟩
 ·have d1:decide ((c.toNat:Int) ≥ 48)=false:=by simp;omega
  have HB:=Lib.hid (show digitC c=false by unfold digitC;simp;omega)
  clear h1
  go_enter Tryz.func85,Tryz.ntmps85
  go_wp2_with fail
  go_ret
  exact ⟨by rw [HB.out];rfl,rfl⟩
theorem lword_any (c:UInt8)(w:World):Calls Tryz.prog 84 #[.int .u8 (c.toNat:Int)] w fun e w'=> e= .returned (.bool (wordC c))∧w=w':=by
 have hb:wordC c=(smallC c || (digitC c || isN c 95)):=rfl
 have HB:=Lib.hid hb
 clear hb
 cases h3:isN c 95
 all_goals
  have e3:=isN_b h3
  have H3:=Lib.hid h3
  clear h3
  simp only [Int.cast_ofNat_Int]at e3
  go_enter Tryz.func84,Tryz.ntmps84
  go_wp2_with fail
  refine (lsmall_any c _).mono ?_;rintro e w1 ⟨rfl,rfl⟩
  cases h1:smallC c
  ·go_wp2_with fail
   refine (ldigit_any c _).mono ?_;rintro e w2 ⟨rfl,rfl⟩
   cases h2:digitC c
   ·go_wp2_with fail
    go_ret
    exact ⟨by rw [HB.out,h1,h2,H3.out];rfl,rfl⟩
   ·go_wp2_with fail
    go_ret
    exact ⟨by rw [HB.out,h1,h2];rfl,rfl⟩
  ·go_wp2_with fail
   go_ret
   exact ⟨by rw [HB.out,h1];rfl,rfl⟩
end Go.Proofs.YtnbmpfdffoidaaaGreatDoor.X
namespace Go.Proofs.YtnbmpfdffoidaaaGreatDoor.X
open Go.RowKit O V S
structure Lx (w:World)(g:Nat)(s:List UInt8)(i:Nat):Prop where
 box:w.heap[g]? =some (.cells #[.int .i64 (i:Int),.int .i64 (lineOf s i:Int),.int .i64 (startOf s i:Int),.string ⟨s.toArray⟩] 99 (0,0))
 i:i≤s.length
 n:s.length≤20000
theorem Lx.lt {w:World}{g:Nat}{s:List UInt8}{i:Nat}(h:Lx w g s i):g < w.heap.size:=(Array.getElem?_eq_some_iff.1 h.box).1
theorem Lx.next {w W:World}{g:Nat}{s:List UInt8}{i:Nat}(h:Lx w g s i)(b:Below w.heap.size w W):Lx W g s i:=⟨box_next h.box b,h.i,h.n⟩
theorem cells4 {W:World}{g:Nat}{x y z u:Value}{T:TypeId}(h:W.heap[g]? =some (.cells #[x,y,z,u] T (0,0))):(W.cell? ⟨g,0,none⟩=some x∧W.cell? ⟨g,1,none⟩=some y)∧W.cell? ⟨g,2,none⟩=some z∧W.cell? ⟨g,3,none⟩=some u:=
 ⟨⟨by rw [Lib.cell_of_heap h];rfl,by rw [Lib.cell_of_heap h];rfl⟩,by rw [Lib.cell_of_heap h];rfl,by rw [Lib.cell_of_heap h];rfl⟩
theorem run_step {p:UInt8→Bool}{t:List UInt8}{k:Nat}(hk:k < t.length)(ha:(t.take k).all p=true):runLen p t=if p t[k]then runLen p t else k:=by
 split
 ·rfl
 ·rename_i h
  have hz: ∀(k:Nat) (t:List UInt8) (hk:k < t.length),(t.take k).all p=true→p t[k]=false→runLen p t=k:=by
   intro k
   induction k with
   | zero=>
    intro t hk _ hp
    match t,hk with
    | c::r,_=> unfold runLen;rw [if_neg (by simpa using hp)]
   | succ k ih=>
    intro t hk ha hp
    match t,hk with
    | c::r,hk=>
     simp only [List.take_succ_cons,List.all_cons,Bool.and_eq_true]at ha
     unfold runLen
     rw [if_pos ha.1,ih r (by simpa using hk) ha.2 (by simpa using hp)]
  exact hz k t hk ha (by simpa using h)
theorem run_all {p:UInt8→Bool}: ∀{t:List UInt8},t.all p=true→runLen p t=t.length
 | [],_=> rfl
 | c::r,h=> by
  simp only [List.all_cons,Bool.and_eq_true]at h
  unfold runLen
  rw [if_pos h.1,run_all h.2]
  rfl
theorem all_snoc {p:UInt8→Bool}{t:List UInt8}{k:Nat}(hk:k < t.length)(ha:(t.take k).all p=true)(hp:p t[k]=true):(t.take (k+1)).all p=true:=by
 rw [List.take_succ_eq_append_getElem hk,List.all_append,ha];simp [hp]
end Go.Proofs.YtnbmpfdffoidaaaGreatDoor.X
namespace Go.Proofs.YtnbmpfdffoidaaaGreatDoor.X
open Go.RowKit O V S
theorem cut_at (s:List UInt8)(i n m:Nat)(h:m=i+n):(ByteArray.mk s.toArray).extract i m=⟨((s.drop i).take n).toArray⟩:=by
 subst h
 apply ByteArray.ext
 simp [List.extract_eq_take_drop,List.take_drop]
theorem last_cases (u:List UInt8):(Lib.lastIndexByte ⟨u.toArray⟩ 10=-1∧∀j,j < u.length→(u.getD j 0).toNat≠10)∨∃p:Nat,p < u.length∧Lib.lastIndexByte ⟨u.toArray⟩ 10=p∧(u.getD p 0).toNat=10∧∀j,p < j→j < u.length→(u.getD j 0).toNat≠10:=by
 have hsz:(ByteArray.mk u.toArray).size=u.length:=by simp [ByteArray.size]
 have hg: ∀j,j < u.length→(ByteArray.mk u.toArray).data[j]! =u.getD j 0:=fun j hj=> by simp [List.getD_eq_getElem?_getD,hj]
 rcases Lib.lastIdx_spec ⟨u.toArray⟩ 10 (ByteArray.mk u.toArray).size with ⟨h1,h2⟩ | ⟨p,hp,h1,h2,h3⟩
 ·refine .inl ⟨h1,fun j hj=> ?_⟩
  have:=h2 j (by omega)
  rw [hg j hj]at this
  omega
 ·rw [hsz]at hp
  refine .inr ⟨p,hp,h1,?_,fun j hj1 hj2=> ?_⟩
  ·rw [hg p hp]at h2;omega
  ·have:=h3 j hj1 (by omega)
   rw [hg j hj2]at this
   omega
theorem getD_cut {s:List UInt8}{i n j:Nat}(h:i+n≤s.length)(hj:j < n):((s.drop i).take n).getD j 0=s.getD (i+j) 0:=by
 simp [List.getD_eq_getElem?_getD,List.getElem?_take,hj]
def offW (w:World)(g:Nat):Nat:=match w.cell? ⟨g,0,none⟩with
 | some (.int _ n)=> n.toNat
 | _=> 0
theorem drop_take_len {s:List UInt8}{i:Nat}(p:UInt8→Bool)(h:i≤s.length):i+runLen p (s.drop i)≤s.length:=by
 have:=runLen_le p (s.drop i)
 simp at this
 omega
theorem skip_at_note {s:List UInt8}{i:Nat}(hi:i < s.length)(h:(s[i]).toNat=35):skip (s.drop (i+runLen noteC (s.drop i)))=skip (s.drop i)∧0 < runLen noteC (s.drop i):=by
 have e:s.drop i=s[i]::s.drop (i+1):=List.drop_eq_getElem_cons hi
 have hn:noteC s[i]=true:=by unfold noteC;simp;omega
 constructor
 ·rw [← List.drop_drop,drop_run,e,skip_note _ h,List.dropWhile_cons,if_pos hn]
 ·rw [e];unfold runLen;rw [if_pos hn];omega
end Go.Proofs.YtnbmpfdffoidaaaGreatDoor.X
namespace Go.Proofs.YtnbmpfdffoidaaaGreatDoor.X
open Go.RowKit O V S
def pv (o l c:Int):Value:= .agg #[.int .i64 o,.int .i64 l,.int .i64 c]
def plc (s:List UInt8)(i:Nat):Value:=pv i (lineOf s i) ((i:Int) - (startOf s i:Int)+1)
theorem lint_any (n:Int)(w:World):Calls Tryz.prog 52 #[.int .i64 n] w fun e w'=> e= .returned (vv ⟨1,n,[]⟩)∧Below w.heap.size w w':=by
 go_enter Tryz.func52,Tryz.ntmps52
 go_wp2_with fail
 refine bodyPost_ret (v:=vv ⟨1,n,[]⟩) (by simp [results,Tryz.results52,go_sem,vv]) rfl ?_
 refine ⟨rfl,?_⟩
 repeat (first | (with_reducible exact Below.refl _ _) | (with_reducible assumption) | refine Below.setCell ?_ (by simp <;> omega) _ | refine Below.alloc ?_ (by simp <;> omega) _ | refine Below.drew ?_)
theorem here_any (o l c:Nat)(w:World)(ho:o≤20000)(hc:c≤20000):Calls Tryz.prog 82 #[pv o l c] w fun e w'=> e= .returned (pv o l ((o:Int) - (c:Int)+1))∧Below w.heap.size w w':=by
 unfold pv
 go_enter Tryz.func82,Tryz.ntmps82
 go_wp2_with fail
 refine bodyPost_ret (v:=pv o l ((o:Int) - (c:Int)+1)) (by simp [results,Tryz.results82,go_sem,pv]) rfl ?_
 refine ⟨rfl,?_⟩
 repeat (first | (with_reducible exact Below.refl _ _) | (with_reducible assumption) | refine Below.setCell ?_ (by simp <;> omega) _ | refine Below.alloc ?_ (by simp <;> omega) _ | refine Below.drew ?_)
def clampI (s:List UInt8)(off:Int):Nat:=if off < 0 then 0 else if (s.length:Int) < off then s.length else off.toNat
theorem clamp_le (s:List UInt8)(off:Int):clampI s off≤s.length:=by
 unfold clampI;split
 ·omega
 ·split <;> omega
theorem at_plain (s:List UInt8)(i:Nat)(hi:i≤s.length):(1+(Lib.countByte ((ByteArray.mk s.toArray).extract 0 i).data.toList 10:Int)=(lineOf s i:Int))∧((i:Int) - Lib.lastIndexByte ((ByteArray.mk s.toArray).extract 0 i) 10=(i:Int) - (startOf s i:Int)+1):=by
 have hcut:=cut_at s 0 i i (by omega)
 rw [hcut]
 have hline:=line_add s 0 i (by omega)
 have hlast:=last_cases ((s.drop 0).take i)
 have hul:((s.drop 0).take i).length=i:=by simp;omega
 have hgd:=fun j hj=> getD_cut (s:=s) (i:=0) (n:=i) (j:=j) (by omega) hj
 constructor
 ·simp only [Lib.countByte]
  rw [Nat.zero_add]at hline
  rw [hline]
  simp [lineOf]
 ·rcases hlast with ⟨h1,h2⟩ | ⟨p,hp,h1,h2,h3⟩
  ·rw [h1]
   have:=start_no s 0 i (fun j hj1 hj2=> by
    have:=h2 j (by omega)
    rw [hgd _ (by omega)]at this
    simpa using this)
   rw [Nat.zero_add]at this
   rw [this];simp [startOf]
  ·rw [h1]
   have:=start_at s 0 p i (by omega) (by rw [← hgd p (by omega)];exact h2) (fun j hj1 hj2=> by rw [← hgd j hj2];exact h3 j hj1 (by omega))
   rw [Nat.zero_add]at this
   rw [this];omega
theorem at_any (s:List UInt8)(off:Int)(w:World)(hs:s.length≤20000):Calls Tryz.prog 16 #[.string ⟨s.toArray⟩,.int .i64 off] w fun e w'=> e= .returned (plc s (clampI s off))∧Below w.heap.size w w':=by
 have hsz:(ByteArray.mk s.toArray).size=s.length:=by simp [ByteArray.size]
 obtain ⟨i,hi⟩: ∃i,clampI s off=i:=⟨_,rfl⟩
 have hi2:=clamp_le s off
 rw [hi]at hi2
 have hcl:max 0 (min off (s.length:Int))=(i:Int):=by
  rw [← hi];unfold clampI
  split
  ·omega
  ·split <;> omega
 have HP:=Lib.hid (at_plain s i hi2)
 rw [hi]
 have HI:=Lib.hid hi
 clear hi
 go_enter Tryz.func16,Tryz.ntmps16
 go_wp2_with fail
 have hlo:=lineOf_le s i
 have hso:=startOf_le s i
 obtain ⟨h1,h2⟩:=HP.out
 obtain ⟨u,hu⟩: ∃u,(ByteArray.mk s.toArray).extract 0 i=u:=⟨_,rfl⟩
 have hus:u.size≤20000:=by rw [← hu];simp [ByteArray.size_extract];omega
 rw [hu]at h1 h2
 rw [hu]
 obtain ⟨k,hk⟩: ∃k,Lib.countByte u.data.toList 10=k:=⟨_,rfl⟩
 obtain ⟨q,hq⟩: ∃q:Int,Lib.lastIndexByte u 10=q:=⟨_,rfl⟩
 rw [hk]at h1
 rw [hq]at h2
 have hk2:k≤20000:=by omega
 have hq1:-1≤q:=by omega
 have hq2:q≤20000:=by omega
 have H1:=Lib.hid h1
 have H2:=Lib.hid h2
 clear h1 h2 hlo hso hu hcl
 refine (Tryz.strings_Count_one u 10 _).mono ?_;rintro e w1 ⟨rfl,rfl⟩
 rw [hk]
 go_wp2_with fail
 refine (Tryz.strings_LastIndex_one u ⟨#[10]⟩ rfl (by omega) _).mono ?_;rintro e w1 ⟨he,rfl⟩
 replace he:e= .returned (.int .i64 q):=he.trans (by rw [← hq];rfl)
 subst he
 go_wp2_with fail
 refine bodyPost_ret (v:=plc s i) (by simp [results,Tryz.results16,go_sem,plc,pv,← H1.out,← H2.out]) rfl ?_
 have H1:=H1.out
 have H2:=H2.out
 refine ⟨rfl,?_⟩
 repeat (first | (with_reducible exact Below.refl _ _) | (with_reducible assumption) | refine Below.setCell ?_ (by simp <;> omega) _ | refine Below.alloc ?_ (by simp <;> omega) _ | refine Below.drew ?_)
end Go.Proofs.YtnbmpfdffoidaaaGreatDoor.X
namespace Go.Proofs.YtnbmpfdffoidaaaGreatDoor.X
open Go.RowKit O V S
def signB:List UInt8:=[123,125,40,41,91,93,59,44,46,61,60,43,45,42,47,37,33]
def pairs:List (List UInt8):=[[38,38],[124,124],[61,61],[33,61],[60,61],[43,43]]
theorem one_mem (c:UInt8):one c.toNat=signB.contains c:=by
 have h:signs=signB.map UInt8.toNat:=rfl
 unfold one
 rw [h,List.any_map,List.contains_eq_any_beq]
 congr 1
 funext x
 rw [Bool.eq_iff_iff]
 simp only [Function.comp_apply,decide_eq_true_eq,beq_iff_eq]
 exact ⟨fun h=> (UInt8.toNat_inj.1 h).symm,fun h=> by rw [h]⟩
theorem index_mem (c:UInt8): ∀l:List UInt8,decide (0≤Lib.indexByte l c)=l.contains c
 | []=> by simp [Lib.indexByte]
 | x::r=> by
  have:=index_mem c r
  have hg:=Lib.indexByte_ge r c
  have h1:(x==c)=(c==x):=by rw [Bool.eq_iff_iff];simp only [beq_iff_eq];exact eq_comm
  unfold Lib.indexByte
  rw [List.contains_cons,← this,← h1]
  cases hx:x==c
  ·simp only [Bool.false_eq_true,if_false,Bool.false_or]
   by_cases hm:Lib.indexByte r c=-1
   ·rw [if_pos (by simp [hm]),hm]
   ·rw [if_neg (by simp [hm])]
    rw [Bool.eq_iff_iff,decide_eq_true_eq,decide_eq_true_eq];omega
  ·simp
theorem two_pairs (c d:UInt8)(r:List UInt8):two c.toNat d.toNat=pairs.any (Lib.hasPrefix (c::d::r)):=by
 have h: ∀a b:UInt8,Lib.hasPrefix (c::d::r) [a,b]=(decide (c.toNat=a.toNat) && decide (d.toNat=b.toNat)):=by
  intro a b
  simp only [Lib.hasPrefix,List.isPrefixOf,Bool.and_true]
  have h: ∀x y:UInt8,(x==y)=decide (y.toNat=x.toNat):=fun x y=> by
   rw [Bool.eq_iff_iff,beq_iff_eq,decide_eq_true_eq]
   exact ⟨fun h=> by rw [h],fun h=> (UInt8.toNat_inj.1 h).symm⟩
  rw [h,h]
 unfold pairs two
 simp only [List.any_cons,h,List.any_nil,Bool.or_false]
 rfl
theorem signL_eq (c:UInt8)(r:List UInt8):signL (c::r)=if pairs.any (Lib.hasPrefix (c::r))=true then 2 else if signB.contains c=true then 1 else 0:=by
 rw [← one_mem]
 match r with
 | []=>
  have:pairs.any (Lib.hasPrefix [c])=false:=by simp [pairs,Lib.hasPrefix,List.isPrefixOf]
  rw [this];simp [signL]
 | d::r=> rw [← two_pairs];rfl
theorem signL_at: ∀(t:List UInt8) (h:0 < t.length),signL t=if pairs.any (Lib.hasPrefix t)=true then 2 else if signB.contains t[0]=true then 1 else 0
 | c::r,_=> signL_eq c r
theorem sign_any (g:Nat)(s:List UInt8)(i:Nat)(w:World)(h:Lx w g s i)(hin:i < s.length):Calls Tryz.prog 89 #[.pointer (some ⟨g,0,none⟩)] w fun e w'=> e= .returned (.int .i64 (signL (s.drop i):Int))∧Below w.heap.size w w':=by
 have hn:=h.n
 have hi:=h.i
 have hin':decide (i≤s.length)=true:=by simp;omega
 have HL:=Lib.hid h
 have hgl:=h.lt
 have hsz:(ByteArray.mk s.toArray).size=s.length:=by simp [ByteArray.size]
 have hcut:=cut_at s i (s.length - i) s.length (by omega)
 rw [List.take_of_length_le (by simp)]at hcut
 have hul:(s.drop i).length=s.length - i:=by simp
 have hlt0:0 < (s.drop i).length:=by omega
 clear h
 obtain ⟨t,ht⟩: ∃t,s.drop i=t:=⟨_,rfl⟩
 rw [ht]at hcut hul hlt0
 rw [ht]
 clear ht
 go_enter Tryz.func89,Tryz.ntmps89
 go_wp2_with fail
 refine wp_region_sched [(0,true),(1,true),(2,true),(3,true),(4,true),(5,true),(6,true),(7,true),(8,true),(9,true),(10,true)] (by kernel_rfl) (by kernel_rfl) (fun _ _ d _ _ h=> by cases d <;> exact h) ?_
 refine swith (fun W hW=> (cells4 (HL.out.next ((Below.refl _ _).drew.trans (hW.out.mono (Nat.le_refl _)))).box)) (fun q=> ?_)
 repeat (first | (refine srE ?_;simp only [Act.put,sA,sB,sC]) | (refine skE ?_;simp only [Act.put,sA,sB,sC]))
 refine sdone ?_
 clear q
 have hr:=Lib.hid (signL_at t hlt0)
 obtain ⟨c,hc⟩: ∃c,t[0]=c:=⟨_,rfl⟩
 rw [hc]at hr
 have hx:=ba_at t 0 hlt0 hc
 have hsz2:(ByteArray.mk t.toArray).size=t.length:=by simp [ByteArray.size]
 clear hc
 clear hcut hsz hul
 go_wp2_with fail
 go_loop [2,18] (fun v i=> ∃k:Nat,k≤6∧i= .int .i64 k∧(pairs.take k).any (Lib.hasPrefix t)=false) (fun _ i=> 6 - (intOf i).toNat)
 case atStart=> exact ⟨0,by omega,rfl,rfl⟩
 case round=>
  obtain ⟨k,hk,rfl,hp⟩:=hrel
  match k,hk with
  | 0,_=>
   go_wp2_with fail
   refine (Tryz.strings_HasPrefix ⟨t.toArray⟩ ⟨#[38,38]⟩ _).mono ?_;rintro e w1 ⟨rfl,rfl⟩
   have hpk:Lib.hasPrefix (ByteArray.mk t.toArray).data.toList (ByteArray.mk #[38,38]).data.toList=Lib.hasPrefix t [38,38]:=rfl
   rw [hpk]
   cases hq:Lib.hasPrefix t [38,38]
   ·go_wp2_with fail
    go_round
    case rel=> exact ⟨0+1,by omega,by go_num,by rw [show pairs.take (0+1)=pairs.take 0 ++ [[38,38]] from rfl,List.any_append,hp];simp [hq]⟩
    case measure=> simp [intOf]
   ·go_wp2_with fail
    go_ret
    refine ⟨by rw [hr.out,if_pos (by simp [pairs,hq])];rfl,?_⟩
    repeat (first | (with_reducible exact Below.refl _ _) | (with_reducible assumption) | refine Below.setCell ?_ (by simp <;> omega) _ | refine Below.alloc ?_ (by simp <;> omega) _ | refine Below.drew ?_)
  | 1,_=>
   go_wp2_with fail
   refine (Tryz.strings_HasPrefix ⟨t.toArray⟩ ⟨#[124,124]⟩ _).mono ?_;rintro e w1 ⟨rfl,rfl⟩
   have hpk:Lib.hasPrefix (ByteArray.mk t.toArray).data.toList (ByteArray.mk #[124,124]).data.toList=Lib.hasPrefix t [124,124]:=rfl
   rw [hpk]
   cases hq:Lib.hasPrefix t [124,124]
   ·go_wp2_with fail
    go_round
    case rel=> exact ⟨1+1,by omega,by go_num,by rw [show pairs.take (1+1)=pairs.take 1 ++ [[124,124]] from rfl,List.any_append,hp];simp [hq]⟩
    case measure=> simp [intOf]
   ·go_wp2_with fail
    go_ret
    refine ⟨by rw [hr.out,if_pos (by simp [pairs,hq])];rfl,?_⟩
    repeat (first | (with_reducible exact Below.refl _ _) | (with_reducible assumption) | refine Below.setCell ?_ (by simp <;> omega) _ | refine Below.alloc ?_ (by simp <;> omega) _ | refine Below.drew ?_)
  | 2,_=>
   go_wp2_with fail
   refine (Tryz.strings_HasPrefix ⟨t.toArray⟩ ⟨#[61,61]⟩ _).mono ?_;rintro e w1 ⟨rfl,rfl⟩
   have hpk:Lib.hasPrefix (ByteArray.mk t.toArray).data.toList (ByteArray.mk #[61,61]).data.toList=Lib.hasPrefix t [61,61]:=rfl
   rw [hpk]
   cases hq:Lib.hasPrefix t [61,61]
   ·go_wp2_with fail
    go_round
    case rel=> exact ⟨2+1,by omega,by go_num,by rw [show pairs.take (2+1)=pairs.take 2 ++ [[61,61]] from rfl,List.any_append,hp];simp [hq]⟩
    case measure=> simp [intOf]
   ·go_wp2_with fail
    go_ret
    refine ⟨by rw [hr.out,if_pos (by simp [pairs,hq])];rfl,?_⟩
    repeat (first | (with_reducible exact Below.refl _ _) | (with_reducible assumption) | refine Below.setCell ?_ (by simp <;> omega) _ | refine Below.alloc ?_ (by simp <;> omega) _ | refine Below.drew ?_)
  | 3,_=>
   go_wp2_with fail
   refine (Tryz.strings_HasPrefix ⟨t.toArray⟩ ⟨#[33,61]⟩ _).mono ?_;rintro e w1 ⟨rfl,rfl⟩
   have hpk:Lib.hasPrefix (ByteArray.mk t.toArray).data.toList (ByteArray.mk #[33,61]).data.toList=Lib.hasPrefix t [33,61]:=rfl
   rw [hpk]
   cases hq:Lib.hasPrefix t [33,61]
   ·go_wp2_with fail
    go_round
    case rel=> exact ⟨3+1,by omega,by go_num,by rw [show pairs.take (3+1)=pairs.take 3 ++ [[33,61]] from rfl,List.any_append,hp];simp [hq]⟩
    case measure=> simp [intOf]
   ·go_wp2_with fail
    go_ret
    refine ⟨by rw [hr.out,if_pos (by simp [pairs,hq])];rfl,?_⟩
    repeat (first | (with_reducible exact Below.refl _ _) | (with_reducible assumption) | refine Below.setCell ?_ (by simp <;> omega) _ | refine Below.alloc ?_ (by simp <;> omega) _ | refine Below.drew ?_)
  | 4,_=>
   go_wp2_with fail
   refine (Tryz.strings_HasPrefix ⟨t.toArray⟩ ⟨#[60,61]⟩ _).mono ?_;rintro e w1 ⟨rfl,rfl⟩
   have hpk:Lib.hasPrefix (ByteArray.mk t.toArray).data.toList (ByteArray.mk #[60,61]).data.toList=Lib.hasPrefix t [60,61]:=rfl
   rw [hpk]
   cases hq:Lib.hasPrefix t [60,61]
   ·go_wp2_with fail
    go_round
    case rel=> exact ⟨4+1,by omega,by go_num,by rw [show pairs.take (4+1)=pairs.take 4 ++ [[60,61]] from rfl,List.any_append,hp];simp [hq]⟩
    case measure=> simp [intOf]
   ·go_wp2_with fail
    go_ret
    refine ⟨by rw [hr.out,if_pos (by simp [pairs,hq])];rfl,?_⟩
    repeat (first | (with_reducible exact Below.refl _ _) | (with_reducible assumption) | refine Below.setCell ?_ (by simp <;> omega) _ | refine Below.alloc ?_ (by simp <;> omega) _ | refine Below.drew ?_)
  | 5,_=>
   go_wp2_with fail
   refine (Tryz.strings_HasPrefix ⟨t.toArray⟩ ⟨#[43,43]⟩ _).mono ?_;rintro e w1 ⟨rfl,rfl⟩
   have hpk:Lib.hasPrefix (ByteArray.mk t.toArray).data.toList (ByteArray.mk #[43,43]).data.toList=Lib.hasPrefix t [43,43]:=rfl
   rw [hpk]
   cases hq:Lib.hasPrefix t [43,43]
   ·go_wp2_with fail
    go_round
    case rel=> exact ⟨5+1,by omega,by go_num,by rw [show pairs.take (5+1)=pairs.take 5 ++ [[43,43]] from rfl,List.any_append,hp];simp [hq]⟩
    case measure=> simp [intOf]
   ·go_wp2_with fail
    go_ret
    refine ⟨by rw [hr.out,if_pos (by simp [pairs,hq])];rfl,?_⟩
    repeat (first | (with_reducible exact Below.refl _ _) | (with_reducible assumption) | refine Below.setCell ?_ (by simp <;> omega) _ | refine Below.alloc ?_ (by simp <;> omega) _ | refine Below.drew ?_)
  | 6,_=>
   have hp':pairs.any (Lib.hasPrefix t)=false:=hp
   rw [if_neg (by rw [hp'];simp)]at hr
   have hm:=index_mem c signB
   go_wp2_with fail
   refine (Tryz.strings_IndexByte ⟨#[123,125,40,41,91,93,59,44,46,61,60,43,45,42,47,37,33]⟩ (c.toNat:Int) _).mono ?_;rintro e w1 ⟨rfl,rfl⟩
   have hpk:Lib.indexByte (ByteArray.mk #[123,125,40,41,91,93,59,44,46,61,60,43,45,42,47,37,33]).data.toList (c.toNat:Int).toNat.toUInt8=Lib.indexByte signB c:=by
    rw [show (c.toNat:Int).toNat.toUInt8=c from by simp];rfl
   rw [hpk]
   rw [← hm]at hr
   clear hm
   generalize Lib.indexByte signB c=x at *
   cases hq:decide (0≤x)
   ·rw [hq]at hr
    go_wp2_with fail
    go_ret
    refine ⟨by rw [hr.out];rfl,?_⟩
    repeat (first | (with_reducible exact Below.refl _ _) | (with_reducible assumption) | refine Below.setCell ?_ (by simp <;> omega) _ | refine Below.alloc ?_ (by simp <;> omega) _ | refine Below.drew ?_)
   ·rw [hq]at hr
    go_wp2_with fail
    go_ret
    refine ⟨by rw [hr.out];rfl,?_⟩
    repeat (first | (with_reducible exact Below.refl _ _) | (with_reducible assumption) | refine Below.setCell ?_ (by simp <;> omega) _ | refine Below.alloc ?_ (by simp <;> omega) _ | refine Below.drew ?_)
  | k+7,h=> exact absurd h (by omega)
end Go.Proofs.YtnbmpfdffoidaaaGreatDoor.X
namespace Go.Proofs.YtnbmpfdffoidaaaGreatDoor.V
open Go.RowKit O
theorem int_any (n:Int)(w:World):Calls Tryz.prog 52 #[.int .i64 n] w fun e w'=> e= .returned (vv ⟨1,n,[]⟩)∧Below w.heap.size w w':=by
 go_enter Tryz.func52,Tryz.ntmps52
 go_wp2_with fail
 refine bodyPost_ret (v:=vv ⟨1,n,[]⟩) (by simp [results,Tryz.results52,go_sem,vv]) rfl ?_
 refine ⟨rfl,?_⟩
 repeat (first | (with_reducible exact Below.refl _ _) | (with_reducible assumption) | refine Below.setCell ?_ (by simp <;> omega) _ | refine Below.alloc ?_ (by simp <;> omega) _ | refine Below.drew ?_)
theorem bool_any (b:Bool)(w:World):Calls Tryz.prog 110 #[.bool b] w fun e w'=> e= .returned (vv ⟨2,if b then 1 else 0,[]⟩)∧Below w.heap.size w w':=by
 cases b
 ·go_enter Tryz.func110,Tryz.ntmps110
  go_wp2_with fail
  refine bodyPost_ret (v:=vv ⟨2,0,[]⟩) (by simp [results,Tryz.results110,go_sem,vv]) rfl ?_
  refine ⟨rfl,?_⟩
  repeat (first | (with_reducible exact Below.refl _ _) | (with_reducible assumption) | refine Below.setCell ?_ (by simp <;> omega) _ | refine Below.alloc ?_ (by simp <;> omega) _ | refine Below.drew ?_)
 ·go_enter Tryz.func110,Tryz.ntmps110
  go_wp2_with fail
  refine bodyPost_ret (v:=vv ⟨2,1,[]⟩) (by simp [results,Tryz.results110,go_sem,vv]) rfl ?_
  refine ⟨rfl,?_⟩
  repeat (first | (with_reducible exact Below.refl _ _) | (with_reducible assumption) | refine Below.setCell ?_ (by simp <;> omega) _ | refine Below.alloc ?_ (by simp <;> omega) _ | refine Below.drew ?_)
theorem right3 {v:Val}(h1: ¬v.k=1)(h2: ¬v.k=2):right v=(v.k==3 && (v.n==0 && plainL v.s)):=by
 unfold right
 rw [if_neg h1,if_neg h2]
 by_cases h:v.k=3 <;> simp [h]
theorem rright_any (v:Val)(w:World)(hs:v.s.length≤1000000000000):Calls Tryz.prog 150 #[vv v] w fun e w'=> e= .returned (.bool (right v))∧Below w.heap.size w w':=by
 obtain ⟨k,n,s⟩:=v
 simp only [vv]
 have hsz:(ByteArray.mk s.toArray).size=s.length:=by simp [ByteArray.size]
 by_cases h1:k=1
 ·subst h1
  go_enter Tryz.func150,Tryz.ntmps150
  go_wp2_with fail
  go_ret
  exact ⟨by simp [right],(Below.refl _ _).alloc (Nat.le_refl _) _⟩
 ·by_cases h2:k=2
  ·subst h2
   cases he:s.isEmpty
   ·go_enter Tryz.func150,Tryz.ntmps150
    go_wp2_with fail
    go_ret
    exact ⟨by simp [right,he],(Below.refl _ _).alloc (Nat.le_refl _) _⟩
   ·by_cases h0:0≤n
    ·have e:Hid (decide (n≤1)=(n==0 || n==1)):=Lib.hid (by rw [Bool.eq_iff_iff];simp;omega)
     go_enter Tryz.func150,Tryz.ntmps150
     go_wp2_with fail
     go_ret
     exact ⟨by simp [right,he,e.out],(Below.refl _ _).alloc (Nat.le_refl _) _⟩
    ·go_enter Tryz.func150,Tryz.ntmps150
     go_wp2_with fail
     go_ret
     exact ⟨by simp [right,he];omega,(Below.refl _ _).alloc (Nat.le_refl _) _⟩
  ·have hR:=Lib.hid (right3 (v:=⟨k,n,s⟩) h1 h2)
   go_enter Tryz.func150,Tryz.ntmps150
   go_wp2_with fail
   go_loop [2,3] (fun _ i=> ∃k:Nat,k≤s.length∧i= .int .i64 k∧Hid ((s.take k).all okC=true)) (fun _ i=> s.length - (intOf i).toNat)
   case atStart=> exact ⟨0,by omega,rfl,Lib.hid (by simp)⟩
   case round=>
    obtain ⟨j,hk,rfl,H⟩:=hrel
    by_cases hlt:j < s.length
    ·have hn:=Lib.hid (all_step hlt H.out)
     have hno:=Lib.hid (all_no hlt)
     generalize hc:s[j]=c at hn hno
     have hx:=ba_at s j hlt hc
     cases ho:okC c
     ·rcases okC_no ho with h1 | ⟨h1,h2⟩
      all_goals
       go_wp2_with fail
       go_ret
       exact ⟨by rw [hR.out];simp [hno.out ho],(Below.refl _ _).alloc (Nat.le_refl _) _⟩
     ·obtain ⟨h1,h2⟩:=okC_yes ho
      go_wp2_with fail
      go_round
      case rel=> exact ⟨j+1,by omega,by go_num,Lib.hid (by rw [hn.out,ho])⟩
      case measure=> simp [intOf];omega
    ·obtain rfl:j=s.length:=by omega
     have he:=Lib.hid (all_end H.out)
     by_cases h3:k=3
     ·subst h3
      by_cases h0:n=0
      ·subst h0
       go_wp2_with fail
       go_ret
       exact ⟨by rw [hR.out,he.out];simp,(Below.refl _ _).alloc (Nat.le_refl _) _⟩
      ·go_wp2_with fail
       go_ret
       exact ⟨by rw [hR.out];simp [h0],(Below.refl _ _).alloc (Nat.le_refl _) _⟩
     ·go_wp2_with fail
      go_ret
      exact ⟨by rw [hR.out];simp [h3],(Below.refl _ _).alloc (Nat.le_refl _) _⟩
end Go.Proofs.YtnbmpfdffoidaaaGreatDoor.V
namespace Go.Proofs
open Go.Shelf
def Tryz.lays169_ren:Go.Shelf.Ren:=⟨fun | 169=> 58 | n=> n,fun | 70=> 111 | 9=> 9 | 0=> 0 | 72=> 114 | 37=> 112 | 127=> 154 | 3=> 3 | 5=> 5 | n=> n,fun | n=> n⟩
theorem Tryz.lays169:Go.Proofs.Lays.n169 Tryz.prog Tryz.lays169_ren:= {
 mixed:=by kernel_rfl
 f169:=Tryz.func58.trans (congrArg some (by kernel_rfl))
 t0:=Tryz.underlying0
 a0:=Tryz.isAgg0
 z0:=Tryz.sizeOf0
 v0:=Tryz.zeroValue0
 t3:=Tryz.underlying3
 a3:=Tryz.isAgg3
 z3:=Tryz.sizeOf3
 v3:=Tryz.zeroValue3
 t9:=Tryz.underlying9
 a9:=Tryz.isAgg9
 z9:=Tryz.sizeOf9
 v9:=Tryz.zeroValue9
 t37:=Tryz.underlying112
 a37:=Tryz.isAgg112
 z37:=Tryz.sizeOf112
 v37:=Tryz.zeroValue112
 t70:=Tryz.underlying111
 a70:=Tryz.isAgg111
 z70:=Tryz.sizeOf111
 v70:=Tryz.zeroValue111
 t72:=Tryz.underlying114
 a72:=Tryz.isAgg114
 z72:=Tryz.sizeOf114
 v72:=Tryz.zeroValue114
 t127:=Tryz.underlying154
 a127:=Tryz.isAgg154
 z127:=Tryz.sizeOf154
 v127:=Tryz.zeroValue154 }
theorem Tryz.Builder_Extra_169:Builder.Extra Tryz.prog Tryz.lays169_ren:= {
 sizeBuilder:=by kernel_rfl
 liesBuilder:=by kernel_rfl
 t5:=Tryz.underlying5
 a5:=Tryz.isAgg5
 z5:=Tryz.sizeOf5
 v5:=Tryz.zeroValue5
 infoByte:=by kernel_rfl
 cellsByte:=by kernel_rfl
 sizeByte:=by kernel_rfl
 neB5:=by decide }
open Go.RowKit in
theorem Tryz.Builder_String_any (B b:Nat)(l:List UInt8)(w:World)(h:Lib.IsBuilder 114 5 B b (Lib.byteCells l) w)(hBw:B≤w.heap.size):
  Calls Tryz.prog 58 #[.pointer (some ⟨b,0,none⟩)] w fun e w'=> e= .returned (.string ⟨l.toArray⟩)∧Below B w w':=Any.Builder_String_any Tryz.lays169 Tryz.Builder_Extra_169 B b l w h hBw
def Tryz.lays156_ren:Go.Shelf.Ren:=⟨fun | 156=> 23 | 165=> 56 | 166=> 57 | 169=> 58 | 240=> 115 | 241=> 116 | 276=> 148 | 277=> 149 | n=> n,fun | 31=> 62 | 9=> 9 | 3=> 3 | 4=> 4 | 0=> 0 | 20=> 20 | 72=> 114 | 76=> 117 | 70=> 111 | 37=> 112 | 75=> 116 | 127=> 154 | 164=> 175 | 5=> 5 | 80=> 83 | n=> n,fun | n=> n⟩
theorem Tryz.lays156:Go.Proofs.Lays.n156 Tryz.prog Tryz.lays156_ren:= {
 mixed:=by kernel_rfl
 f156:=Tryz.func23.trans (congrArg some (by kernel_rfl))
 f165:=Tryz.func56.trans (congrArg some (by kernel_rfl))
 f166:=Tryz.func57.trans (congrArg some (by kernel_rfl))
 f169:=Tryz.func58.trans (congrArg some (by kernel_rfl))
 f240:=Tryz.func115.trans (congrArg some (by kernel_rfl))
 f241:=Tryz.func116.trans (congrArg some (by kernel_rfl))
 f276:=Tryz.func148.trans (congrArg some (by kernel_rfl))
 f277:=Tryz.func149.trans (congrArg some (by kernel_rfl))
 t0:=Tryz.underlying0
 a0:=Tryz.isAgg0
 z0:=Tryz.sizeOf0
 v0:=Tryz.zeroValue0
 t3:=Tryz.underlying3
 a3:=Tryz.isAgg3
 z3:=Tryz.sizeOf3
 v3:=Tryz.zeroValue3
 t4:=Tryz.underlying4
 a4:=Tryz.isAgg4
 z4:=Tryz.sizeOf4
 v4:=Tryz.zeroValue4
 t9:=Tryz.underlying9
 a9:=Tryz.isAgg9
 z9:=Tryz.sizeOf9
 v9:=Tryz.zeroValue9
 t20:=Tryz.underlying20
 a20:=Tryz.isAgg20
 z20:=Tryz.sizeOf20
 v20:=Tryz.zeroValue20
 t31:=Tryz.underlying62
 a31:=Tryz.isAgg62
 z31:=Tryz.sizeOf62
 v31:=Tryz.zeroValue62
 t37:=Tryz.underlying112
 a37:=Tryz.isAgg112
 z37:=Tryz.sizeOf112
 v37:=Tryz.zeroValue112
 t70:=Tryz.underlying111
 a70:=Tryz.isAgg111
 z70:=Tryz.sizeOf111
 v70:=Tryz.zeroValue111
 t72:=Tryz.underlying114
 a72:=Tryz.isAgg114
 z72:=Tryz.sizeOf114
 v72:=Tryz.zeroValue114
 t75:=Tryz.underlying116
 a75:=Tryz.isAgg116
 z75:=Tryz.sizeOf116
 v75:=Tryz.zeroValue116
 t76:=Tryz.underlying117
 a76:=Tryz.isAgg117
 z76:=Tryz.sizeOf117
 v76:=Tryz.zeroValue117
 t127:=Tryz.underlying154
 a127:=Tryz.isAgg154
 z127:=Tryz.sizeOf154
 v127:=Tryz.zeroValue154
 t164:=Tryz.underlying175
 a164:=Tryz.isAgg175
 z164:=Tryz.sizeOf175
 v164:=Tryz.zeroValue175 }
theorem Tryz.Builder_Extra_156:Builder.Extra Tryz.prog Tryz.lays156_ren:= {
 sizeBuilder:=by kernel_rfl
 liesBuilder:=by kernel_rfl
 t5:=Tryz.underlying5
 a5:=Tryz.isAgg5
 z5:=Tryz.sizeOf5
 v5:=Tryz.zeroValue5
 infoByte:=by kernel_rfl
 cellsByte:=by kernel_rfl
 sizeByte:=by kernel_rfl
 neB5:=by decide }
open Go.RowKit in
theorem Tryz.strings_Join_none (a:Option Addr)(c:Nat)(sep:ByteArray)(w:World):
  Calls Tryz.prog 23 #[.slice a 0 c,.string sep] w fun e w'=> e= .returned (.string ⟨#[]⟩)∧w'=w:=Any.strings_Join_none Tryz.lays156 Tryz.Builder_Extra_156 a c sep w
open Go.RowKit in
theorem Tryz.strings_Join (bk o c:Nat)(xs:List ByteArray)(sep:ByteArray)(w:World)(hcells: ∀(j:Nat) x,xs[j]? =some x→w.cell? ⟨bk,o+j,none⟩=some (.string x))(hbk:bk < w.heap.size)(hN:xs.length≤140737488355328)(hcap:xs.length≤c)(hlen:(Lib.join (xs.map (·.data.toList)) sep.data.toList).length≤140737488355328):
  Calls Tryz.prog 23 #[.slice (some ⟨bk,o,none⟩) xs.length c,.string sep] w fun e w'=> e= .returned (.string ⟨(Lib.join (xs.map (·.data.toList)) sep.data.toList).toArray⟩)∧Below w.heap.size w w':=Any.strings_Join Tryz.lays156 Tryz.Builder_Extra_156 bk o c xs sep w hcells hbk hN hcap hlen
end Go.Proofs
