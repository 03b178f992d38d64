/- Texts of the proof, joined: OctPlain, OctPlain2, ValPlain, SchPlain, ValPlain2, SynPlain, Base, Bytes, Laws, Open, Reps, Laws2, SynMem, SynLaw, SynComp, SynComp2, SynSound, LexPlain. -/
import Derived.Lib.BitFns
import Derived.Test.YtnbmpfdffoidaaaGreatDoorRows
import Derived.WalkKit
import Derived.WalkSpells
import Derived.WalkLawsBesides
import Derived.Below
import Derived.Lib.Hide
import Derived.Deep.Draws
import Derived.Laws.OwnMore
import Derived.Deep.AppendLies
import Derived.Laws.CopyOwn
import Derived.Maps.AppendAt
import Derived.OwnWalk
import Derived.Laws.BitsAllLaws
import Derived.Laws.BitsLemmas
import Derived.Lib.AppendStr
import Derived.Laws.MakeOwn
import Derived.Laws.IdiomStrings
import Derived.Laws.BytesString
import Derived.ProofKit
import Derived.OpenShut
import Derived.Deep.Slices
import Derived.Deep.Fields
import Derived.ChangeSame
set_option linter.unusedVariables false
set_option linter.unusedSimpArgs false
set_option maxHeartbeats 8000000
set_option maxRecDepth 100000
namespace Go.Proofs.YtnbmpfdffoidaaaGreatDoor.O
open Go
end Go.Proofs.YtnbmpfdffoidaaaGreatDoor.O
namespace Go.Proofs.YtnbmpfdffoidaaaGreatDoor.O
open Go
end Go.Proofs.YtnbmpfdffoidaaaGreatDoor.O
namespace Go.Proofs.YtnbmpfdffoidaaaGreatDoor.V
open Go O
structure Val where
 k:Int
 n:Int
 s:List UInt8
theorem Val.same {a b:Val}(h1:a.k=b.k)(h2:a.n=b.n)(h3:a.s=b.s):a=b:=by cases a;cases b;simp_all
def okC (c:UInt8):Bool:=decide (32≤c.toNat) && decide (c.toNat≤126)
def plainL (s:List UInt8):Bool:=s.all okC && decide (s.length≤32)
def right (v:Val):Bool:=if v.k=1 then v.s.isEmpty else if v.k=2 then v.s.isEmpty && (v.n==0 || v.n==1)else if v.k=3 then v.n==0 && plainL v.s else false
theorem right_cases {v:Val}(h:right v=true):(v.k=1∧v.s=[])∨(v.k=2∧v.s=[]∧(v.n=0∨v.n=1))∨(v.k=3∧v.n=0∧plainL v.s=true):=by
 unfold right at h
 split at h
 ·exact .inl ⟨by assumption,by simpa using h⟩
 ·split at h
  ·simp at h;exact .inr (.inl ⟨by assumption,h⟩)
  ·split at h
   ·simp at h;exact .inr (.inr ⟨by assumption,h⟩)
   ·cases h
theorem plain_len {s:List UInt8}(h:plainL s=true):s.length≤32:=by unfold plainL at h;simp at h;exact h.2
end Go.Proofs.YtnbmpfdffoidaaaGreatDoor.V
namespace Go.Proofs.YtnbmpfdffoidaaaGreatDoor.S
open Go O V
def words:List (List UInt8):=[[116,97,98,108,101],[114,111,119,115],[112,114,111,99],[108,101,116],[105,102],[101,108,115,101],[108,111,111,112],[101,97,99,104],[105,110],[102,114,111,109],[116,111],[109,97,120],[114,111,108,108,98,97,99,107],[101,109,105,116],[100,101,108],[104,97,115],[115,117,109],[99,111,117,110,116],[105,110,116],[98,111,111,108],[116,101,120,116],[116,114,117,101],[102,97,108,115,101]]
def isWordL (s:List UInt8):Bool:=words.any fun w=> s==w
def smallC (c:UInt8):Bool:=decide (97≤c.toNat) && decide (c.toNat≤122)
def otherC (c:UInt8):Bool:=decide (c.toNat=95) || (decide (48≤c.toNat) && decide (c.toNat≤57))
def restC (c:UInt8):Bool:=smallC c || otherC c
def goodL:List UInt8→Bool
 | []=> true
 | c::r=> smallC c && r.all restC
def isNameL (s:List UInt8):Bool:=goodL s && (decide (1≤s.length) && decide (s.length≤16)) && !isWordL s
theorem goodL_snoc: ∀(l:List UInt8) (c:UInt8),goodL (l ++ [c])=(goodL l && if l.length=0 then smallC c else restC c)
 | [],c=> by simp [goodL]
 | d::l,c=> by simp [goodL,Bool.and_assoc]
theorem goodL_append: ∀(l m:List UInt8),goodL (l ++m)=true→goodL l=true
 | [],_,_=> rfl
 | d::l,m,h=> by simp [goodL]at h⊢;exact ⟨h.1,h.2.1⟩
theorem good_step {s:List UInt8}{k:Nat}(h:k < s.length)(hg:goodL (s.take k)=true):goodL (s.take (k+1))=if k=0 then smallC s[k]else restC s[k]:=by
 rw [List.take_succ_eq_append_getElem h,goodL_snoc,hg,List.length_take,Nat.min_eq_left (Nat.le_of_lt h)]
 simp
theorem good_no {s:List UInt8}{k:Nat}(h:goodL (s.take k)=false):goodL s=false:=by
 cases hs:goodL s
 ·rfl
 ·rw [← List.take_append_drop k s]at hs
  rw [goodL_append _ _ hs]at h
  cases h
theorem isNameL_no {s:List UInt8}{k:Nat}(h:goodL (s.take k)=false):isNameL s=false:=by rw [isNameL,good_no h];rfl
end Go.Proofs.YtnbmpfdffoidaaaGreatDoor.S
namespace Go.Proofs.YtnbmpfdffoidaaaGreatDoor.V
open Go O
def digN (n:Nat):List UInt8:=if n < 10 then [UInt8.ofNat (48+n)]else digN (n / 10) ++ [UInt8.ofNat (48+n % 10)]
termination_by n
decreasing_by omega
theorem digN_lt {n:Nat}(h:n < 10):digN n=[UInt8.ofNat (48+n)]:=by rw [digN,if_pos h]
theorem digN_ge {n:Nat}(h:10≤n):digN n=digN (n / 10) ++ [UInt8.ofNat (48+n % 10)]:=by rw [digN,if_neg (by omega)]
theorem digN_len: ∀(f n:Nat),n < 10 ^ (f+1)→(digN n).length≤f+1
 | 0,n,h=> by rw [digN_lt (by simpa using h)];simp
 | f+1,n,h=> by
  by_cases g:n < 10
  ·rw [digN_lt g];simp
  ·rw [digN_ge (by omega)]
   have:=digN_len f (n / 10) (by rw [Nat.pow_succ]at h;omega)
   simp;omega
theorem digN_len20 (n:Nat)(h:n < 18446744073709551616):(digN n).length≤20:=digN_len 19 n (by omega)
def decL (n:Int):List UInt8:=if n < 0 then 45::digN n.natAbs else digN n.natAbs
def esc (c:UInt8):List UInt8:=if c.toNat=34∨c.toNat=92 then [92,c]else [c]
def escL (s:List UInt8):List UInt8:=s.flatMap esc
theorem escL_snoc (s:List UInt8)(c:UInt8):escL (s ++ [c])=escL s ++esc c:=by simp [escL]
theorem escL_len (s:List UInt8):(escL s).length≤2 * s.length:=by
 induction s with
 | nil=> simp [escL]
 | cons c s ih=>
  have:(esc c).length≤2:=by unfold esc;split <;> simp
  have e:escL (c::s)=esc c ++escL s:=by simp [escL]
  rw [e];simp;omega
def quoteL (s:List UInt8):List UInt8:=34::escL s ++ [34]
def printV (v:Val):List UInt8:=if right v then (if v.k=1 then decL v.n else if v.k=2 then (if v.n=1 then [116,114,117,101]else [102,97,108,115,101])else quoteL v.s)else []
end Go.Proofs.YtnbmpfdffoidaaaGreatDoor.V
namespace Go.Proofs.YtnbmpfdffoidaaaGreatDoor.Y
open O V S
abbrev Tok:=Int × List UInt8 × Val
inductive Ex where
 | val (v:Val)
 | var (name:List UInt8)
 | cell (name col:List UInt8) (k:Ex)
 | has (name:List UInt8) (k:Ex)
 | sum (name col:List UInt8) (a b:Ex)
 | cnt (name:List UInt8) (a b:Ex)
 | un (op:Nat) (a:Ex)
 | bin (op:Nat) (a b:Ex)
mutual
inductive St where
 | let_ (name:List UInt8) (e:Ex)
 | set (name:List UInt8) (e:Ex)
 | put (table col:List UInt8) (k e:Ex)
 | del (table:List UInt8) (k:Ex)
 | if_ (e:Ex) (body els:Sts)
 | loop (n:Int) (name:List UInt8) (body:Sts)
 | each (name table:List UInt8) (lo hi:Ex) (n:Int) (body:Sts)
 | roll
 | emit (e:Ex)
inductive Sts where
 | nil
 | cons (s:St) (r:Sts)
end
structure Cl where
 name:List UInt8
 k:Int
 m:Int
structure Tb where
 name:List UInt8
 rows:Int
 cols:List Cl
structure Pc where
 name:List UInt8
 params:List Cl
 body:Sts
structure Wk where
 tables:List Tb
 procs:List Pc
def w_true:List UInt8:=[116,114,117,101]
def w_false:List UInt8:=[102,97,108,115,101]
def w_let:List UInt8:=[108,101,116]
def w_del:List UInt8:=[100,101,108]
def w_if:List UInt8:=[105,102]
def w_else:List UInt8:=[101,108,115,101]
def w_loop:List UInt8:=[108,111,111,112]
def w_each:List UInt8:=[101,97,99,104]
def w_rollback:List UInt8:=[114,111,108,108,98,97,99,107]
def w_emit:List UInt8:=[101,109,105,116]
def w_in:List UInt8:=[105,110]
def w_from:List UInt8:=[102,114,111,109]
def w_to:List UInt8:=[116,111]
def w_max:List UInt8:=[109,97,120]
def w_has:List UInt8:=[104,97,115]
def w_sum:List UInt8:=[115,117,109]
def w_count:List UInt8:=[99,111,117,110,116]
def w_table:List UInt8:=[116,97,98,108,101]
def w_proc:List UInt8:=[112,114,111,99]
def w_rows:List UInt8:=[114,111,119,115]
def w_int:List UInt8:=[105,110,116]
def w_bool:List UInt8:=[98,111,111,108]
def w_text:List UInt8:=[116,101,120,116]
def zv:Val:=⟨0,0,[]⟩
def binS (s:List UInt8):Nat × Nat:=
 if s=[124,124]then (1,1)else if s=[38,38]then (2,2)else if s=[61,61]then (3,3)else if s=[33,61]then (4,3)else if s=[60]then (5,3)else if s=[60,61]then (6,3)else if s=[43]then (7,4)else if s=[45]then (8,4)else if s=[43,43]then (9,4)else if s=[42]then (10,5)else if s=[47]then (11,5)else if s=[37]then (12,5)else (0,0)
def signS:Nat→List UInt8
 | 1=> [124,124]
 | 2=> [38,38]
 | 3=> [61,61]
 | 4=> [33,61]
 | 5=> [60]
 | 6=> [60,61]
 | 7=> [43]
 | 8=> [45]
 | 9=> [43,43]
 | 10=> [42]
 | 11=> [47]
 | 12=> [37]
 | _=> []
def lvlS:Nat→Nat
 | 1=> 1
 | 2=> 2
 | 3=> 3
 | 4=> 3
 | 5=> 3
 | 6=> 3
 | 7=> 4
 | 8=> 4
 | 9=> 4
 | 10=> 5
 | 11=> 5
 | 12=> 5
 | _=> 0
def isT (l:List Tok)(s:List UInt8):Bool:=match l with
 | []=> false
 | t::_=> decide (t.2.1=s) && decide (t.1≠3)
def pLit (l:List Tok):Option Val:=match l with
 | []=> none
 | t::_=> if t.1=1∧t.2.1=w_true then some ⟨2,1,[]⟩else if t.1=1∧t.2.1=w_false then some ⟨2,0,[]⟩else if t.1=2∨t.1=3 then some t.2.2 else none
def Sts.snoc:Sts→St→Sts
 | .nil,s=> .cons s .nil
 | .cons a r,s=> .cons a (r.snoc s)
def Sts.len:Sts→Nat
 | .nil=> 0
 | .cons _ r=> r.len+1
def tw (s:List UInt8):Tok:=(1,s,zv)
def tg (s:List UInt8):Tok:=(4,s,zv)
def tn (n:Int):Tok:=(2,decL n,⟨1,n,[]⟩)
def tv (v:Val):Tok:=if v.k=1 then tn v.n else if v.k=2 then tw (if v.n=1 then w_true else w_false)else (3,quoteL v.s,v)
def lvlX:Ex→Nat
 | .bin op _ _=> lvlS op
 | .un _ _=> 6
 | _=> 7
def br (x:Ex)(least:Nat)(t:List Tok):List Tok:=if lvlX x < least then tg [40]::(t ++ [tg [41]])else t
def toks0:Ex→List Tok
 | .val v=> [tv v]
 | .var n=> [tw n]
 | .cell n c k=> tw n::tg [91]::(toks0 k ++ [tg [93],tg [46],tw c])
 | .has n k=> tw w_has::tg [40]::tw n::tg [44]::(toks0 k ++ [tg [41]])
 | .sum n c a b=> tw w_sum::tg [40]::tw n::tg [46]::tw c::tg [44]::(toks0 a ++tg [44]::(toks0 b ++ [tg [41]]))
 | .cnt n a b=> tw w_count::tg [40]::tw n::tg [44]::(toks0 a ++tg [44]::(toks0 b ++ [tg [41]]))
 | .un op a=> tg (if op=13 then [33]else [45])::br a 6 (toks0 a)
 | .bin op a b=> br a (lvlS op) (toks0 a) ++tg (signS op)::br b (lvlS op+1) (toks0 b)
def toksX (x:Ex)(least:Nat):List Tok:=br x least (toks0 x)
def toksT (k m:Int):List Tok:=if k=1 then [tw w_int]else if k=2 then [tw w_bool]else [tw w_text,tn m]
def elsT:Sts→List Tok→List Tok
 | .nil,_=> []
 | _,t=> tw w_else::tg [123]::(t ++ [tg [125]])
mutual
def toksS:St→List Tok
 | .let_ n e=> tw w_let::tw n::tg [61]::(toks0 e ++ [tg [59]])
 | .set n e=> tw n::tg [61]::(toks0 e ++ [tg [59]])
 | .put t c k e=> tw t::tg [91]::(toks0 k ++tg [93]::tg [46]::tw c::tg [61]::(toks0 e ++ [tg [59]]))
 | .del t k=> tw w_del::tw t::tg [91]::(toks0 k ++ [tg [93],tg [59]])
 | .if_ e b els=> tw w_if::(toks0 e ++(tg [123]::(toksB b ++ [tg [125]]) ++elsT els (toksB els)))
 | .loop k n b=> tw w_loop::tn k::tw n::tg [123]::(toksB b ++ [tg [125]])
 | .each n t lo hi k b=> tw w_each::tw n::tw w_in::tw t::tw w_from::(toks0 lo ++tw w_to::(toks0 hi ++tw w_max::tn k::tg [123]::(toksB b ++ [tg [125]])))
 | .roll=> [tw w_rollback,tg [59]]
 | .emit e=> tw w_emit::(toks0 e ++ [tg [59]])
def toksB:Sts→List Tok
 | .nil=> []
 | .cons s r=> toksS s ++toksB r
end
def toksC (c:Cl):List Tok:=tw c.name::toksT c.k c.m
def toksTb (t:Tb):List Tok:=tw w_table::tw t.name::tw w_rows::tn t.rows::tg [123]::(t.cols.flatMap (fun c=> toksC c ++ [tg [59]]) ++ [tg [125]])
def toksPs:List Cl→List Tok
 | []=> []
 | c::r=> toksC c ++r.flatMap fun c=> tg [44]::toksC c
def toksP (p:Pc):List Tok:=tw w_proc::tw p.name::tg [40]::(toksPs p.params ++tg [41]::tg [123]::(toksB p.body ++ [tg [125]]))
def toksW (w:Wk):List Tok:=w.tables.flatMap toksTb ++w.procs.flatMap toksP
end Go.Proofs.YtnbmpfdffoidaaaGreatDoor.Y
namespace Go.Proofs.YtnbmpfdffoidaaaGreatDoor
open Go.RowKit
theorem bthen {a b c:World}(h:Below a.heap.size a b)(k:Below b.heap.size b c):Below a.heap.size a c:=h.trans (k.mono h.size)
theorem ret_int {k:IntKind}{a b:Int}(h:a=b):Ending.returned (.int k a)= .returned (.int k b):=by rw [h]
theorem ret_bool {a b:Bool}(h:a=b):Ending.returned (.bool a)= .returned (.bool b):=by rw [h]
end Go.Proofs.YtnbmpfdffoidaaaGreatDoor
namespace Go.Proofs.YtnbmpfdffoidaaaGreatDoor
open Go.RowKit
def bv (l:List UInt8):List Value:=l.map fun c=> .int .u8 (c.toNat:Int)
@[simp] theorem bv_length (l:List UInt8):(bv l).length=l.length:=by simp [bv]
theorem bv_get (l:List UInt8)(j:Nat)(h:j < l.length):(bv l)[j]? =some (.int .u8 ((l[j]).toNat:Int)):=by simp [bv,h]
def Rd (w:World)(B size:Nat)(A:Option Addr)(n:Nat)(xs:List Value):Prop:=
 xs.length=n * size∧(0 < xs.length→∃b off,A=some ⟨b,off,none⟩∧b < B∧∀j,j < xs.length→w.cell? ⟨b,off+j,none⟩=xs[j]?)
section
variable {w w':World} {B B' size n:Nat} {A:Option Addr} {xs:List Value}
theorem Rd.keep (h:Rd w B size A n xs)(hk: ∀p:Addr,p.block < B→w'.cell? p=w.cell? p):Rd w' B size A n xs:=
 ⟨h.1,fun hn=> by
  obtain ⟨b,off,e,hb,hc⟩:=h.2 hn
  exact ⟨b,off,e,hb,fun j hj=> (hk _ hb).trans (hc j hj)⟩⟩
theorem Rd.more (h:Rd w B size A n xs)(hB:B≤B'):Rd w B' size A n xs:=
 ⟨h.1,fun hn=> by
  obtain ⟨b,off,e,hb,hc⟩:=h.2 hn
  exact ⟨b,off,e,Nat.lt_of_lt_of_le hb hB,hc⟩⟩
theorem Rd.alloc (h:Rd w B size A n xs)(hB:B≤w.heap.size)(o:Obj):Rd (w.alloc o) B size A n xs:=h.keep fun p hp=> World.cell?_alloc_lt w o p (by omega)
theorem Rd.of_own {base:Nat}{e:TypeId}{c:Nat}(h:w.ownsRow base e size (.slice A n c) n xs):Rd w w.heap.size size A n xs:=by
 refine ⟨h.1,fun hn=> ?_⟩
 have hn0:0 < n:=by
  rcases Nat.eq_zero_or_pos n with h0 | h0
  ·have:=h.1;rw [h0]at this;omega
  ·exact h0
 obtain ⟨g,cap,hv,_,hlt⟩:=h.form hn0
 have hA:A=some ⟨g,0,none⟩:=by injection hv
 refine ⟨g,0,hA,hlt,fun j hj=> ?_⟩
 have:=h.cells (g:=g) (by rw [hv];rfl) j _ (List.getElem?_eq_getElem hj)
 rw [List.getElem?_eq_getElem hj,← this]
 by_cases h0:j=0 <;> simp [Addr.add,h0]
theorem Rd.pos (h:Rd w B 1 A n xs){k:Nat}(hk:k < n): ∃b off,A=some ⟨b,off,none⟩∧b < B∧∀j,j < n→w.cell? ⟨b,off+j,none⟩=xs[j]? :=by
 have hl:xs.length=n:=by have:=h.1;omega
 obtain ⟨b,off,e,hb,hc⟩:=h.2 (by omega)
 exact ⟨b,off,e,hb,fun j hj=> hc j (by omega)⟩
end
theorem ba_append (a b:List UInt8):(ByteArray.mk a.toArray) ++(ByteArray.mk b.toArray)=ByteArray.mk (a ++b).toArray:=by
 apply ByteArray.ext
 simp
end Go.Proofs.YtnbmpfdffoidaaaGreatDoor
namespace Go.Proofs.YtnbmpfdffoidaaaGreatDoor
open Go.RowKit Go.Lib
def Elem (P:Program)(t e:TypeId)(size bytes:Nat)(z:Value):Prop:=
 P.underlying t=some (.slice e)∧∃i,P.info? e=some i∧i.zero=some z∧i.size=size∧i.bytes=bytes∧z.cells.size=size∧0 < size
section
variable {P:Program}
theorem run_app (w:World){t e:TypeId}{size bytes:Nat}{z:Value}(hE:Elem P t e size bytes z)(ty:TypeId)(base:Nat){A:Option Addr}{n c:Nat}{xs:List Value}
  (hown:w.ownsRow base e size (.slice A n c) n xs) {B m c':Nat} {A':Option Addr} {news:List Value} (hr:Rd w B size A' m news) (h1: ∀u ∈ news,u.oneCell'=true)
  (h63:n+m≤maxLen) (hlim:(n+m) * bytes≤140737488355328) (hbase:base≤w.heap.size):
  ∃A2 c2 w',(Builtin.append_ #[t,t] ty #[.slice A n c,.slice A' m c']).run P w= .ok (.slice A2 (n+m) c2) w'∧w'.ownsRow base e size (.slice A2 (n+m) c2) (n+m) (xs ++news)∧
   w.grownBy w' (Value.slice A n c).ownBlock∧((Value.slice A2 (n+m) c2).ownBlock=(Value.slice A n c).ownBlock∨(Value.slice A2 (n+m) c2).ownBlock=some w.heap.size):=by
 obtain ⟨ht,i,hi,hz,hsize,hby,hzs,hsz⟩:=hE
 have fin: ∀ad,A'=some ad→(∀j u,news[j]? =some u→w.cell? (ad.add j)=some u)→∃A2 c2 w',(Builtin.append_ #[t,t] ty #[.slice A n c,.slice A' m c']).run P w= .ok (.slice A2 (n+m) c2) w'∧
   w'.ownsRow base e size (.slice A2 (n+m) c2) (n+m) (xs ++news)∧w.grownBy w' (Value.slice A n c).ownBlock∧((Value.slice A2 (n+m) c2).ownBlock=(Value.slice A n c).ownBlock∨(Value.slice A2 (n+m) c2).ownBlock=some w.heap.size):=by
  rintro ad rfl hc
  obtain ⟨v',w',hrun,h2,h3,h4,h5⟩:=run_append_own_at (P:=P) w base t ty e i z size bytes ht hi hz hsize hby hzs hsz _ n xs hown ad m c' news hr.1 hc h1 h63 hlim hbase
  rcases h2.2 with ⟨rfl,h0⟩ | ⟨g,cap,cur,rfl,_⟩
  ·have e0:n+m=0:=h0
   exact ⟨none,0,w',by rw [hrun,e0],by rw [e0]at h2⊢;exact h2,h3,by rw [e0];exact h5⟩
  ·exact ⟨_,_,w',hrun,h2,h3,h5⟩
 by_cases hm:0 < news.length
 ·obtain ⟨b,off,rfl,_,hc⟩:=hr.2 hm
  refine fin _ rfl fun j u hu=> ?_
  have hj:j < news.length:=by
   rcases Nat.lt_or_ge j news.length with h | h
   ·exact h
   ·rw [List.getElem?_eq_none h]at hu;cases hu
  have:=hc j hj
  rw [hu]at this
  by_cases h0:j=0
  ·subst h0;simpa [Addr.add]using this
  ·simpa [Addr.add,h0]using this
 ·have hn:news=[]:=List.eq_nil_of_length_eq_zero (by omega)
  have hm0:m=0:=by
   have:=hr.1
   rw [hn]at this
   rcases Nat.eq_zero_or_pos m with h | h
   ·exact h
   ·have:=Nat.mul_pos h hsz;simp_all
  subst hm0 hn
  rcases A' with _ | ad
  ·have hrun:(Builtin.append_ #[t,t] ty #[.slice A n c,.slice none 0 c']).run P w= .ok (.slice A n c) w:=by
    rcases hown.2 with ⟨hv,_⟩ | ⟨g,cap,cur,hv,_,_,hnc,_⟩
    ·rw [hv]
     simp [Builtin.append_,run_underlying ht,sizeOf,typeInfo,hi,Builtin.lenOf,Builtin.firstCells]
    ·rw [hv]
     simp [Builtin.append_,run_underlying ht,sizeOf,typeInfo,hi,Builtin.lenOf,Builtin.firstCells,hnc,storeCells]
   exact ⟨A,c,w,hrun,by simpa using hown,⟨rfl,rfl,rfl,Nat.le_refl _,fun _ _ _=> rfl⟩,.inl rfl⟩
  ·exact fin ad rfl (fun j u hu=> by simp at hu)
theorem wpList_app {w:World}{ops:Array Oper}{rest:List Oper}{o:Oper}{a:Act}{Q:Exit→Act→World→Prop}(hgd:o.guard=none)(s x:Operand){t e:TypeId}{size bytes:Nat}{z:Value}
  (hE:Elem P t e size bytes z) (ho:o.op= .call { callee:= .builtin .append,args:=#[s,x],argTypes:=#[t,t] })
  (base:Nat) {A:Option Addr} {n c:Nat} (xs:List Value) (hs:a.eval s= .slice A n c) (hown:w.ownsRow base e size (.slice A n c) n xs)
  {m c':Nat} {A':Option Addr} (hx:a.eval x= .slice A' m c') {B:Nat} (news:List Value) (hr:Rd w B size A' m news) (h1: ∀u ∈ news,u.oneCell'=true)
  (h63:n+m≤maxLen) (hlim:(n+m) * bytes≤140737488355328) (hbase:base≤w.heap.size)
  (h: ∀A2 c2 w',w'.ownsRow base e size (.slice A2 (n+m) c2) (n+m) (xs ++news)→w.grownBy w' (Value.slice A n c).ownBlock→((Value.slice A2 (n+m) c2).ownBlock=(Value.slice A n c).ownBlock∨(Value.slice A2 (n+m) c2).ownBlock=some w.heap.size)→
   wpList P ops Q rest (a.put o.dst (.slice A2 (n+m) c2)) w'):wpList P ops Q (o::rest) a w:=by
 obtain ⟨A2,c2,w',hrun,h2,h3,h4⟩:=run_app (P:=P) w hE o.type base hown (c':=c') hr h1 h63 hlim hbase
 refine wpList_plain hgd fun K hK=> ?_
 unfold Oper.wp execOp
 simp only [ho,resolve,invoke,builtin,Sem.run_bind,Sem.run_pure,Result.andThen_ok,List.map_toArray,List.map_cons,List.map_nil,hs,hx,hrun]
 exact hK _ _ (h A2 c2 w' h2 h3 h4)
theorem below_app {base:Nat}{w0 w w':World}{v:Value}{e:TypeId}{size n:Nat}{xs:List Value}(hb:Below base w0 w)(hown:w.ownsRow base e size v n xs)(hg:w.grownBy w' v.ownBlock)(hbase:base≤w.heap.size):Below base w0 w':=
 hb.grown hg hbase fun k hk=> (hown.lt k hk).1
theorem Rd.built (w:World)(v:Value)(e:TypeId):Rd (w.alloc (.cells #[v] e)) (w.heap.size+1) 1 (some ⟨w.heap.size,0,none⟩) 1 [v]:=by
 refine ⟨by simp,fun _=> ⟨w.heap.size,0,rfl,by omega,fun j hj=> ?_⟩⟩
 have:j=0:=by simpa using hj
 subst this
 rw [cell_of_row (w.alloc (.cells #[v] e)) w.heap.size _ #[v] e (0,0) (heap_alloc_new w _)]
 rfl
theorem run_str (w:World){src dst e:TypeId}(hs:P.underlying src=some (.slice e))(he:P.underlying e=some (.int .u8))(hd:P.underlying dst=some .string)
  {B n c:Nat} {A:Option Addr} {l:List UInt8} (h:Rd w B 1 A n (bv l)):(convert src dst (.slice A n c)).run P w= .ok (.string ⟨l.toArray⟩) w:=by
 have hl:l.length=n:=by have:=h.1;simp at this;omega
 subst hl
 rcases A with _ | ad
 ·have h0:l=[]:=by
   rcases l with _ | ⟨x,l⟩
   ·rfl
   ·obtain ⟨b,off,e1,_⟩:=h.2 (by simp);cases e1
  subst h0
  rw [List.length_nil,run_convert_bytes_string w src dst e none 0 c hs he hd]
  simp [Conv.bytesToString]
  rfl
 ·refine run_convert_bytes_back w src dst e ad c l hs he hd fun j hj=> ?_
  obtain ⟨b,off,e1,_,hc⟩:=h.2 (by simp;omega)
  injection e1 with e1
  subst e1
  have:=hc j (by simpa using hj)
  rw [bv_get l j hj]at this
  by_cases h0:j=0
  ·subst h0;simpa [Addr.add]using this
  ·simpa [Addr.add,h0]using this
theorem grown_of_below {w w':World}(h:Below w.heap.size w w')(row:Option Nat):w.grownBy w' row:=⟨h.os,h.tape,h.output,h.size,fun i hi _=> h.block i hi⟩
theorem own_below {w w':World}{base e size n:Nat}{v:Value}{xs:List Value}(h:w.ownsRow base e size v n xs)(hb:Below w.heap.size w w'):w'.ownsRow base e size v n xs:=
 h.kept (grown_of_below hb none) (by cases hv:v.ownBlock <;> simp)
end
end Go.Proofs.YtnbmpfdffoidaaaGreatDoor
namespace Go.Proofs.YtnbmpfdffoidaaaGreatDoor
open Go.ChangeShapes Go.WideShapes Go.ChangeAt Go.RowKit
end Go.Proofs.YtnbmpfdffoidaaaGreatDoor
namespace Go.Proofs.YtnbmpfdffoidaaaGreatDoor
open Go.RowKit
def Reps {α:Type}(rep:α→List Value→Prop):List α→List Value→Prop
 | [],xs=> xs=[]
 | a::l,xs=> ∃vs ys,xs=vs ++ys∧rep a vs∧Reps rep l ys
section
variable {α:Type} {rep rep':α→List Value→Prop} {size:Nat}
theorem Reps.imp (hi: ∀a vs,rep a vs→rep' a vs): ∀{l:List α} {xs:List Value},Reps rep l xs→Reps rep' l xs
 | [],_,h=> h
 | _::_,_,⟨vs,ys,e,h,k⟩=> ⟨vs,ys,e,hi _ _ h,k.imp hi⟩
theorem Reps.append: ∀{l:List α} {xs:List Value} {m:List α} {ys:List Value},Reps rep l xs→Reps rep m ys→Reps rep (l ++m) (xs ++ys)
 | [],_,_,_,h,k=> by simp only [Reps]at h;subst h;simpa using k
 | _::_,_,_,_,⟨vs,zs,e,h,k'⟩,k=> by subst e;exact ⟨vs,_,by rw [List.append_assoc],h,k'.append k⟩
theorem Reps.one {a:α}{vs:List Value}(h:rep a vs):Reps rep [a] vs:=⟨vs,[],by simp,h,rfl⟩
theorem Reps.length (hs: ∀a vs,rep a vs→vs.length=size): ∀{l:List α} {xs:List Value},Reps rep l xs→xs.length=l.length * size
 | [],_,h=> by simp only [Reps]at h;subst h;simp
 | _::l,_,⟨vs,ys,e,h,k⟩=> by
  subst e
  rw [List.length_append,hs _ _ h,k.length hs,List.length_cons,Nat.succ_mul,Nat.add_comm]
theorem Reps.get (hs: ∀a vs,rep a vs→vs.length=size): ∀{l:List α} {xs:List Value},Reps rep l xs→∀i (hi:i < l.length),∃vs,rep l[i] vs∧∀j,j < size→xs[i * size+j]? =vs[j]?
 | [],_,_,i,hi=> absurd hi (by simp)
 | _::_,_,⟨vs,ys,e,h,k⟩,0,_=> by
  subst e
  exact ⟨vs,h,fun j hj=> by rw [Nat.zero_mul,Nat.zero_add,List.getElem?_append_left (by rw [hs _ _ h];exact hj)]⟩
 | _::l,_,⟨vs,ys,e,h,k⟩,i+1,hi=> by
  subst e
  obtain ⟨us,h1,h2⟩:=k.get hs i (by simpa using hi)
  refine ⟨us,h1,fun j hj=> ?_⟩
  rw [List.getElem?_append_right (by rw [hs _ _ h,Nat.succ_mul];omega),hs _ _ h,← h2 j hj]
  congr 1
  rw [Nat.succ_mul]
  omega
end
theorem Rd.elem {α:Type}{rep:α→List Value→Prop}{size:Nat}(hs: ∀a vs,rep a vs→vs.length=size){w:World}{B n:Nat}{A:Option Addr}{xs:List Value}{l:List α}(h:Rd w B size A n xs)(hr:Reps rep l xs)
  {i:Nat} (hi:i < l.length) (h0:0 < size): ∃b off vs,A=some ⟨b,off,none⟩∧b < B∧rep l[i] vs∧∀j,j < size→w.cell? ⟨b,off+i * size+j,none⟩=vs[j]? :=by
 have hl:=hr.length hs
 have hmul:(i+1) * size≤l.length * size:=Nat.mul_le_mul_right _ hi
 rw [Nat.succ_mul]at hmul
 obtain ⟨b,off,e,hb,hc⟩:=h.2 (by omega)
 obtain ⟨vs,h1,h2⟩:=hr.get hs i hi
 exact ⟨b,off,vs,e,hb,h1,fun j hj=> by rw [Nat.add_assoc,hc _ (by omega),h2 j hj]⟩
theorem Rd.len_of {α:Type}{rep:α→List Value→Prop}{size:Nat}(hs: ∀a vs,rep a vs→vs.length=size){w:World}{B n:Nat}{A:Option Addr}{xs:List Value}{l:List α}(h:Rd w B size A n xs)(hr:Reps rep l xs)(h0:0 < size):l.length=n:=by
 have h1:=hr.length hs
 rw [h.1]at h1
 exact (Nat.eq_of_mul_eq_mul_right h0 h1).symm
section
open Go.ChangeShapes Go.WideShapes Go.ChangeAt Go.Deep
variable {H:Type} {enc:TypeId × Value→H} {P:Program} {W:World} {base:Nat} {spare:Nat→Bool} {held:Bool}
end
end Go.Proofs.YtnbmpfdffoidaaaGreatDoor
namespace Go.Proofs.YtnbmpfdffoidaaaGreatDoor
open Go.RowKit Go.Lib
section
variable {P:Program}
theorem Rd.made (w:World)(cs:List Value){e size n b:Nat}(hn:cs.length=n * size)(hb:b=w.heap.size):Rd (w.alloc (.cells cs.toArray e)) (w.heap.size+1) size (some ⟨b,0,none⟩) n cs:=by
 subst hb
 refine ⟨hn,fun _=> ⟨w.heap.size,0,rfl,by omega,fun j hj=> ?_⟩⟩
 rw [Nat.zero_add,cell_of_row _ w.heap.size j _ e _ (heap_alloc_new w _)]
 simp
end
end Go.Proofs.YtnbmpfdffoidaaaGreatDoor
namespace Go.Proofs.YtnbmpfdffoidaaaGreatDoor.Y
open Go.RowKit O V S
structure Mod (bs:List Nat)(w w':World):Prop where
 os:w'.os=w.os
 tape:w'.tape=w.tape
 output:w'.output=w.output
 size:w.heap.size≤w'.heap.size
 block: ∀k,k < w.heap.size→k ∉ bs→w'.heap[k]? =w.heap[k]?
theorem Mod.refl (bs:List Nat)(w:World):Mod bs w w:=⟨rfl,rfl,rfl,Nat.le_refl _,fun _ _ _=> rfl⟩
theorem Mod.trans {bs cs:List Nat}{a b c:World}(h:Mod bs a b)(k:Mod cs b c)(hs: ∀x ∈ cs,x ∈ bs∨a.heap.size≤x):Mod bs a c:=
 ⟨k.os.trans h.os,k.tape.trans h.tape,k.output.trans h.output,Nat.le_trans h.size k.size,fun i hi hn=>
  (k.block i (Nat.lt_of_lt_of_le hi h.size) (fun hx=> (hs i hx).elim hn (fun e=> by omega))).trans (h.block i hi hn)⟩
theorem Mod.then {bs:List Nat}{a b c:World}(h:Mod bs a b)(k:Mod bs b c):Mod bs a c:=h.trans k fun _ hx=> .inl hx
theorem Mod.more {bs cs:List Nat}{a b:World}(h:Mod bs a b)(hs: ∀x ∈ bs,x ∈ cs∨a.heap.size≤x):Mod cs a b:=
 ⟨h.os,h.tape,h.output,h.size,fun i hi hn=> h.block i hi (fun hx=> (hs i hx).elim hn (fun e=> by omega))⟩
theorem Mod.of_below {bs:List Nat}{a b:World}(h:Below a.heap.size a b):Mod bs a b:=⟨h.os,h.tape,h.output,h.size,fun i hi _=> h.block i hi⟩
theorem Mod.below {bs:List Nat}{a b:World}(h:Mod bs a b){B:Nat}(hB:B≤a.heap.size)(hs: ∀x ∈ bs,B≤x):Below B a b:=
 ⟨h.os,h.tape,h.output,h.size,fun k hk=> h.block k (by omega) (fun hx=> by have:=hs k hx;omega)⟩
theorem Mod.alloc {bs:List Nat}{a w:World}(h:Mod bs a w)(o:Obj):Mod bs a (w.alloc o):=h.then (.of_below ((Below.refl _ _).alloc (Nat.le_refl _) _))
theorem Mod.drew {bs:List Nat}{a w:World}(h:Mod bs a w):Mod bs a w.drew:=⟨h.os,h.tape,h.output,h.size,h.block⟩
theorem Mod.set {bs:List Nat}{a w:World}(h:Mod bs a w){b i:Nat}(hb:b ∈ bs∨a.heap.size≤b)(v:Value):Mod bs a (w.setCell ⟨b,i,none⟩ v):=
 h.trans (cs:=[b]) ⟨rfl,rfl,rfl,by simp,fun i _ hi=> Below.heap_setCell _ _ _ _ (fun e=> hi (by simp [e]))⟩ (fun x hx=> by simp at hx;rw [hx];exact hb)
theorem Mod.grown {bs:List Nat}{a w w':World}{row:Option Nat}(h:Mod bs a w)(hg:w.grownBy w' row)(hr: ∀k,row=some k→k ∈ bs∨a.heap.size≤k):Mod bs a w':=
 ⟨hg.os.trans h.os,hg.tape.trans h.tape,hg.output.trans h.output,Nat.le_trans h.size hg.size,fun i hi hn=>
  (hg.block i (Nat.lt_of_lt_of_le hi h.size) (fun e=> (hr i e.symm).elim hn (fun e=> by omega))).trans (h.block i hi hn)⟩
theorem Mod.box {bs:List Nat}{w w':World}{b:Nat}{o:Obj}(h:Mod bs w w')(hb:w.heap[b]? =some o)(hn:b ∉ bs):w'.heap[b]? =some o:=
 (h.block b (Array.getElem?_eq_some_iff.1 hb).1 hn).trans hb
structure Row (w:World)(S:Nat→Prop)(size:Nat)(A:Option Addr)(n c:Nat)(xs:List Value):Prop where
 len:xs.length=n * size
 cap:n≤c∧c≤9223372036854775807
 pos:0 < xs.length→∃b off,A=some ⟨b,off,none⟩∧S b∧∀j,j < xs.length→w.cell? ⟨b,off+j,none⟩=xs[j]?
section
variable {w w':World} {S S':Nat→Prop} {size n c:Nat} {A:Option Addr} {xs:List Value}
theorem Row.keep (h:Row w S size A n c xs)(hk: ∀b,S b→w'.heap[b]? =w.heap[b]?):Row w' S size A n c xs:=
 ⟨h.len,h.cap,fun hp=> by
  obtain ⟨b,off,e,hb,hc⟩:=h.pos hp
  exact ⟨b,off,e,hb,fun j hj=> (World.cell?_of_block (a:=⟨b,off+j,none⟩) (hk b hb)).trans (hc j hj)⟩⟩
theorem Row.mono (h:Row w S size A n c xs)(hs: ∀b,S b→S' b):Row w S' size A n c xs:=
 ⟨h.len,h.cap,fun hp=> by
  obtain ⟨b,off,e,hb,hc⟩:=h.pos hp
  exact ⟨b,off,e,hs b hb,hc⟩⟩
theorem Row.rd (h:Row w S size A n c xs){B:Nat}(hs: ∀b,S b→b < B):Rd w B size A n xs:=
 ⟨h.len,fun hp=> by
  obtain ⟨b,off,e,hb,hc⟩:=h.pos hp
  exact ⟨b,off,e,hs b hb,hc⟩⟩
theorem Row.nil_:Row w S size none 0 0 []:=⟨by simp,by omega,fun h=> absurd h (by simp)⟩
theorem Row.of_own {base:Nat}{e:TypeId}(h:w.ownsRow base e size (.slice A n c) n xs)(hS: ∀g,(Value.slice A n c).ownBlock=some g→S g):Row w S size A n c xs:=by
 have hr:=Rd.of_own h
 refine ⟨h.1,?_,fun hp=> ?_⟩
 ·rcases h.2 with ⟨hv,h0⟩ | ⟨g,cap,cur,hv,_,_,hnc,hcm,_⟩
  ·injection hv with _ _ hc
   omega
  ·injection hv with _ _ hc
   unfold maxLen at hcm
   omega
 ·obtain ⟨b,off,e,hb,hc⟩:=hr.2 hp
  exact ⟨b,off,e,hS b (by rw [e];rfl),hc⟩
end
abbrev sv (s:List UInt8):Value:= .string ⟨s.toArray⟩
abbrev nv (n:Int):Value:= .int .i64 n
def hdK:Ex→Int
 | .val _=> 1
 | .var _=> 2
 | .cell _ _ _=> 3
 | .has _ _=> 4
 | .sum _ _ _ _=> 5
 | .cnt _ _ _=> 6
 | .un _ _=> 7
 | .bin _ _ _=> 8
def hdV:Ex→Val
 | .val v=> v
 | _=> zv
def hdN:Ex→List UInt8
 | .var n=> n
 | .cell n _ _=> n
 | .has n _=> n
 | .sum n _ _ _=> n
 | .cnt n _ _=> n
 | _=> []
def hdC:Ex→List UInt8
 | .cell _ c _=> c
 | .sum _ c _ _=> c
 | _=> []
def hdO:Ex→Nat
 | .un op _=> op
 | .bin op _ _=> op
 | _=> 0
def parts:Ex→List Ex
 | .cell _ _ k=> [k]
 | .has _ k=> [k]
 | .sum _ _ a b=> [a,b]
 | .cnt _ a b=> [a,b]
 | .un _ a=> [a]
 | .bin _ a b=> [a,b]
 | _=> []
theorem Ex.ind {P:Ex→Prop}(h: ∀x,(∀y ∈ parts x,P y)→P x): ∀x,P x
 | .val v=> h _ (fun _ hy=> by cases hy)
 | .var n=> h _ (fun _ hy=> by cases hy)
 | .cell n c k=> h _ (fun y hy=> by
  have:=Ex.ind h k
  simp [parts]at hy;rw [hy];exact this)
 | .has n k=> h _ (fun y hy=> by
  have:=Ex.ind h k
  simp [parts]at hy;rw [hy];exact this)
 | .sum n c a b=> h _ (fun y hy=> by
  have h1:=Ex.ind h a
  have h2:=Ex.ind h b
  simp [parts]at hy;rcases hy with e | e <;> rw [e] <;> assumption)
 | .cnt n a b=> h _ (fun y hy=> by
  have h1:=Ex.ind h a
  have h2:=Ex.ind h b
  simp [parts]at hy;rcases hy with e | e <;> rw [e] <;> assumption)
 | .un op a=> h _ (fun y hy=> by
  have:=Ex.ind h a
  simp [parts]at hy;rw [hy];exact this)
 | .bin op a b=> h _ (fun y hy=> by
  have h1:=Ex.ind h a
  have h2:=Ex.ind h b
  simp [parts]at hy;rcases hy with e | e <;> rw [e] <;> assumption)
def exC (x:Ex)(args:Value)(p q r:Int):List Value:=
 [nv (hdK x),nv (hdV x).k,nv (hdV x).n,sv (hdV x).s,sv (hdN x),sv (hdC x),nv (hdO x:Nat),args,nv p,nv q,nv r]
def Nd (w:World)(S:Nat→Prop)(x:Ex)(n:Nat)(P:List Value→Prop)(vs:List Value):Prop:=
 ∃A c es p q r,vs=exC x (.slice A n c) p q r∧Row w S 11 A n c es∧P es
def ExR (w:World)(S:Nat→Prop):Ex→List Value→Prop
 | .val v,vs=> Nd w S (.val v) 0 (fun es=> es=[]) vs
 | .var n,vs=> Nd w S (.var n) 0 (fun es=> es=[]) vs
 | .cell n c k,vs=> Nd w S (.cell n c k) 1 (fun es=> ∃us ys,es=us ++ys∧ExR w S k us∧ys=[]) vs
 | .has n k,vs=> Nd w S (.has n k) 1 (fun es=> ∃us ys,es=us ++ys∧ExR w S k us∧ys=[]) vs
 | .sum n c a b,vs=> Nd w S (.sum n c a b) 2 (fun es=> ∃us ys,es=us ++ys∧ExR w S a us∧∃us' zs,ys=us' ++zs∧ExR w S b us'∧zs=[]) vs
 | .cnt n a b,vs=> Nd w S (.cnt n a b) 2 (fun es=> ∃us ys,es=us ++ys∧ExR w S a us∧∃us' zs,ys=us' ++zs∧ExR w S b us'∧zs=[]) vs
 | .un op a,vs=> Nd w S (.un op a) 1 (fun es=> ∃us ys,es=us ++ys∧ExR w S a us∧ys=[]) vs
 | .bin op a b,vs=> Nd w S (.bin op a b) 2 (fun es=> ∃us ys,es=us ++ys∧ExR w S a us∧∃us' zs,ys=us' ++zs∧ExR w S b us'∧zs=[]) vs
section
variable {w w':World} {S S':Nat→Prop}
theorem ExR_eq (x:Ex)(vs:List Value):ExR w S x vs ↔ Nd w S x (parts x).length (Reps (ExR w S) (parts x)) vs:=by
 cases x <;> exact Iff.rfl
theorem ExR.size: ∀(x:Ex) (vs:List Value),ExR w S x vs→vs.length=11:=fun x vs h=> by
 obtain ⟨A,c,es,p,q,r,rfl,_⟩:=(ExR_eq x vs).1 h
 rfl
theorem reps_impM {α:Type}{rep rep':α→List Value→Prop}: ∀{l:List α} {xs:List Value},(∀a ∈ l,∀vs,rep a vs→rep' a vs)→Reps rep l xs→Reps rep' l xs
 | [],_,_,h=> h
 | a::_,_,hi,⟨vs,ys,e,h,k⟩=> ⟨vs,ys,e,hi a (by simp) _ h,reps_impM (fun b hb=> hi b (by simp [hb])) k⟩
theorem ExR.keep (hk: ∀b,S b→w'.heap[b]? =w.heap[b]?): ∀(x:Ex) (vs:List Value),ExR w S x vs→ExR w' S x vs:=
 Ex.ind fun x ih vs h=> by
  obtain ⟨A,c,es,p,q,r,e,h1,h2⟩:=(ExR_eq x vs).1 h
  exact (ExR_eq x vs).2 ⟨A,c,es,p,q,r,e,h1.keep hk,reps_impM ih h2⟩
theorem ExR.mono (hs: ∀b,S b→S' b): ∀(x:Ex) (vs:List Value),ExR w S x vs→ExR w S' x vs:=
 Ex.ind fun x ih vs h=> by
  obtain ⟨A,c,es,p,q,r,e,h1,h2⟩:=(ExR_eq x vs).1 h
  exact (ExR_eq x vs).2 ⟨A,c,es,p,q,r,e,h1.mono hs,reps_impM ih h2⟩
end
def Sts.list:Sts→List St
 | .nil=> []
 | .cons s r=> s::r.list
theorem Sts.list_len: ∀b:Sts,b.list.length=b.len
 | .nil=> rfl
 | .cons s r=> by rw [Sts.list,List.length_cons,Sts.list_len r];rfl
theorem Sts.list_snoc: ∀(b:Sts) (s:St),(b.snoc s).list=b.list ++ [s]
 | .nil,_=> rfl
 | .cons t r,s=> by rw [Sts.snoc,Sts.list,Sts.list_snoc r s];rfl
def stK:St→Int
 | .let_ _ _=> 1
 | .set _ _=> 2
 | .put _ _ _ _=> 3
 | .del _ _=> 4
 | .if_ _ _ _=> 5
 | .loop _ _ _=> 6
 | .each _ _ _ _ _ _=> 7
 | .roll=> 8
 | .emit _=> 9
def stN:St→List UInt8
 | .let_ n _=> n
 | .set n _=> n
 | .loop _ n _=> n
 | .each n _ _ _ _ _=> n
 | _=> []
def stT:St→List UInt8
 | .put t _ _ _=> t
 | .del t _=> t
 | .each _ t _ _ _ _=> t
 | _=> []
def stC:St→List UInt8
 | .put _ c _ _=> c
 | _=> []
def stI:St→Int
 | .loop k _ _=> k
 | .each _ _ _ _ k _=> k
 | _=> 0
def stA:St→List Ex
 | .let_ _ e=> [e]
 | .set _ e=> [e]
 | .put _ _ k e=> [k,e]
 | .del _ k=> [k]
 | .if_ e _ _=> [e]
 | .each _ _ lo hi _ _=> [lo,hi]
 | .emit e=> [e]
 | _=> []
def stB:St→Sts
 | .if_ _ b _=> b
 | .loop _ _ b=> b
 | .each _ _ _ _ _ b=> b
 | _=> .nil
def stE:St→Sts
 | .if_ _ _ e=> e
 | _=> .nil
def stV (s:St)(a b e:Value)(p q r:Int):List Value:=[nv (stK s),sv (stN s),sv (stT s),sv (stC s),nv (stI s),a,b,e,nv p,nv q,nv r]
def SN (w:World)(S:Nat→Prop)(s:St)(P Q:List Value→Prop)(vs:List Value):Prop:=
 ∃A c es B d bs E f fs p q r,vs=stV s (.slice A (stA s).length c) (.slice B (stB s).len d) (.slice E (stE s).len f) p q r∧
  (Row w S 11 A (stA s).length c es∧Reps (ExR w S) (stA s) es)∧(Row w S 11 B (stB s).len d bs∧P bs)∧Row w S 11 E (stE s).len f fs∧Q fs
mutual
def StR (w:World)(S:Nat→Prop):St→List Value→Prop
 | .let_ n e,vs=> SN w S (.let_ n e) (fun x=> x=[]) (fun x=> x=[]) vs
 | .set n e,vs=> SN w S (.set n e) (fun x=> x=[]) (fun x=> x=[]) vs
 | .put t c k e,vs=> SN w S (.put t c k e) (fun x=> x=[]) (fun x=> x=[]) vs
 | .del t k,vs=> SN w S (.del t k) (fun x=> x=[]) (fun x=> x=[]) vs
 | .if_ e b els,vs=> SN w S (.if_ e b els) (fun x=> StsR w S b x) (fun x=> StsR w S els x) vs
 | .loop k n b,vs=> SN w S (.loop k n b) (fun x=> StsR w S b x) (fun x=> x=[]) vs
 | .each n t lo hi k b,vs=> SN w S (.each n t lo hi k b) (fun x=> StsR w S b x) (fun x=> x=[]) vs
 | .roll,vs=> SN w S .roll (fun x=> x=[]) (fun x=> x=[]) vs
 | .emit e,vs=> SN w S (.emit e) (fun x=> x=[]) (fun x=> x=[]) vs
def StsR (w:World)(S:Nat→Prop):Sts→List Value→Prop
 | .nil,xs=> xs=[]
 | .cons s r,xs=> ∃vs ys,xs=vs ++ys∧StR w S s vs∧StsR w S r ys
end
section
variable {w w':World} {S S':Nat→Prop}
theorem StsR_nil (xs:List Value):StsR w S .nil xs ↔ xs=[]:=by rw [StsR]
theorem StR_eq (s:St)(vs:List Value):StR w S s vs ↔ SN w S s (StsR w S (stB s)) (StsR w S (stE s)) vs:=by
 have h:StsR w S .nil=fun x=> x=[]:=funext fun x=> propext (StsR_nil x)
 cases s <;> simp only [StR,stB,stE,h]
theorem StR.size: ∀(s:St) (vs:List Value),StR w S s vs→vs.length=11:=fun s vs h=> by
 obtain ⟨A,c,es,B,d,bs,E,f,fs,p,q,r,rfl,_⟩:=(StR_eq s vs).1 h
 rfl
theorem StsR_reps: ∀(b:Sts) (xs:List Value),StsR w S b xs ↔ Reps (StR w S) b.list xs
 | .nil,xs=> StsR_nil xs
 | .cons s r,xs=> by
  rw [StsR]
  exact ⟨fun ⟨vs,ys,e,h,k⟩=> ⟨vs,ys,e,h,(StsR_reps r ys).1 k⟩,fun ⟨vs,ys,e,h,k⟩=> ⟨vs,ys,e,h,(StsR_reps r ys).2 k⟩⟩
mutual
theorem St.indM {P:St→Prop}{Q:Sts→Prop}(h: ∀s,Q (stB s)→Q (stE s)→P s)(h0:Q .nil)(h1: ∀s r,P s→Q r→Q (.cons s r)): ∀s,P s
 | .let_ n e=> h _ h0 h0
 | .set n e=> h _ h0 h0
 | .put t c k e=> h _ h0 h0
 | .del t k=> h _ h0 h0
 | .if_ e b els=> h _ (Sts.indM h h0 h1 b) (Sts.indM h h0 h1 els)
 | .loop k n b=> h _ (Sts.indM h h0 h1 b) h0
 | .each n t lo hi k b=> h _ (Sts.indM h h0 h1 b) h0
 | .roll=> h _ h0 h0
 | .emit e=> h _ h0 h0
theorem Sts.indM {P:St→Prop}{Q:Sts→Prop}(h: ∀s,Q (stB s)→Q (stE s)→P s)(h0:Q .nil)(h1: ∀s r,P s→Q r→Q (.cons s r)): ∀b,Q b
 | .nil=> h0
 | .cons s r=> h1 s r (St.indM h h0 h1 s) (Sts.indM h h0 h1 r)
end
theorem StsR.keep (hk: ∀b,S b→w'.heap[b]? =w.heap[b]?): ∀(b:Sts) (xs:List Value),StsR w S b xs→StsR w' S b xs:=
 Sts.indM (P:=fun s=> ∀vs,StR w S s vs→StR w' S s vs) (fun s hb he vs h=> by
  obtain ⟨A,c,es,B,d,bs,E,f,fs,p,q,r,e,⟨h1,h2⟩,⟨h3,h4⟩,h5,h6⟩:=(StR_eq s vs).1 h
  exact (StR_eq s vs).2 ⟨A,c,es,B,d,bs,E,f,fs,p,q,r,e,⟨h1.keep hk,h2.imp fun x us=> ExR.keep hk x us⟩,⟨h3.keep hk,hb _ h4⟩,h5.keep hk,he _ h6⟩)
  (fun xs h=> (StsR_nil xs).2 ((StsR_nil xs).1 h)) (fun s r hs hr xs h=> by
   rw [StsR]at h⊢
   obtain ⟨vs,ys,e,h1,h2⟩:=h
   exact ⟨vs,ys,e,hs _ h1,hr _ h2⟩)
theorem StR.keep (hk: ∀b,S b→w'.heap[b]? =w.heap[b]?)(s:St)(vs:List Value)(h:StR w S s vs):StR w' S s vs:=by
  obtain ⟨A,c,es,B,d,bs,E,f,fs,p,q,r,e,⟨h1,h2⟩,⟨h3,h4⟩,h5,h6⟩:=(StR_eq s vs).1 h
  exact (StR_eq s vs).2 ⟨A,c,es,B,d,bs,E,f,fs,p,q,r,e,⟨h1.keep hk,h2.imp fun x us=> ExR.keep hk x us⟩,⟨h3.keep hk,StsR.keep hk _ _ h4⟩,h5.keep hk,StsR.keep hk _ _ h6⟩
theorem StsR.mono (hs: ∀b,S b→S' b): ∀(b:Sts) (xs:List Value),StsR w S b xs→StsR w S' b xs:=
 Sts.indM (P:=fun s=> ∀vs,StR w S s vs→StR w S' s vs) (fun s hb he vs h=> by
  obtain ⟨A,c,es,B,d,bs,E,f,fs,p,q,r,e,⟨h1,h2⟩,⟨h3,h4⟩,h5,h6⟩:=(StR_eq s vs).1 h
  exact (StR_eq s vs).2 ⟨A,c,es,B,d,bs,E,f,fs,p,q,r,e,⟨h1.mono hs,h2.imp fun x us=> ExR.mono hs x us⟩,⟨h3.mono hs,hb _ h4⟩,h5.mono hs,he _ h6⟩)
  (fun xs h=> (StsR_nil xs).2 ((StsR_nil xs).1 h)) (fun s r h3 hr xs h=> by
   rw [StsR]at h⊢
   obtain ⟨vs,ys,e,h1,h2⟩:=h
   exact ⟨vs,ys,e,h3 _ h1,hr _ h2⟩)
theorem StR.mono (hs: ∀b,S b→S' b)(s:St)(vs:List Value)(h:StR w S s vs):StR w S' s vs:=by
  obtain ⟨A,c,es,B,d,bs,E,f,fs,p,q,r,e,⟨h1,h2⟩,⟨h3,h4⟩,h5,h6⟩:=(StR_eq s vs).1 h
  exact (StR_eq s vs).2 ⟨A,c,es,B,d,bs,E,f,fs,p,q,r,e,⟨h1.mono hs,h2.imp fun x us=> ExR.mono hs x us⟩,⟨h3.mono hs,StsR.mono hs _ _ h4⟩,h5.mono hs,StsR.mono hs _ _ h6⟩
end
def ClR (c:Cl)(vs:List Value):Prop:=vs=[sv c.name,nv c.k,nv c.m]
theorem ClR.size: ∀(c:Cl) (vs:List Value),ClR c vs→vs.length=3:=by rintro c vs rfl;rfl
def TbR (w:World)(S:Nat→Prop)(t:Tb)(vs:List Value):Prop:=
 ∃A c es,vs=[sv t.name,nv t.rows,.slice A t.cols.length c]∧Row w S 3 A t.cols.length c es∧Reps ClR t.cols es
def PcR (w:World)(S:Nat→Prop)(x:Pc)(vs:List Value):Prop:=
 ∃A c es B d bs p q r,vs=[sv x.name,.slice A x.params.length c,.slice B x.body.len d,nv p,nv q,nv r]∧(Row w S 3 A x.params.length c es∧Reps ClR x.params es)∧Row w S 11 B x.body.len d bs∧StsR w S x.body bs
def WkR (w:World)(S:Nat→Prop)(k:Wk)(v:Value):Prop:=
 ∃A c es B d fs,v= .agg #[.slice A k.tables.length c,.slice B k.procs.length d]∧(Row w S 3 A k.tables.length c es∧Reps (TbR w S) k.tables es)∧Row w S 6 B k.procs.length d fs∧Reps (PcR w S) k.procs fs
section
variable {w w':World} {S S':Nat→Prop}
theorem TbR.size: ∀(t:Tb) (vs:List Value),TbR w S t vs→vs.length=3:=by rintro t vs ⟨A,c,es,rfl,_⟩;rfl
theorem PcR.size: ∀(t:Pc) (vs:List Value),PcR w S t vs→vs.length=6:=by rintro t vs ⟨A,c,es,B,d,bs,p,q,r,rfl,_⟩;rfl
theorem TbR.keep (hk: ∀b,S b→w'.heap[b]? =w.heap[b]?)(t:Tb)(vs:List Value):TbR w S t vs→TbR w' S t vs
 | ⟨A,c,es,e,h1,h2⟩=> ⟨A,c,es,e,h1.keep hk,h2⟩
theorem TbR.mono (hs: ∀b,S b→S' b)(t:Tb)(vs:List Value):TbR w S t vs→TbR w S' t vs
 | ⟨A,c,es,e,h1,h2⟩=> ⟨A,c,es,e,h1.mono hs,h2⟩
theorem PcR.keep (hk: ∀b,S b→w'.heap[b]? =w.heap[b]?)(t:Pc)(vs:List Value):PcR w S t vs→PcR w' S t vs
 | ⟨A,c,es,B,d,bs,p,q,r,e,⟨h1,h2⟩,h3,h4⟩=> ⟨A,c,es,B,d,bs,p,q,r,e,⟨h1.keep hk,h2⟩,h3.keep hk,StsR.keep hk _ _ h4⟩
theorem PcR.mono (hs: ∀b,S b→S' b)(t:Pc)(vs:List Value):PcR w S t vs→PcR w S' t vs
 | ⟨A,c,es,B,d,bs,p,q,r,e,⟨h1,h2⟩,h3,h4⟩=> ⟨A,c,es,B,d,bs,p,q,r,e,⟨h1.mono hs,h2⟩,h3.mono hs,StsR.mono hs _ _ h4⟩
theorem WkR.keep {k:Wk}{v:Value}(h:WkR w S k v)(hk: ∀b,S b→w'.heap[b]? =w.heap[b]?):WkR w' S k v:=by
 obtain ⟨A,c,es,B,d,fs,e,⟨h1,h2⟩,h3,h4⟩:=h
 exact ⟨A,c,es,B,d,fs,e,⟨h1.keep hk,h2.imp fun t vs=> TbR.keep hk t vs⟩,h3.keep hk,h4.imp fun t vs=> PcR.keep hk t vs⟩
end
def In (lo:Nat)(w:World)(S:Nat→Prop):Prop:= ∀b,S b→lo≤b∧b < w.heap.size
theorem In.keeps {lo:Nat}{w w':World}{S:Nat→Prop}{bs:List Nat}(h:In lo w S)(m:Mod bs w w')(hb: ∀x ∈ bs,x < lo): ∀b,S b→w'.heap[b]? =w.heap[b]? :=
 fun b hS=> m.block b (h b hS).2 (fun hx=> by have:=hb b hx;have:=(h b hS).1;omega)
theorem In.next {lo:Nat}{w w':World}{S:Nat→Prop}(h:In lo w S)(hs:w.heap.size≤w'.heap.size):In lo w' S:=fun b hS=> ⟨(h b hS).1,Nat.lt_of_lt_of_le (h b hS).2 hs⟩
theorem In.more {lo lo':Nat}{w:World}{S:Nat→Prop}(h:In lo w S)(hs:lo'≤lo):In lo' w S:=fun b hS=> ⟨Nat.le_trans hs (h b hS).1,(h b hS).2⟩
end Go.Proofs.YtnbmpfdffoidaaaGreatDoor.Y
namespace Go.Proofs.YtnbmpfdffoidaaaGreatDoor.Y
open O V S
variable {α β:Type}
end Go.Proofs.YtnbmpfdffoidaaaGreatDoor.Y
namespace Go.Proofs.YtnbmpfdffoidaaaGreatDoor.Y
open O V S
def okV (v:Val):Prop:=right v=true∧(v.k=1→0≤v.n∧v.n≤9223372036854775807)
def okX:Ex→Prop
 | .val v=> okV v
 | .var n=> isNameL n=true
 | .cell n c k=> isNameL n=true∧isNameL c=true∧okX k
 | .has n k=> isNameL n=true∧okX k
 | .sum n c a b=> isNameL n=true∧isNameL c=true∧okX a∧okX b
 | .cnt n a b=> isNameL n=true∧okX a∧okX b
 | .un op a=> (op=13∨op=14)∧okX a
 | .bin op a b=> (1≤op∧op≤12)∧okX a∧okX b
def ndb (x:Ex)(least n:Nat):Nat:=if lvlX x < least then n+1 else n
def nd:Ex→Nat
 | .val _=> 0
 | .var _=> 0
 | .cell _ _ k=> nd k+1
 | .has _ k=> nd k+1
 | .sum _ _ a b=> max (nd a) (nd b)+1
 | .cnt _ a b=> max (nd a) (nd b)+1
 | .un _ a=> ndb a 6 (nd a)+1
 | .bin op a b=> max (ndb a (lvlS op) (nd a)) (ndb b (lvlS op+1) (nd b))
theorem lvlS_bound {op:Nat}(h:1≤op∧op≤12):1≤lvlS op∧lvlS op≤5:=by
 have:op=1∨op=2∨op=3∨op=4∨op=5∨op=6∨op=7∨op=8∨op=9∨op=10∨op=11∨op=12:=by omega
 rcases this with h | h | h | h | h | h | h | h | h | h | h | h <;> subst h <;> decide
end Go.Proofs.YtnbmpfdffoidaaaGreatDoor.Y
namespace Go.Proofs.YtnbmpfdffoidaaaGreatDoor.Y
open O V S
def okNum (n:Int):Prop:=0≤n∧n≤9223372036854775807
mutual
def okS:St→Prop
 | .let_ n e=> isNameL n=true∧okX e
 | .set n e=> isNameL n=true∧okX e
 | .put t c k e=> isNameL t=true∧isNameL c=true∧okX k∧okX e
 | .del t k=> isNameL t=true∧okX k
 | .if_ e b els=> okX e∧(okB b∧b.len≤24)∧okB els∧els.len≤24
 | .loop n name b=> okNum n∧isNameL name=true∧okB b∧b.len≤24
 | .each n t lo hi k b=> (isNameL n=true∧isNameL t=true)∧(okX lo∧okX hi)∧okNum k∧okB b∧b.len≤24
 | .roll=> True
 | .emit e=> okX e
def okB:Sts→Prop
 | .nil=> True
 | .cons s r=> okS s∧okB r
end
mutual
def ndS:St→Nat
 | .let_ _ e=> nd e
 | .set _ e=> nd e
 | .put _ _ k e=> max (nd k+1) (nd e)
 | .del _ k=> nd k+1
 | .if_ e b els=> max (nd e) (max (ndB b+1) (ndB els+1))
 | .loop _ _ b=> ndB b+1
 | .each _ _ lo hi _ b=> max (max (nd lo) (nd hi)) (ndB b+1)
 | .roll=> 0
 | .emit e=> nd e
def ndB:Sts→Nat
 | .nil=> 0
 | .cons s r=> max (ndS s) (ndB r)
end
structure okC (c:Cl):Prop where
 n:isNameL c.name=true
 t:(c.k=1∧c.m=0)∨(c.k=2∧c.m=0)∨(c.k=3∧1≤c.m∧c.m≤32)
structure okT (t:Tb):Prop where
 n:isNameL t.name=true
 r:okNum t.rows
 c:t.cols.length≤8∧∀c ∈ t.cols,okC c
structure okP (p:Pc):Prop where
 n:isNameL p.name=true
 c:p.params.length≤6∧∀c ∈ p.params,okC c
 b:(okB p.body∧p.body.len≤24)∧ndB p.body+1≤16
structure okW (w:Wk):Prop where
 t:w.tables.length≤8∧∀t ∈ w.tables,okT t
 p:w.procs.length≤8∧∀p ∈ w.procs,okP p
structure okPw (p:Pc):Prop where
 n:isNameL p.name=true
 c:p.params.length≤6∧∀c ∈ p.params,okC c
 b:(okB p.body∧p.body.len≤24)∧True
structure okWw (w:Wk):Prop where
 t:w.tables.length≤8∧∀t ∈ w.tables,okT t
 p:w.procs.length≤8∧∀p ∈ w.procs,okPw p
end Go.Proofs.YtnbmpfdffoidaaaGreatDoor.Y
namespace Go.Proofs.YtnbmpfdffoidaaaGreatDoor.Y
open O V S
def TokW (t:Tok):Prop:=(t.1=2→∃n,okNum n∧t.2.2=⟨1,n,[]⟩)∧(t.1=3→∃s,plainL s=true∧t.2.2=⟨3,0,s⟩)
def AllW (l:List Tok):Prop:= ∀t ∈ l,TokW t
variable {α β:Type}
theorem lit_snd {l:List Tok}(h:AllW l){v:Val}(hv:pLit l=some v):okV v∧0 < l.length:=by
 cases l with
 | nil=> cases hv
 | cons t r=>
  refine ⟨?_,by simp⟩
  have hw:=h t (by simp)
  unfold pLit at hv
  simp only at hv
  split at hv
  ·injection hv with e;subst e;exact ⟨by decide,fun h=> by simp at h⟩
  ·split at hv
   ·injection hv with e;subst e;exact ⟨by decide,fun h=> by simp at h⟩
   ·split at hv
    ·rename_i h23
     injection hv with e
     subst e
     rcases h23 with h2 | h3
     ·obtain ⟨n,hn,e⟩:=hw.1 h2
      rw [e]
      exact ⟨by simp [right],fun _=> hn⟩
     ·obtain ⟨s,hs,e⟩:=hw.2 h3
      rw [e]
      exact ⟨by simp [right,hs],fun h=> by simp at h⟩
    ·cases hv
theorem okB_snoc: ∀(a:Sts) (s:St),okB a→okS s→okB (a.snoc s)
 | .nil,s,_,h=> by rw [Sts.snoc,okB];exact ⟨h,by rw [okB];trivial⟩
 | .cons t r,s,h,k=> by
  rw [okB]at h
  rw [Sts.snoc,okB]
  exact ⟨h.1,okB_snoc r s h.2 k⟩
end Go.Proofs.YtnbmpfdffoidaaaGreatDoor.Y
namespace Go.Proofs.YtnbmpfdffoidaaaGreatDoor.X
open O V S
def blankC (c:UInt8):Bool:=decide (c.toNat=32) || (decide (c.toNat=9) || (decide (c.toNat=10) || decide (c.toNat=13)))
def digitC (c:UInt8):Bool:=decide (48≤c.toNat) && decide (c.toNat≤57)
def wordC (c:UInt8):Bool:=smallC c || (digitC c || decide (c.toNat=95))
def noteC (c:UInt8):Bool:=decide (c.toNat≠10)
def runLen (p:UInt8→Bool):List UInt8→Nat
 | []=> 0
 | c::r=> if p c then runLen p r+1 else 0
theorem runLen_le (p:UInt8→Bool): ∀l,runLen p l≤l.length
 | []=> by simp [runLen]
 | c::r=> by unfold runLen;split <;> simp [runLen_le p r]
theorem drop_run (p:UInt8→Bool): ∀l:List UInt8,l.drop (runLen p l)=l.dropWhile p
 | []=> rfl
 | c::r=> by
  unfold runLen List.dropWhile
  cases h:p c
  ·simp
  ·simp [drop_run p r]
theorem while_len (p:UInt8→Bool)(l:List UInt8):(l.dropWhile p).length≤l.length:=by
 rw [← drop_run];simp
def skip:List UInt8→List UInt8
 | []=> []
 | c::r=> if blankC c then skip r else if c.toNat=35 then skip (r.dropWhile noteC)else c::r
termination_by l=> l.length
decreasing_by
 ·simp
 ·have:=while_len noteC r;simp;omega
theorem skip_nil:skip []=[]:=by rw [skip]
theorem skip_blank {c:UInt8}(r:List UInt8)(h:blankC c=true):skip (c::r)=skip r:=by rw [skip,if_pos h]
theorem skip_note {c:UInt8}(r:List UInt8)(h:c.toNat=35):skip (c::r)=skip (r.dropWhile noteC):=by
 rw [skip,if_neg (by simp [blankC,h]),if_pos h]
theorem skip_stop {c:UInt8}(r:List UInt8)(h:blankC c=false)(h2:c.toNat≠35):skip (c::r)=c::r:=by
 rw [skip,if_neg (by simp [h]),if_neg h2]
theorem skip_len: ∀(n:Nat) (l:List UInt8),l.length≤n→(skip l).length≤l.length
 | _,[],_=> by simp [skip_nil]
 | 0,c::r,h=> by simp at h
 | n+1,c::r,h=> by
  simp at h
  by_cases h1:blankC c=true
  ·rw [skip_blank r h1]
   have:=skip_len n r h
   simp;omega
  ·by_cases h2:c.toNat=35
   ·rw [skip_note r h2]
    have h3:=while_len noteC r
    have:=skip_len n (r.dropWhile noteC) (by omega)
    simp;omega
   ·rw [skip_stop r (by simpa using h1) h2]
    simp
theorem skip_suffix: ∀(n:Nat) (l:List UInt8),l.length≤n→∃k,k≤l.length∧skip l=l.drop k
 | _,[],_=> ⟨0,by simp,by simp [skip_nil]⟩
 | 0,c::r,h=> by simp at h
 | n+1,c::r,h=> by
  simp at h
  by_cases h1:blankC c=true
  ·obtain ⟨k,hk,e⟩:=skip_suffix n r h
   exact ⟨k+1,by simp;omega,by rw [skip_blank r h1,e];simp⟩
  ·by_cases h2:c.toNat=35
   ·obtain ⟨k,hk,e⟩:=skip_suffix n (r.dropWhile noteC) (by have:=while_len noteC r;omega)
    have h3:=while_len noteC r
    have hle:=runLen_le noteC r
    refine ⟨k+runLen noteC r+1,?_,?_⟩
    ·rw [← drop_run]at hk;simp at hk;simp;omega
    ·rw [skip_note r h2,e,← drop_run,List.drop_drop,List.drop_succ_cons]
     congr 1;omega
   ·exact ⟨0,by simp,by rw [skip_stop r (by simpa using h1) h2];simp⟩
structure Quo where
 n:Nat
 s:List UInt8
 bad:Option Nat
def wrongC (c:UInt8):Bool:=decide (c.toNat < 32) || decide (c.toNat > 126)
def escC (c:UInt8):Bool:=decide (c.toNat=34) || decide (c.toNat=92)
def orE (a b:Option Nat):Option Nat:=match a with | some k=> some k | none=> b
def quoS:List UInt8→Nat→Quo→Option Quo
 | [],_,_=> none
 | [c],k,q=> if c.toNat=34 then some ⟨k,q.s,q.bad⟩else none
 | c::d::r,k,q=>
  if c.toNat=34 then some ⟨k,q.s,q.bad⟩
  else if c.toNat=92 then quoS r (k+2) ⟨0,q.s ++ [d],orE q.bad (if (!escC d || wrongC d)=true then some (k+1)else none)⟩
  else quoS (d::r) (k+1) ⟨0,q.s ++ [c],orE q.bad (if wrongC c=true then some k else none)⟩
structure TokR where
 e:Int
 off:Nat
 k:Int
 n:Nat
 v:Val
def zeroV:Val:=⟨0,0,[]⟩
def two (a b:Nat):Bool:=(decide (a=38) && decide (b=38)) || ((decide (a=124) && decide (b=124)) || ((decide (a=61) && decide (b=61)) || ((decide (a=33) && decide (b=61)) || ((decide (a=60) && decide (b=61)) || (decide (a=43) && decide (b=43))))))
def signs:List Nat:=[123,125,40,41,91,93,59,44,46,61,60,43,45,42,47,37,33]
def one (c:Nat):Bool:=signs.any (· =c)
def signL:List UInt8→Nat
 | []=> 0
 | [c]=> if one c.toNat then 1 else 0
 | c::d::_=> if two c.toNat d.toNat then 2 else if one c.toNat then 1 else 0
def numV (l:List UInt8):Nat:=l.foldl (fun n c=> 10 * n+(c.toNat - 48)) 0
def numOk (l:List UInt8):Bool:=decide (numV l < 9223372036854775808) && (decide ((l.getD 0 0).toNat≠48) || decide (l.length=1))
def quoL (t:List UInt8):TokR:=match quoS (t.drop 1) 1 ⟨0,[],none⟩with
 | none=> ⟨12,t.length,3,0,zeroV⟩
 | some q=> match q.bad with
  | some k=> ⟨10,k,3,0,zeroV⟩
  | none=> if q.s.length > 32 then ⟨2,0,3,0,zeroV⟩else ⟨0,0,3,q.n+1,⟨3,0,q.s⟩⟩
def tokL:List UInt8→TokR
 | []=> ⟨10,0,4,0,zeroV⟩
 | c::r=>
  if smallC c then (if runLen wordC (c::r) > 16 then ⟨2,0,1,0,zeroV⟩else ⟨0,0,1,runLen wordC (c::r),zeroV⟩)
  else if digitC c then (if numOk ((c::r).take (runLen digitC (c::r)))then ⟨0,0,2,runLen digitC (c::r),⟨1,(numV ((c::r).take (runLen digitC (c::r))):Nat),[]⟩⟩else ⟨11,0,2,0,zeroV⟩)
  else if c.toNat=34 then quoL (c::r)
  else if signL (c::r)=0 then ⟨10,0,4,0,zeroV⟩else ⟨0,0,4,signL (c::r),zeroV⟩
structure Tk where
 k:Int
 text:List UInt8
 v:Val
 i:Nat
def lineOf (s:List UInt8):Nat→Nat
 | 0=> 1
 | i+1=> if (s.getD i 0).toNat=10 then lineOf s i+1 else lineOf s i
def startOf (s:List UInt8):Nat→Nat
 | 0=> 0
 | i+1=> if (s.getD i 0).toNat=10 then i+1 else startOf s i
theorem startOf_le (s:List UInt8): ∀i,startOf s i≤i
 | 0=> Nat.le_refl _
 | i+1=> by
  have:=startOf_le s i
  unfold startOf
  split <;> omega
theorem lineOf_le (s:List UInt8): ∀i,lineOf s i≤i+1
 | 0=> Nat.le_refl _
 | i+1=> by
  have:=lineOf_le s i
  unfold lineOf
  split <;> omega
theorem start_no (s:List UInt8)(i:Nat): ∀n,(∀j,i≤j→j < i+n→(s.getD j 0).toNat≠10)→startOf s (i+n)=startOf s i
 | 0,_=> rfl
 | n+1,h=> by
  rw [← Nat.add_assoc,startOf,if_neg (h (i+n) (by omega) (by omega))]
  exact start_no s i n (fun j h1 h2=> h j h1 (by omega))
theorem start_at (s:List UInt8)(i p n:Nat)(hp:p < n)(h:(s.getD (i+p) 0).toNat=10)(hn: ∀j,p < j→j < n→(s.getD (i+j) 0).toNat≠10):startOf s (i+n)=i+p+1:=by
 have:=start_no s (i+p+1) (n - p - 1) (fun j h1 h2=> by have:=hn (j - i) (by omega) (by omega);rwa [show i+(j - i)=j by omega]at this)
 rw [show i+p+1+(n - p - 1)=i+n by omega]at this
 rw [this,startOf,if_pos h]
theorem ten_iff (c:UInt8):c.toNat=10 ↔ c=10:=by
 constructor
 ·intro h;exact UInt8.toNat_inj.1 h
 ·intro h;subst h;rfl
theorem line_add (s:List UInt8)(i:Nat): ∀n,i+n≤s.length→lineOf s (i+n)=lineOf s i+((s.drop i).take n).count 10
 | 0,_=> by simp
 | n+1,h=> by
  have hd:n < (s.drop i).length:=by simp;omega
  have hg:s.getD (i+n) 0=(s.drop i)[n]:=by
   rw [List.getElem_drop,List.getD_eq_getElem?_getD,List.getElem?_eq_getElem (by omega)];rfl
  rw [← Nat.add_assoc,lineOf,line_add s i n (by omega),List.take_succ_eq_append_getElem hd,List.count_append,hg]
  by_cases hc:((s.drop i)[n]).toNat=10
  ·rw [if_pos hc,(ten_iff _).1 hc]
   simp;omega
  ·rw [if_neg hc]
   have:(s.drop i)[n]≠10:=fun e=> hc ((ten_iff _).2 e)
   rw [List.count_singleton,if_neg (by simpa using this)];rfl
def lexS (s:List UInt8)(f:Nat)(i:Nat):List Tk × Int × Nat:=match f with
 | 0=> ([],0,0)
 | f+1=>
  let t:=skip (s.drop i)
  let j:=s.length - t.length
  if t.length=0 then ([],0,0)
  else
   let r:=tokL t
   if r.e≠0 then ([],r.e,j+r.off)
   else
    let x:=lexS s f (j+r.n)
    (⟨r.k,t.take r.n,r.v,j⟩::x.1,x.2)
end Go.Proofs.YtnbmpfdffoidaaaGreatDoor.X
