/- Texts of the proof, joined: SynPx, SynPx2. -/
import Derived.Test.YtnbmpfdffoidaaaGreatDoorPr04
import Derived.Test.YtnbmpfdffoidaaaGreatDoorPr06
set_option linter.unusedVariables false
set_option linter.unusedSimpArgs false
set_option maxHeartbeats 8000000
set_option maxRecDepth 100000
namespace Go.Proofs.YtnbmpfdffoidaaaGreatDoor.Y
open Go.RowKit O V S X
theorem arg_raw (k vk vn:Int)(vs nm cc:List UInt8)(o:Int)(p q r:Int)(b off n c i:Nat){z:Int}(hz:z=i)(hi:i < n)(hn:n≤1000)(uk uvk uvn:Int)(us un uc:List UInt8)(uo:Int)(uA:Option Addr)(um ud:Nat)(up uq ur:Int)(w:World)(hb:b < w.heap.size)
  (hc: ∀j,j < 11→w.cell? ⟨b,off+i * 11+j,none⟩=[nv uk,nv uvk,nv uvn,sv us,sv un,sv uc,nv uo,.slice uA um ud,nv up,nv uq,nv ur][j]?):
  Calls Tryz.prog 105 #[exVal k vk vn vs nm cc o (.slice (some ⟨b,off,none⟩) n c) p q r,.int .i64 z] w fun e w'=> e= .returned (exVal uk uvk uvn us un uc uo (.slice uA um ud) up uq ur)∧Below w.heap.size w w':=by
 subst hz
 have y0:w.cell? ⟨b,off+i * 11,none⟩=some (nv uk):=hc 0 (by omega)
 have y1:w.cell? ⟨b,off+i * 11+1,none⟩=some (nv uvk):=hc 1 (by omega)
 have y2:w.cell? ⟨b,off+i * 11+2,none⟩=some (nv uvn):=hc 2 (by omega)
 have y3:w.cell? ⟨b,off+i * 11+3,none⟩=some (sv us):=hc 3 (by omega)
 have y4:w.cell? ⟨b,off+i * 11+4,none⟩=some (sv un):=hc 4 (by omega)
 have y5:w.cell? ⟨b,off+i * 11+5,none⟩=some (sv uc):=hc 5 (by omega)
 have y6:w.cell? ⟨b,off+i * 11+6,none⟩=some (nv uo):=hc 6 (by omega)
 have y7:w.cell? ⟨b,off+i * 11+7,none⟩=some (.slice uA um ud):=hc 7 (by omega)
 have y8:w.cell? ⟨b,off+i * 11+8,none⟩=some (nv up):=hc 8 (by omega)
 have y9:w.cell? ⟨b,off+i * 11+9,none⟩=some (nv uq):=hc 9 (by omega)
 have y10:w.cell? ⟨b,off+i * 11+10,none⟩=some (nv ur):=hc 10 (by omega)
 clear hc
 have hki:(i:Int) < (n:Int):=by omega
 have dg: ¬n≤i:=by omega
 go_enter Tryz.func105,Tryz.ntmps105
 go_wp2_with fail
 refine bodyPost_ret (v:=exVal uk uvk uvn us un uc uo (.slice uA um ud) up uq ur) (by simp [results,Tryz.results105,go_sem]) rfl ?_
 refine ⟨rfl,?_⟩
 repeat (first | (with_reducible exact Below.refl _ _) | (with_reducible assumption) | refine Below.setCell ?_ (by simp <;> omega) _ | refine Below.alloc ?_ (by simp <;> omega) _ | refine Below.drew ?_)
structure ExAt (w:World)(S:Nat→Prop)(x:Ex)(A:Option Addr)(c:Nat):Prop where
 ex: ∃es,Row w S 11 A (parts x).length c es∧Reps (ExR w S) (parts x) es
abbrev exX (x:Ex)(A:Option Addr)(c:Nat)(p q r:Int):Value:=exVal (hdK x) (hdV x).k (hdV x).n (hdV x).s (hdN x) (hdC x) (hdO x:Nat) (.slice A (parts x).length c) p q r
theorem ExAt.of {w:World}{S:Nat→Prop}{x:Ex}{vs:List Value}(h:ExR w S x vs): ∃A c p q r,vs=exC x (.slice A (parts x).length c) p q r∧ExAt w S x A c:=by
 obtain ⟨A,c,es,p,q,r,e,h1,h2⟩:=(ExR_eq x vs).1 h
 exact ⟨A,c,p,q,r,e,⟨es,h1,h2⟩⟩
theorem ExAt.r {w:World}{S:Nat→Prop}{x:Ex}{A:Option Addr}{c:Nat}(h:ExAt w S x A c)(p q r:Int):ExR w S x (exC x (.slice A (parts x).length c) p q r):=by
 obtain ⟨es,h1,h2⟩:=h.ex
 exact (ExR_eq x _).2 ⟨A,c,es,p,q,r,rfl,h1,h2⟩
theorem ExAt.keep {w w':World}{S:Nat→Prop}{x:Ex}{A:Option Addr}{c:Nat}(h:ExAt w S x A c)(hk: ∀b,S b→w'.heap[b]? =w.heap[b]?):ExAt w' S x A c:=by
 obtain ⟨es,h1,h2⟩:=h.ex
 exact ⟨es,h1.keep hk,h2.imp fun y us=> ExR.keep hk y us⟩
theorem parts_len (x:Ex):(parts x).length≤2:=by cases x <;> simp [parts]
theorem ExAt.part {w:World}{S:Nat→Prop}{x:Ex}{A:Option Addr}{c:Nat}(h:ExAt w S x A c){B:Nat}(hS: ∀b,S b→b < B){i:Nat}(hi:i < (parts x).length):
  ∃b off A' c' p q r,A=some ⟨b,off,none⟩∧b < B∧(∀j,j < 11→w.cell? ⟨b,off+i * 11+j,none⟩=(exC (parts x)[i] (.slice A' (parts (parts x)[i]).length c') p q r)[j]?)∧ExAt w S (parts x)[i] A' c':=by
 obtain ⟨es,h1,h2⟩:=h.ex
 obtain ⟨b,off,vs,e,hb,hr,hc⟩:=(h1.rd hS).elem ExR.size h2 hi (by omega)
 obtain ⟨A',c',p,q,r,rfl,h3⟩:=ExAt.of hr
 exact ⟨b,off,A',c',p,q,r,e,hb,hc,h3⟩
theorem txts_app (a b:List Tok):txts (a ++b)=txts a ++txts b:=List.map_append
theorem txts_cons (a:Tok)(b:List Tok):txts (a::b)=a.2.1::txts b:=rfl
theorem txts_len (a:List Tok):(txts a).length=a.length:=List.length_map _
theorem tv_text {v:Val}(h:right v=true):(tv v).2.1=printV v:=by
 obtain ⟨k,n,s⟩:=v
 unfold printV
 rw [if_pos h]
 rcases right_cases h with ⟨e,e2⟩ | ⟨e,e2,e3⟩ | ⟨e,e2,e3⟩
 ·simp only at e
  subst e
  rfl
 ·simp only at e
  subst e
  show (tw (if n=1 then w_true else w_false)).2.1=if n=1 then w_true else w_false
  split <;> rfl
 ·simp only at e
  subst e
  rfl
def Run (f:Nat)(args:Array Value)(g:Nat)(T:List (List UInt8))(w:World):Prop:= ∀(w':World) (L:List (List UInt8)),Below g w w'→Pr w' g L→L.length+T.length≤1000000000→
 Calls Tryz.prog f args w' fun e w''=> e= .returned (.tuple #[])∧Pr w'' g (L ++T)∧PF g w' w''
theorem one_new {w:World}{o:Obj}:Below w.heap.size w (w.alloc o):=(Below.refl _ _).alloc (Nat.le_refl _) _
abbrev exB (k vk vn:Int)(vs n c:List UInt8)(o:Int)(a:Value)(p q r:Int):Obj:= .cells #[nv k,nv vk,nv vn,sv vs,sv n,sv c,nv o,a,nv p,nv q,nv r] 59 (0,0)
section
variable (k vk vn:Int) (vs nm cc:List UInt8) (o:Int) (A:Option Addr) (m c:Nat) (p q r:Int) (g:Nat) (w:World)
theorem brk_raw (lv least:Nat)(T:List (List UInt8))(hv: ∀w',Calls Tryz.prog 103 #[exVal k vk vn vs nm cc o (.slice A m c) p q r] w' fun e w''=> e= .returned (nv (lv:Nat))∧Below w'.heap.size w' w'')(hl:lv < least)
  (h0:Run 50 #[.pointer (some ⟨g,0,none⟩),exVal k vk vn vs nm cc o (.slice A m c) p q r,nv 0] g T w):
  Run 50 #[.pointer (some ⟨g,0,none⟩),exVal k vk vn vs nm cc o (.slice A m c) p q r,nv least] g ([40]::(T ++ [[41]])) w:=by
 intro w' L hbw hpr hlim
 have hlt:=hpr.lt
 try simp only [List.length_cons,List.length_append,List.length_nil]at hlim
 have HL:=Lib.hid hlim
 have HW:=Lib.hid hbw
 clear hlim hbw
 have dl:((lv:Nat):Int) < (least:Int):=by omega
 have H0:=Lib.hid h0
 have HV:=Lib.hid hv
 clear h0 hv
 go_enter Tryz.func50,Tryz.ntmps50
 go_upto_region 1 with fail
 have BX:Hid ((w'.alloc (exO k vk vn vs nm cc o (.slice A m c) p q r)).heap[w'.heap.size]? =some (exB k vk vn vs nm cc o (.slice A m c) p q r)):=Lib.hid (alloc_at rfl)
 have PW:=Lib.hid (hpr.next (one_new (o:=exO k vk vn vs nm cc o (.slice A m c) p q r)))
 have FW:Hid (PF g w' (w'.alloc (exO k vk vn vs nm cc o (.slice A m c) p q r))):=Lib.hid (.of_below one_new)
 clear hpr
 obtain ⟨w1,hw1⟩: ∃W,w'.alloc (exO k vk vn vs nm cc o (.slice A m c) p q r)=W:=⟨_,rfl⟩
 rw [hw1]at BX PW FW⊢
 clear hw1
 obtain ⟨⟨⟨⟨x0,x1⟩,x2,x3⟩,⟨x4,x5⟩,x6,x7⟩,⟨x8,x9⟩,x10⟩:=cells11 BX.out
 go_wp2_with fail
 refine (HV.out _).mono ?_;rintro e w2 ⟨rfl,b2⟩
 replace BX:=Lib.hid (box_next BX.out b2)
 replace PW:=Lib.hid (PW.out.next b2)
 replace FW:=Lib.hid (FW.out.then b2)
 clear b2
 clear x0 x1 x2 x3 x4 x5 x6 x7 x8 x9 x10
 obtain ⟨⟨⟨⟨x0,x1⟩,x2,x3⟩,⟨x4,x5⟩,x6,x7⟩,⟨x8,x9⟩,x10⟩:=cells11 BX.out
 go_wp2_with fail
 refine (put_any g _ _ _ [[40]] _ _ (PW.out.next one_new) (Rd.made _ _ rfl (by first | rfl | simp)) (by have:=HL.out;simp;omega)).mono ?_;rintro e w3 ⟨rfl,p3,f3⟩
 replace BX:=Lib.hid (f3.keep hlt (box_next BX.out one_new) (by decide))
 replace FW:=Lib.hid ((FW.out.then one_new).trans f3)
 replace PW:=Lib.hid p3
 clear p3 f3
 clear x0 x1 x2 x3 x4 x5 x6 x7 x8 x9 x10
 obtain ⟨⟨⟨⟨x0,x1⟩,x2,x3⟩,⟨x4,x5⟩,x6,x7⟩,⟨x8,x9⟩,x10⟩:=cells11 BX.out
 go_wp2_with fail
 refine (H0.out _ _ (HW.out.trans (FW.out.below (Nat.le_of_lt hlt))) PW.out (by have:=HL.out;simp;omega)).mono ?_;rintro e w4 ⟨rfl,p4,f4⟩
 replace BX:=Lib.hid (f4.keep hlt BX.out (by decide))
 replace FW:=Lib.hid (FW.out.trans f4)
 replace PW:=Lib.hid p4
 clear p4 f4
 clear x0 x1 x2 x3 x4 x5 x6 x7 x8 x9 x10
 obtain ⟨⟨⟨⟨x0,x1⟩,x2,x3⟩,⟨x4,x5⟩,x6,x7⟩,⟨x8,x9⟩,x10⟩:=cells11 BX.out
 go_wp2_with fail
 refine (put_any g _ _ _ [[41]] _ _ (PW.out.next one_new) (Rd.made _ _ rfl (by first | rfl | simp)) (by have:=HL.out;simp;omega)).mono ?_;rintro e w5 ⟨rfl,p5,f5⟩
 replace BX:=Lib.hid (f5.keep hlt (box_next BX.out one_new) (by decide))
 replace FW:=Lib.hid ((FW.out.then one_new).trans f5)
 replace PW:=Lib.hid p5
 clear p5 f5
 clear x0 x1 x2 x3 x4 x5 x6 x7 x8 x9 x10
 obtain ⟨⟨⟨⟨x0,x1⟩,x2,x3⟩,⟨x4,x5⟩,x6,x7⟩,⟨x8,x9⟩,x10⟩:=cells11 BX.out
 go_wp2_with fail
 first | go_end0 | refine bodyPost_ret (results_none rfl _ _ _) rfl ?_
 exact ⟨rfl,by simpa only [List.append_assoc,List.cons_append,List.nil_append]using PW.out,FW.out⟩
def Lev (v:Value)(lv:Nat):Prop:= ∀w',Calls Tryz.prog 103 #[v] w' fun e w''=> e= .returned (nv (lv:Nat))∧Below w'.heap.size w' w''
def Arg (g:Nat)(v:Value)(i:Int)(V:Value)(w:World):Prop:= ∀w',Below g w w'→Calls Tryz.prog 105 #[v,nv i] w' fun e w''=> e= .returned V∧Below w'.heap.size w' w''
theorem val_raw (lv least:Nat)(hv:Lev (exVal 1 vk vn vs nm cc o (.slice A m c) p q r) lv)(hl:least≤lv)(hs:vs.length≤1000000000)(hv1:-9223372036854775808≤vn)(hv2:vn≤9223372036854775807):
  Run 50 #[.pointer (some ⟨g,0,none⟩),exVal 1 vk vn vs nm cc o (.slice A m c) p q r,nv least] g [printV ⟨vk,vn,vs⟩] w:=by
 intro w' L hbw hpr hlim
 have hlt:=hpr.lt
 try simp only [List.length_cons,List.length_append,List.length_nil]at hlim
 have HL:=Lib.hid hlim
 have HW:=Lib.hid hbw
 clear hlim hbw
 have dl: ¬((lv:Nat):Int) < (least:Int):=by omega
 have HV:=Lib.hid hv
 clear hv
 go_enter Tryz.func50,Tryz.ntmps50
 go_upto_region 1 with fail
 have BX:Hid ((w'.alloc (exO 1 vk vn vs nm cc o (.slice A m c) p q r)).heap[w'.heap.size]? =some (exB 1 vk vn vs nm cc o (.slice A m c) p q r)):=Lib.hid (alloc_at rfl)
 have PW:=Lib.hid (hpr.next (one_new (o:=exO 1 vk vn vs nm cc o (.slice A m c) p q r)))
 have FW:Hid (PF g w' (w'.alloc (exO 1 vk vn vs nm cc o (.slice A m c) p q r))):=Lib.hid (.of_below one_new)
 clear hpr
 obtain ⟨w1,hw1⟩: ∃W,w'.alloc (exO 1 vk vn vs nm cc o (.slice A m c) p q r)=W:=⟨_,rfl⟩
 rw [hw1]at BX PW FW⊢
 clear hw1
 obtain ⟨⟨⟨⟨x0,x1⟩,x2,x3⟩,⟨x4,x5⟩,x6,x7⟩,⟨x8,x9⟩,x10⟩:=cells11 BX.out
 go_wp2_with fail
 refine (HV.out _).mono ?_;rintro e w2 ⟨rfl,b2⟩
 replace BX:=Lib.hid (box_next BX.out b2)
 replace PW:=Lib.hid (PW.out.next b2)
 replace FW:=Lib.hid (FW.out.then b2)
 clear b2
 clear x0 x1 x2 x3 x4 x5 x6 x7 x8 x9 x10
 obtain ⟨⟨⟨⟨x0,x1⟩,x2,x3⟩,⟨x4,x5⟩,x6,x7⟩,⟨x8,x9⟩,x10⟩:=cells11 BX.out
 go_wp2_with fail
 refine (print_any ⟨vk,vn,vs⟩ w2 hs hv1 hv2).mono ?_;rintro e w3 ⟨rfl,b3⟩
 replace BX:=Lib.hid (box_next BX.out b3)
 replace PW:=Lib.hid (PW.out.next b3)
 replace FW:=Lib.hid (FW.out.then b3)
 clear b3
 clear x0 x1 x2 x3 x4 x5 x6 x7 x8 x9 x10
 obtain ⟨⟨⟨⟨x0,x1⟩,x2,x3⟩,⟨x4,x5⟩,x6,x7⟩,⟨x8,x9⟩,x10⟩:=cells11 BX.out
 go_wp2_with fail
 refine (put_any g _ _ _ [printV ⟨vk,vn,vs⟩] _ _ (PW.out.next one_new) (Rd.made _ _ rfl (by first | rfl | simp)) (by have:=HL.out;simp;omega)).mono ?_;rintro e w4 ⟨rfl,p4,f4⟩
 replace BX:=Lib.hid (f4.keep hlt (box_next BX.out one_new) (by decide))
 replace FW:=Lib.hid ((FW.out.then one_new).trans f4)
 replace PW:=Lib.hid p4
 clear p4 f4
 clear x0 x1 x2 x3 x4 x5 x6 x7 x8 x9 x10
 obtain ⟨⟨⟨⟨x0,x1⟩,x2,x3⟩,⟨x4,x5⟩,x6,x7⟩,⟨x8,x9⟩,x10⟩:=cells11 BX.out
 go_wp2_with fail
 first | go_end0 | refine bodyPost_ret (results_none rfl _ _ _) rfl ?_
 exact ⟨rfl,by simpa only [List.append_assoc,List.cons_append,List.nil_append]using PW.out,FW.out⟩
theorem var_raw (lv least:Nat)(hv:Lev (exVal 2 vk vn vs nm cc o (.slice A m c) p q r) lv)(hl:least≤lv):
  Run 50 #[.pointer (some ⟨g,0,none⟩),exVal 2 vk vn vs nm cc o (.slice A m c) p q r,nv least] g [nm] w:=by
 intro w' L hbw hpr hlim
 have hlt:=hpr.lt
 try simp only [List.length_cons,List.length_append,List.length_nil]at hlim
 have HL:=Lib.hid hlim
 have HW:=Lib.hid hbw
 clear hlim hbw
 have dl: ¬((lv:Nat):Int) < (least:Int):=by omega
 have HV:=Lib.hid hv
 clear hv
 go_enter Tryz.func50,Tryz.ntmps50
 go_upto_region 1 with fail
 have BX:Hid ((w'.alloc (exO 2 vk vn vs nm cc o (.slice A m c) p q r)).heap[w'.heap.size]? =some (exB 2 vk vn vs nm cc o (.slice A m c) p q r)):=Lib.hid (alloc_at rfl)
 have PW:=Lib.hid (hpr.next (one_new (o:=exO 2 vk vn vs nm cc o (.slice A m c) p q r)))
 have FW:Hid (PF g w' (w'.alloc (exO 2 vk vn vs nm cc o (.slice A m c) p q r))):=Lib.hid (.of_below one_new)
 clear hpr
 obtain ⟨w1,hw1⟩: ∃W,w'.alloc (exO 2 vk vn vs nm cc o (.slice A m c) p q r)=W:=⟨_,rfl⟩
 rw [hw1]at BX PW FW⊢
 clear hw1
 obtain ⟨⟨⟨⟨x0,x1⟩,x2,x3⟩,⟨x4,x5⟩,x6,x7⟩,⟨x8,x9⟩,x10⟩:=cells11 BX.out
 go_wp2_with fail
 refine (HV.out _).mono ?_;rintro e w2 ⟨rfl,b2⟩
 replace BX:=Lib.hid (box_next BX.out b2)
 replace PW:=Lib.hid (PW.out.next b2)
 replace FW:=Lib.hid (FW.out.then b2)
 clear b2
 clear x0 x1 x2 x3 x4 x5 x6 x7 x8 x9 x10
 obtain ⟨⟨⟨⟨x0,x1⟩,x2,x3⟩,⟨x4,x5⟩,x6,x7⟩,⟨x8,x9⟩,x10⟩:=cells11 BX.out
 go_wp2_with fail
 refine (put_any g _ _ _ [nm] _ _ (PW.out.next one_new) (Rd.made _ _ rfl (by first | rfl | simp)) (by have:=HL.out;simp;omega)).mono ?_;rintro e w4 ⟨rfl,p4,f4⟩
 replace BX:=Lib.hid (f4.keep hlt (box_next BX.out one_new) (by decide))
 replace FW:=Lib.hid ((FW.out.then one_new).trans f4)
 replace PW:=Lib.hid p4
 clear p4 f4
 clear x0 x1 x2 x3 x4 x5 x6 x7 x8 x9 x10
 obtain ⟨⟨⟨⟨x0,x1⟩,x2,x3⟩,⟨x4,x5⟩,x6,x7⟩,⟨x8,x9⟩,x10⟩:=cells11 BX.out
 go_wp2_with fail
 first | go_end0 | refine bodyPost_ret (results_none rfl _ _ _) rfl ?_
 exact ⟨rfl,by simpa only [List.append_assoc,List.cons_append,List.nil_append]using PW.out,FW.out⟩
theorem cell_raw (lv least:Nat)(V:Value)(T:List (List UInt8))(hv:Lev (exVal 3 vk vn vs nm cc o (.slice A m c) p q r) lv)(hl:least≤lv)(ha:Arg g (exVal 3 vk vn vs nm cc o (.slice A m c) p q r) 0 V w)
  (hk:Run 104 #[.pointer (some ⟨g,0,none⟩),V] g T w):
  Run 50 #[.pointer (some ⟨g,0,none⟩),exVal 3 vk vn vs nm cc o (.slice A m c) p q r,nv least] g (nm::(T ++ [[46],cc])) w:=by
 intro w' L hbw hpr hlim
 have hlt:=hpr.lt
 try simp only [List.length_cons,List.length_append,List.length_nil]at hlim
 have HL:=Lib.hid hlim
 have HW:=Lib.hid hbw
 clear hlim hbw
 have HA:=Lib.hid ha
 have HK:=Lib.hid hk
 clear ha hk
 have dl: ¬((lv:Nat):Int) < (least:Int):=by omega
 have HV:=Lib.hid hv
 clear hv
 go_enter Tryz.func50,Tryz.ntmps50
 go_upto_region 1 with fail
 have BX:Hid ((w'.alloc (exO 3 vk vn vs nm cc o (.slice A m c) p q r)).heap[w'.heap.size]? =some (exB 3 vk vn vs nm cc o (.slice A m c) p q r)):=Lib.hid (alloc_at rfl)
 have PW:=Lib.hid (hpr.next (one_new (o:=exO 3 vk vn vs nm cc o (.slice A m c) p q r)))
 have FW:Hid (PF g w' (w'.alloc (exO 3 vk vn vs nm cc o (.slice A m c) p q r))):=Lib.hid (.of_below one_new)
 clear hpr
 obtain ⟨w1,hw1⟩: ∃W,w'.alloc (exO 3 vk vn vs nm cc o (.slice A m c) p q r)=W:=⟨_,rfl⟩
 rw [hw1]at BX PW FW⊢
 clear hw1
 obtain ⟨⟨⟨⟨x0,x1⟩,x2,x3⟩,⟨x4,x5⟩,x6,x7⟩,⟨x8,x9⟩,x10⟩:=cells11 BX.out
 go_wp2_with fail
 refine (HV.out _).mono ?_;rintro e w2 ⟨rfl,b2⟩
 replace BX:=Lib.hid (box_next BX.out b2)
 replace PW:=Lib.hid (PW.out.next b2)
 replace FW:=Lib.hid (FW.out.then b2)
 clear b2
 clear x0 x1 x2 x3 x4 x5 x6 x7 x8 x9 x10
 obtain ⟨⟨⟨⟨x0,x1⟩,x2,x3⟩,⟨x4,x5⟩,x6,x7⟩,⟨x8,x9⟩,x10⟩:=cells11 BX.out
 go_wp2_with fail
 refine (put_any g _ _ _ [nm] _ _ (PW.out.next one_new) (Rd.made _ _ rfl (by first | rfl | simp)) (by have:=HL.out;simp;omega)).mono ?_;rintro e w4 ⟨rfl,p4,f4⟩
 replace BX:=Lib.hid (f4.keep hlt (box_next BX.out one_new) (by decide))
 replace FW:=Lib.hid ((FW.out.then one_new).trans f4)
 replace PW:=Lib.hid p4
 clear p4 f4
 clear x0 x1 x2 x3 x4 x5 x6 x7 x8 x9 x10
 obtain ⟨⟨⟨⟨x0,x1⟩,x2,x3⟩,⟨x4,x5⟩,x6,x7⟩,⟨x8,x9⟩,x10⟩:=cells11 BX.out
 go_wp2_with fail
 refine (HA.out _ (HW.out.trans (FW.out.below (Nat.le_of_lt hlt)))).mono ?_;rintro e w5 ⟨rfl,b5⟩
 replace BX:=Lib.hid (box_next BX.out b5)
 replace PW:=Lib.hid (PW.out.next b5)
 replace FW:=Lib.hid (FW.out.then b5)
 clear b5
 clear x0 x1 x2 x3 x4 x5 x6 x7 x8 x9 x10
 obtain ⟨⟨⟨⟨x0,x1⟩,x2,x3⟩,⟨x4,x5⟩,x6,x7⟩,⟨x8,x9⟩,x10⟩:=cells11 BX.out
 go_wp2_with fail
 refine (HK.out _ _ (HW.out.trans (FW.out.below (Nat.le_of_lt hlt))) PW.out (by have:=HL.out;simp;omega)).mono ?_;rintro e w6 ⟨rfl,p6,f6⟩
 replace BX:=Lib.hid (f6.keep hlt BX.out (by decide))
 replace FW:=Lib.hid (FW.out.trans f6)
 replace PW:=Lib.hid p6
 clear p6 f6
 clear x0 x1 x2 x3 x4 x5 x6 x7 x8 x9 x10
 obtain ⟨⟨⟨⟨x0,x1⟩,x2,x3⟩,⟨x4,x5⟩,x6,x7⟩,⟨x8,x9⟩,x10⟩:=cells11 BX.out
 go_wp2_with fail
 refine (put_any g _ _ _ [[46],cc] _ _ (PW.out.next one_new) (Rd.made _ _ rfl (by first | rfl | simp)) (by have:=HL.out;simp;omega)).mono ?_;rintro e w7 ⟨rfl,p7,f7⟩
 replace BX:=Lib.hid (f7.keep hlt (box_next BX.out one_new) (by decide))
 replace FW:=Lib.hid ((FW.out.then one_new).trans f7)
 replace PW:=Lib.hid p7
 clear p7 f7
 clear x0 x1 x2 x3 x4 x5 x6 x7 x8 x9 x10
 obtain ⟨⟨⟨⟨x0,x1⟩,x2,x3⟩,⟨x4,x5⟩,x6,x7⟩,⟨x8,x9⟩,x10⟩:=cells11 BX.out
 go_wp2_with fail
 first | go_end0 | refine bodyPost_ret (results_none rfl _ _ _) rfl ?_
 exact ⟨rfl,by simpa only [List.append_assoc,List.cons_append,List.nil_append]using PW.out,FW.out⟩
theorem key_raw (T:List (List UInt8))(h0:Run 50 #[.pointer (some ⟨g,0,none⟩),exVal k vk vn vs nm cc o (.slice A m c) p q r,nv 0] g T w):
  Run 104 #[.pointer (some ⟨g,0,none⟩),exVal k vk vn vs nm cc o (.slice A m c) p q r] g ([91]::(T ++ [[93]])) w:=by
 intro w' L hbw hpr hlim
 have hlt:=hpr.lt
 try simp only [List.length_cons,List.length_append,List.length_nil]at hlim
 have HL:=Lib.hid hlim
 have HW:=Lib.hid hbw
 clear hlim hbw
 have H0:=Lib.hid h0
 clear h0
 go_enter Tryz.func104,Tryz.ntmps104
 go_upto_region 1 with fail
 have BX:Hid ((w'.alloc (exO k vk vn vs nm cc o (.slice A m c) p q r)).heap[w'.heap.size]? =some (exB k vk vn vs nm cc o (.slice A m c) p q r)):=Lib.hid (alloc_at rfl)
 have PW:=Lib.hid (hpr.next (one_new (o:=exO k vk vn vs nm cc o (.slice A m c) p q r)))
 have FW:Hid (PF g w' (w'.alloc (exO k vk vn vs nm cc o (.slice A m c) p q r))):=Lib.hid (.of_below one_new)
 clear hpr
 obtain ⟨w1,hw1⟩: ∃W,w'.alloc (exO k vk vn vs nm cc o (.slice A m c) p q r)=W:=⟨_,rfl⟩
 rw [hw1]at BX PW FW⊢
 clear hw1
 obtain ⟨⟨⟨⟨x0,x1⟩,x2,x3⟩,⟨x4,x5⟩,x6,x7⟩,⟨x8,x9⟩,x10⟩:=cells11 BX.out
 go_wp2_with fail
 refine (put_any g _ _ _ [[91]] _ _ (PW.out.next one_new) (Rd.made _ _ rfl (by first | rfl | simp)) (by have:=HL.out;simp;omega)).mono ?_;rintro e w3 ⟨rfl,p3,f3⟩
 replace BX:=Lib.hid (f3.keep hlt (box_next BX.out one_new) (by decide))
 replace FW:=Lib.hid ((FW.out.then one_new).trans f3)
 replace PW:=Lib.hid p3
 clear p3 f3
 clear x0 x1 x2 x3 x4 x5 x6 x7 x8 x9 x10
 obtain ⟨⟨⟨⟨x0,x1⟩,x2,x3⟩,⟨x4,x5⟩,x6,x7⟩,⟨x8,x9⟩,x10⟩:=cells11 BX.out
 go_wp2_with fail
 refine (H0.out _ _ (HW.out.trans (FW.out.below (Nat.le_of_lt hlt))) PW.out (by have:=HL.out;simp;omega)).mono ?_;rintro e w4 ⟨rfl,p4,f4⟩
 replace BX:=Lib.hid (f4.keep hlt BX.out (by decide))
 replace FW:=Lib.hid (FW.out.trans f4)
 replace PW:=Lib.hid p4
 clear p4 f4
 clear x0 x1 x2 x3 x4 x5 x6 x7 x8 x9 x10
 obtain ⟨⟨⟨⟨x0,x1⟩,x2,x3⟩,⟨x4,x5⟩,x6,x7⟩,⟨x8,x9⟩,x10⟩:=cells11 BX.out
 go_wp2_with fail
 refine (put_any g _ _ _ [[93]] _ _ (PW.out.next one_new) (Rd.made _ _ rfl (by first | rfl | simp)) (by have:=HL.out;simp;omega)).mono ?_;rintro e w5 ⟨rfl,p5,f5⟩
 replace BX:=Lib.hid (f5.keep hlt (box_next BX.out one_new) (by decide))
 replace FW:=Lib.hid ((FW.out.then one_new).trans f5)
 replace PW:=Lib.hid p5
 clear p5 f5
 clear x0 x1 x2 x3 x4 x5 x6 x7 x8 x9 x10
 obtain ⟨⟨⟨⟨x0,x1⟩,x2,x3⟩,⟨x4,x5⟩,x6,x7⟩,⟨x8,x9⟩,x10⟩:=cells11 BX.out
 go_wp2_with fail
 first | go_end0 | refine bodyPost_ret (results_none rfl _ _ _) rfl ?_
 exact ⟨rfl,by simpa only [List.append_assoc,List.cons_append,List.nil_append]using PW.out,FW.out⟩
theorem un_raw (op lv least:Nat)(hop:op=13∨op=14)(V:Value)(T:List (List UInt8))(hv:Lev (exVal 7 vk vn vs nm cc op (.slice A m c) p q r) lv)(hl:least≤lv)(ha:Arg g (exVal 7 vk vn vs nm cc op (.slice A m c) p q r) 0 V w)
  (hk:Run 50 #[.pointer (some ⟨g,0,none⟩),V,nv 6] g T w):
  Run 50 #[.pointer (some ⟨g,0,none⟩),exVal 7 vk vn vs nm cc op (.slice A m c) p q r,nv least] g ((if op=13 then [33]else [45])::T) w:=by
 intro w' L hbw hpr hlim
 have hlt:=hpr.lt
 try simp only [List.length_cons,List.length_append,List.length_nil]at hlim
 have HL:=Lib.hid hlim
 have HW:=Lib.hid hbw
 clear hlim hbw
 have HA:=Lib.hid ha
 have HK:=Lib.hid hk
 clear ha hk
 have dl: ¬((lv:Nat):Int) < (least:Int):=by omega
 have HV:=Lib.hid hv
 clear hv
 go_enter Tryz.func50,Tryz.ntmps50
 go_upto_region 1 with fail
 have BX:Hid ((w'.alloc (exO 7 vk vn vs nm cc op (.slice A m c) p q r)).heap[w'.heap.size]? =some (exB 7 vk vn vs nm cc op (.slice A m c) p q r)):=Lib.hid (alloc_at rfl)
 have PW:=Lib.hid (hpr.next (one_new (o:=exO 7 vk vn vs nm cc op (.slice A m c) p q r)))
 have FW:Hid (PF g w' (w'.alloc (exO 7 vk vn vs nm cc op (.slice A m c) p q r))):=Lib.hid (.of_below one_new)
 clear hpr
 obtain ⟨w1,hw1⟩: ∃W,w'.alloc (exO 7 vk vn vs nm cc op (.slice A m c) p q r)=W:=⟨_,rfl⟩
 rw [hw1]at BX PW FW⊢
 clear hw1
 obtain ⟨⟨⟨⟨x0,x1⟩,x2,x3⟩,⟨x4,x5⟩,x6,x7⟩,⟨x8,x9⟩,x10⟩:=cells11 BX.out
 go_wp2_with fail
 refine (HV.out _).mono ?_;rintro e w2 ⟨rfl,b2⟩
 replace BX:=Lib.hid (box_next BX.out b2)
 replace PW:=Lib.hid (PW.out.next b2)
 replace FW:=Lib.hid (FW.out.then b2)
 clear b2
 clear x0 x1 x2 x3 x4 x5 x6 x7 x8 x9 x10
 obtain ⟨⟨⟨⟨x0,x1⟩,x2,x3⟩,⟨x4,x5⟩,x6,x7⟩,⟨x8,x9⟩,x10⟩:=cells11 BX.out
 rcases hop with rfl | rfl
 ·go_wp2_with fail
  refine (put_any g _ _ _ [[33]] _ _ (PW.out.next one_new) (Rd.made _ _ rfl (by first | rfl | simp)) (by have:=HL.out;simp;omega)).mono ?_;rintro e w4 ⟨rfl,p4,f4⟩
  replace BX:=Lib.hid (f4.keep hlt (box_next BX.out one_new) (by decide))
  replace FW:=Lib.hid ((FW.out.then one_new).trans f4)
  replace PW:=Lib.hid p4
  clear p4 f4
  clear x0 x1 x2 x3 x4 x5 x6 x7 x8 x9 x10
  obtain ⟨⟨⟨⟨x0,x1⟩,x2,x3⟩,⟨x4,x5⟩,x6,x7⟩,⟨x8,x9⟩,x10⟩:=cells11 BX.out
  go_wp2_with fail
  refine (HA.out _ (HW.out.trans (FW.out.below (Nat.le_of_lt hlt)))).mono ?_;rintro e w5 ⟨rfl,b5⟩
  replace BX:=Lib.hid (box_next BX.out b5)
  replace PW:=Lib.hid (PW.out.next b5)
  replace FW:=Lib.hid (FW.out.then b5)
  clear b5
  clear x0 x1 x2 x3 x4 x5 x6 x7 x8 x9 x10
  obtain ⟨⟨⟨⟨x0,x1⟩,x2,x3⟩,⟨x4,x5⟩,x6,x7⟩,⟨x8,x9⟩,x10⟩:=cells11 BX.out
  go_wp2_with fail
  refine (HK.out _ _ (HW.out.trans (FW.out.below (Nat.le_of_lt hlt))) PW.out (by have:=HL.out;simp;omega)).mono ?_;rintro e w6 ⟨rfl,p6,f6⟩
  replace BX:=Lib.hid (f6.keep hlt BX.out (by decide))
  replace FW:=Lib.hid (FW.out.trans f6)
  replace PW:=Lib.hid p6
  clear p6 f6
  clear x0 x1 x2 x3 x4 x5 x6 x7 x8 x9 x10
  obtain ⟨⟨⟨⟨x0,x1⟩,x2,x3⟩,⟨x4,x5⟩,x6,x7⟩,⟨x8,x9⟩,x10⟩:=cells11 BX.out
  go_wp2_with fail
  first | go_end0 | refine bodyPost_ret (results_none rfl _ _ _) rfl ?_
  exact ⟨rfl,by simpa only [List.append_assoc,List.cons_append,List.nil_append]using PW.out,FW.out⟩
 ·go_wp2_with fail
  refine (put_any g _ _ _ [[45]] _ _ (PW.out.next one_new) (Rd.made _ _ rfl (by first | rfl | simp)) (by have:=HL.out;simp;omega)).mono ?_;rintro e w4 ⟨rfl,p4,f4⟩
  replace BX:=Lib.hid (f4.keep hlt (box_next BX.out one_new) (by decide))
  replace FW:=Lib.hid ((FW.out.then one_new).trans f4)
  replace PW:=Lib.hid p4
  clear p4 f4
  clear x0 x1 x2 x3 x4 x5 x6 x7 x8 x9 x10
  obtain ⟨⟨⟨⟨x0,x1⟩,x2,x3⟩,⟨x4,x5⟩,x6,x7⟩,⟨x8,x9⟩,x10⟩:=cells11 BX.out
  go_wp2_with fail
  refine (HA.out _ (HW.out.trans (FW.out.below (Nat.le_of_lt hlt)))).mono ?_;rintro e w5 ⟨rfl,b5⟩
  replace BX:=Lib.hid (box_next BX.out b5)
  replace PW:=Lib.hid (PW.out.next b5)
  replace FW:=Lib.hid (FW.out.then b5)
  clear b5
  clear x0 x1 x2 x3 x4 x5 x6 x7 x8 x9 x10
  obtain ⟨⟨⟨⟨x0,x1⟩,x2,x3⟩,⟨x4,x5⟩,x6,x7⟩,⟨x8,x9⟩,x10⟩:=cells11 BX.out
  go_wp2_with fail
  refine (HK.out _ _ (HW.out.trans (FW.out.below (Nat.le_of_lt hlt))) PW.out (by have:=HL.out;simp;omega)).mono ?_;rintro e w6 ⟨rfl,p6,f6⟩
  replace BX:=Lib.hid (f6.keep hlt BX.out (by decide))
  replace FW:=Lib.hid (FW.out.trans f6)
  replace PW:=Lib.hid p6
  clear p6 f6
  clear x0 x1 x2 x3 x4 x5 x6 x7 x8 x9 x10
  obtain ⟨⟨⟨⟨x0,x1⟩,x2,x3⟩,⟨x4,x5⟩,x6,x7⟩,⟨x8,x9⟩,x10⟩:=cells11 BX.out
  go_wp2_with fail
  first | go_end0 | refine bodyPost_ret (results_none rfl _ _ _) rfl ?_
  exact ⟨rfl,by simpa only [List.append_assoc,List.cons_append,List.nil_append]using PW.out,FW.out⟩
theorem bin_raw (op lv least:Nat)(hop:1≤op∧op≤12)(V U:Value)(T T2:List (List UInt8))(hv:Lev (exVal 8 vk vn vs nm cc op (.slice A m c) p q r) lv)(hl:least≤lv)(ha:Arg g (exVal 8 vk vn vs nm cc op (.slice A m c) p q r) 0 V w)(hb:Arg g (exVal 8 vk vn vs nm cc op (.slice A m c) p q r) 1 U w)
  (hk:Run 50 #[.pointer (some ⟨g,0,none⟩),V,nv (lvlS op)] g T w) (hk2:Run 50 #[.pointer (some ⟨g,0,none⟩),U,nv ((lvlS op+1:Nat):Int)] g T2 w):
  Run 50 #[.pointer (some ⟨g,0,none⟩),exVal 8 vk vn vs nm cc op (.slice A m c) p q r,nv least] g (T ++signS op::T2) w:=by
 intro w' L hbw hpr hlim
 have hlt:=hpr.lt
 try simp only [List.length_cons,List.length_append,List.length_nil]at hlim
 have HL:=Lib.hid hlim
 have HW:=Lib.hid hbw
 clear hlim hbw
 have hlv:=(lvlS_bound hop).2
 have HA:=Lib.hid ha
 have HA2:=Lib.hid hb
 have HK:=Lib.hid hk
 have HK2:=Lib.hid hk2
 clear ha hk hb hk2
 have dl: ¬((lv:Nat):Int) < (least:Int):=by omega
 have HV:=Lib.hid hv
 clear hv
 go_enter Tryz.func50,Tryz.ntmps50
 go_upto_region 1 with fail
 have BX:Hid ((w'.alloc (exO 8 vk vn vs nm cc op (.slice A m c) p q r)).heap[w'.heap.size]? =some (exB 8 vk vn vs nm cc op (.slice A m c) p q r)):=Lib.hid (alloc_at rfl)
 have PW:=Lib.hid (hpr.next (one_new (o:=exO 8 vk vn vs nm cc op (.slice A m c) p q r)))
 have FW:Hid (PF g w' (w'.alloc (exO 8 vk vn vs nm cc op (.slice A m c) p q r))):=Lib.hid (.of_below one_new)
 clear hpr
 obtain ⟨w1,hw1⟩: ∃W,w'.alloc (exO 8 vk vn vs nm cc op (.slice A m c) p q r)=W:=⟨_,rfl⟩
 rw [hw1]at BX PW FW⊢
 clear hw1
 obtain ⟨⟨⟨⟨x0,x1⟩,x2,x3⟩,⟨x4,x5⟩,x6,x7⟩,⟨x8,x9⟩,x10⟩:=cells11 BX.out
 go_wp2_with fail
 refine (HV.out _).mono ?_;rintro e w2 ⟨rfl,b2⟩
 replace BX:=Lib.hid (box_next BX.out b2)
 replace PW:=Lib.hid (PW.out.next b2)
 replace FW:=Lib.hid (FW.out.then b2)
 clear b2
 clear x0 x1 x2 x3 x4 x5 x6 x7 x8 x9 x10
 obtain ⟨⟨⟨⟨x0,x1⟩,x2,x3⟩,⟨x4,x5⟩,x6,x7⟩,⟨x8,x9⟩,x10⟩:=cells11 BX.out
 go_wp2_with fail
 refine (sign_any op hop _).mono ?_;rintro e w3 ⟨rfl,b3⟩
 replace BX:=Lib.hid (box_next BX.out b3)
 replace PW:=Lib.hid (PW.out.next b3)
 replace FW:=Lib.hid (FW.out.then b3)
 clear b3
 clear x0 x1 x2 x3 x4 x5 x6 x7 x8 x9 x10
 obtain ⟨⟨⟨⟨x0,x1⟩,x2,x3⟩,⟨x4,x5⟩,x6,x7⟩,⟨x8,x9⟩,x10⟩:=cells11 BX.out
 go_wp2_with fail
 refine (HA.out _ (HW.out.trans (FW.out.below (Nat.le_of_lt hlt)))).mono ?_;rintro e w5 ⟨rfl,b5⟩
 replace BX:=Lib.hid (box_next BX.out b5)
 replace PW:=Lib.hid (PW.out.next b5)
 replace FW:=Lib.hid (FW.out.then b5)
 clear b5
 clear x0 x1 x2 x3 x4 x5 x6 x7 x8 x9 x10
 obtain ⟨⟨⟨⟨x0,x1⟩,x2,x3⟩,⟨x4,x5⟩,x6,x7⟩,⟨x8,x9⟩,x10⟩:=cells11 BX.out
 go_wp2_with fail
 refine (HK.out _ _ (HW.out.trans (FW.out.below (Nat.le_of_lt hlt))) PW.out (by have:=HL.out;simp;omega)).mono ?_;rintro e w6 ⟨rfl,p6,f6⟩
 replace BX:=Lib.hid (f6.keep hlt BX.out (by decide))
 replace FW:=Lib.hid (FW.out.trans f6)
 replace PW:=Lib.hid p6
 clear p6 f6
 clear x0 x1 x2 x3 x4 x5 x6 x7 x8 x9 x10
 obtain ⟨⟨⟨⟨x0,x1⟩,x2,x3⟩,⟨x4,x5⟩,x6,x7⟩,⟨x8,x9⟩,x10⟩:=cells11 BX.out
 go_wp2_with fail
 refine (put_any g _ _ _ [signS op] _ _ (PW.out.next one_new) (Rd.made _ _ rfl (by first | rfl | simp)) (by have:=HL.out;simp;omega)).mono ?_;rintro e w7 ⟨rfl,p7,f7⟩
 replace BX:=Lib.hid (f7.keep hlt (box_next BX.out one_new) (by decide))
 replace FW:=Lib.hid ((FW.out.then one_new).trans f7)
 replace PW:=Lib.hid p7
 clear p7 f7
 clear x0 x1 x2 x3 x4 x5 x6 x7 x8 x9 x10
 obtain ⟨⟨⟨⟨x0,x1⟩,x2,x3⟩,⟨x4,x5⟩,x6,x7⟩,⟨x8,x9⟩,x10⟩:=cells11 BX.out
 go_wp2_with fail
 refine (HA2.out _ (HW.out.trans (FW.out.below (Nat.le_of_lt hlt)))).mono ?_;rintro e w8 ⟨rfl,b8⟩
 replace BX:=Lib.hid (box_next BX.out b8)
 replace PW:=Lib.hid (PW.out.next b8)
 replace FW:=Lib.hid (FW.out.then b8)
 clear b8
 clear x0 x1 x2 x3 x4 x5 x6 x7 x8 x9 x10
 obtain ⟨⟨⟨⟨x0,x1⟩,x2,x3⟩,⟨x4,x5⟩,x6,x7⟩,⟨x8,x9⟩,x10⟩:=cells11 BX.out
 go_wp2_with fail
 refine (HK2.out _ _ (HW.out.trans (FW.out.below (Nat.le_of_lt hlt))) PW.out (by have:=HL.out;simp;omega)).mono ?_;rintro e w9 ⟨rfl,p9,f9⟩
 replace BX:=Lib.hid (f9.keep hlt BX.out (by decide))
 replace FW:=Lib.hid (FW.out.trans f9)
 replace PW:=Lib.hid p9
 clear p9 f9
 clear x0 x1 x2 x3 x4 x5 x6 x7 x8 x9 x10
 obtain ⟨⟨⟨⟨x0,x1⟩,x2,x3⟩,⟨x4,x5⟩,x6,x7⟩,⟨x8,x9⟩,x10⟩:=cells11 BX.out
 go_wp2_with fail
 first | go_end0 | refine bodyPost_ret (results_none rfl _ _ _) rfl ?_
 exact ⟨rfl,by simpa only [List.append_assoc,List.cons_append,List.nil_append]using PW.out,FW.out⟩
theorem q4_raw (lv least:Nat)(T:List (List UInt8))(hv:Lev (exVal 4 vk vn vs nm cc o (.slice A m c) p q r) lv)(hl:least≤lv)
  (hk:Run 106 #[.pointer (some ⟨g,0,none⟩),sv [104,97,115],exVal 4 vk vn vs nm cc o (.slice A m c) p q r] g T w):
  Run 50 #[.pointer (some ⟨g,0,none⟩),exVal 4 vk vn vs nm cc o (.slice A m c) p q r,nv least] g T w:=by
 intro w' L hbw hpr hlim
 have hlt:=hpr.lt
 try simp only [List.length_cons,List.length_append,List.length_nil]at hlim
 have HL:=Lib.hid hlim
 have HW:=Lib.hid hbw
 clear hlim hbw
 have HK:=Lib.hid hk
 clear hk
 have dl: ¬((lv:Nat):Int) < (least:Int):=by omega
 have HV:=Lib.hid hv
 clear hv
 go_enter Tryz.func50,Tryz.ntmps50
 go_upto_region 1 with fail
 have BX:Hid ((w'.alloc (exO 4 vk vn vs nm cc o (.slice A m c) p q r)).heap[w'.heap.size]? =some (exB 4 vk vn vs nm cc o (.slice A m c) p q r)):=Lib.hid (alloc_at rfl)
 have PW:=Lib.hid (hpr.next (one_new (o:=exO 4 vk vn vs nm cc o (.slice A m c) p q r)))
 have FW:Hid (PF g w' (w'.alloc (exO 4 vk vn vs nm cc o (.slice A m c) p q r))):=Lib.hid (.of_below one_new)
 clear hpr
 obtain ⟨w1,hw1⟩: ∃W,w'.alloc (exO 4 vk vn vs nm cc o (.slice A m c) p q r)=W:=⟨_,rfl⟩
 rw [hw1]at BX PW FW⊢
 clear hw1
 obtain ⟨⟨⟨⟨x0,x1⟩,x2,x3⟩,⟨x4,x5⟩,x6,x7⟩,⟨x8,x9⟩,x10⟩:=cells11 BX.out
 go_wp2_with fail
 refine (HV.out _).mono ?_;rintro e w2 ⟨rfl,b2⟩
 replace BX:=Lib.hid (box_next BX.out b2)
 replace PW:=Lib.hid (PW.out.next b2)
 replace FW:=Lib.hid (FW.out.then b2)
 clear b2
 clear x0 x1 x2 x3 x4 x5 x6 x7 x8 x9 x10
 obtain ⟨⟨⟨⟨x0,x1⟩,x2,x3⟩,⟨x4,x5⟩,x6,x7⟩,⟨x8,x9⟩,x10⟩:=cells11 BX.out
 go_wp2_with fail
 refine (HK.out _ _ (HW.out.trans (FW.out.below (Nat.le_of_lt hlt))) PW.out (by have:=HL.out;simp;omega)).mono ?_;rintro e w6 ⟨rfl,p6,f6⟩
 replace BX:=Lib.hid (f6.keep hlt BX.out (by decide))
 replace FW:=Lib.hid (FW.out.trans f6)
 replace PW:=Lib.hid p6
 clear p6 f6
 clear x0 x1 x2 x3 x4 x5 x6 x7 x8 x9 x10
 obtain ⟨⟨⟨⟨x0,x1⟩,x2,x3⟩,⟨x4,x5⟩,x6,x7⟩,⟨x8,x9⟩,x10⟩:=cells11 BX.out
 go_wp2_with fail
 first | go_end0 | refine bodyPost_ret (results_none rfl _ _ _) rfl ?_
 exact ⟨rfl,by simpa only [List.append_assoc,List.cons_append,List.nil_append]using PW.out,FW.out⟩
theorem q5_raw (lv least:Nat)(T:List (List UInt8))(hv:Lev (exVal 5 vk vn vs nm cc o (.slice A m c) p q r) lv)(hl:least≤lv)
  (hk:Run 106 #[.pointer (some ⟨g,0,none⟩),sv [115,117,109],exVal 5 vk vn vs nm cc o (.slice A m c) p q r] g T w):
  Run 50 #[.pointer (some ⟨g,0,none⟩),exVal 5 vk vn vs nm cc o (.slice A m c) p q r,nv least] g T w:=by
 intro w' L hbw hpr hlim
 have hlt:=hpr.lt
 try simp only [List.length_cons,List.length_append,List.length_nil]at hlim
 have HL:=Lib.hid hlim
 have HW:=Lib.hid hbw
 clear hlim hbw
 have HK:=Lib.hid hk
 clear hk
 have dl: ¬((lv:Nat):Int) < (least:Int):=by omega
 have HV:=Lib.hid hv
 clear hv
 go_enter Tryz.func50,Tryz.ntmps50
 go_upto_region 1 with fail
 have BX:Hid ((w'.alloc (exO 5 vk vn vs nm cc o (.slice A m c) p q r)).heap[w'.heap.size]? =some (exB 5 vk vn vs nm cc o (.slice A m c) p q r)):=Lib.hid (alloc_at rfl)
 have PW:=Lib.hid (hpr.next (one_new (o:=exO 5 vk vn vs nm cc o (.slice A m c) p q r)))
 have FW:Hid (PF g w' (w'.alloc (exO 5 vk vn vs nm cc o (.slice A m c) p q r))):=Lib.hid (.of_below one_new)
 clear hpr
 obtain ⟨w1,hw1⟩: ∃W,w'.alloc (exO 5 vk vn vs nm cc o (.slice A m c) p q r)=W:=⟨_,rfl⟩
 rw [hw1]at BX PW FW⊢
 clear hw1
 obtain ⟨⟨⟨⟨x0,x1⟩,x2,x3⟩,⟨x4,x5⟩,x6,x7⟩,⟨x8,x9⟩,x10⟩:=cells11 BX.out
 go_wp2_with fail
 refine (HV.out _).mono ?_;rintro e w2 ⟨rfl,b2⟩
 replace BX:=Lib.hid (box_next BX.out b2)
 replace PW:=Lib.hid (PW.out.next b2)
 replace FW:=Lib.hid (FW.out.then b2)
 clear b2
 clear x0 x1 x2 x3 x4 x5 x6 x7 x8 x9 x10
 obtain ⟨⟨⟨⟨x0,x1⟩,x2,x3⟩,⟨x4,x5⟩,x6,x7⟩,⟨x8,x9⟩,x10⟩:=cells11 BX.out
 go_wp2_with fail
 refine (HK.out _ _ (HW.out.trans (FW.out.below (Nat.le_of_lt hlt))) PW.out (by have:=HL.out;simp;omega)).mono ?_;rintro e w6 ⟨rfl,p6,f6⟩
 replace BX:=Lib.hid (f6.keep hlt BX.out (by decide))
 replace FW:=Lib.hid (FW.out.trans f6)
 replace PW:=Lib.hid p6
 clear p6 f6
 clear x0 x1 x2 x3 x4 x5 x6 x7 x8 x9 x10
 obtain ⟨⟨⟨⟨x0,x1⟩,x2,x3⟩,⟨x4,x5⟩,x6,x7⟩,⟨x8,x9⟩,x10⟩:=cells11 BX.out
 go_wp2_with fail
 first | go_end0 | refine bodyPost_ret (results_none rfl _ _ _) rfl ?_
 exact ⟨rfl,by simpa only [List.append_assoc,List.cons_append,List.nil_append]using PW.out,FW.out⟩
theorem q6_raw (lv least:Nat)(T:List (List UInt8))(hv:Lev (exVal 6 vk vn vs nm cc o (.slice A m c) p q r) lv)(hl:least≤lv)
  (hk:Run 106 #[.pointer (some ⟨g,0,none⟩),sv [99,111,117,110,116],exVal 6 vk vn vs nm cc o (.slice A m c) p q r] g T w):
  Run 50 #[.pointer (some ⟨g,0,none⟩),exVal 6 vk vn vs nm cc o (.slice A m c) p q r,nv least] g T w:=by
 intro w' L hbw hpr hlim
 have hlt:=hpr.lt
 try simp only [List.length_cons,List.length_append,List.length_nil]at hlim
 have HL:=Lib.hid hlim
 have HW:=Lib.hid hbw
 clear hlim hbw
 have HK:=Lib.hid hk
 clear hk
 have dl: ¬((lv:Nat):Int) < (least:Int):=by omega
 have HV:=Lib.hid hv
 clear hv
 go_enter Tryz.func50,Tryz.ntmps50
 go_upto_region 1 with fail
 have BX:Hid ((w'.alloc (exO 6 vk vn vs nm cc o (.slice A m c) p q r)).heap[w'.heap.size]? =some (exB 6 vk vn vs nm cc o (.slice A m c) p q r)):=Lib.hid (alloc_at rfl)
 have PW:=Lib.hid (hpr.next (one_new (o:=exO 6 vk vn vs nm cc o (.slice A m c) p q r)))
 have FW:Hid (PF g w' (w'.alloc (exO 6 vk vn vs nm cc o (.slice A m c) p q r))):=Lib.hid (.of_below one_new)
 clear hpr
 obtain ⟨w1,hw1⟩: ∃W,w'.alloc (exO 6 vk vn vs nm cc o (.slice A m c) p q r)=W:=⟨_,rfl⟩
 rw [hw1]at BX PW FW⊢
 clear hw1
 obtain ⟨⟨⟨⟨x0,x1⟩,x2,x3⟩,⟨x4,x5⟩,x6,x7⟩,⟨x8,x9⟩,x10⟩:=cells11 BX.out
 go_wp2_with fail
 refine (HV.out _).mono ?_;rintro e w2 ⟨rfl,b2⟩
 replace BX:=Lib.hid (box_next BX.out b2)
 replace PW:=Lib.hid (PW.out.next b2)
 replace FW:=Lib.hid (FW.out.then b2)
 clear b2
 clear x0 x1 x2 x3 x4 x5 x6 x7 x8 x9 x10
 obtain ⟨⟨⟨⟨x0,x1⟩,x2,x3⟩,⟨x4,x5⟩,x6,x7⟩,⟨x8,x9⟩,x10⟩:=cells11 BX.out
 go_wp2_with fail
 refine (HK.out _ _ (HW.out.trans (FW.out.below (Nat.le_of_lt hlt))) PW.out (by have:=HL.out;simp;omega)).mono ?_;rintro e w6 ⟨rfl,p6,f6⟩
 replace BX:=Lib.hid (f6.keep hlt BX.out (by decide))
 replace FW:=Lib.hid (FW.out.trans f6)
 replace PW:=Lib.hid p6
 clear p6 f6
 clear x0 x1 x2 x3 x4 x5 x6 x7 x8 x9 x10
 obtain ⟨⟨⟨⟨x0,x1⟩,x2,x3⟩,⟨x4,x5⟩,x6,x7⟩,⟨x8,x9⟩,x10⟩:=cells11 BX.out
 go_wp2_with fail
 first | go_end0 | refine bodyPost_ret (results_none rfl _ _ _) rfl ?_
 exact ⟨rfl,by simpa only [List.append_assoc,List.cons_append,List.nil_append]using PW.out,FW.out⟩
end
end Go.Proofs.YtnbmpfdffoidaaaGreatDoor.Y
namespace Go.Proofs.YtnbmpfdffoidaaaGreatDoor.Y
open Go.RowKit O V S X
def argT (l:List Ex):List (List UInt8):=l.flatMap fun y=> [44]::txts (toks0 y)
theorem argT_snoc (l:List Ex)(y:Ex):argT (l ++ [y])=argT l ++ [44]::txts (toks0 y):=by unfold argT;rw [List.flatMap_append];simp
def callT (word:List UInt8)(x:Ex):List (List UInt8):=word::[40]::hdN x::((if hdK x=5 then [[46],hdC x]else []) ++(argT (parts x) ++ [[41]]))
theorem argT_len_le (l:List Ex)(k:Nat):(argT (l.take k)).length≤(argT l).length:=by
 conv=> rhs;rw [← List.take_append_drop k l]
 unfold argT
 rw [List.flatMap_append,List.length_append]
 omega
theorem argT_take_le {l:List Ex}{k:Nat}(h:k < l.length):(argT (l.take k)).length+1+(txts (toks0 l[k])).length≤(argT l).length:=by
 have:=argT_len_le l (k+1)
 rw [List.take_succ_eq_append_getElem h,argT_snoc,List.length_append,List.length_cons]at this
 omega
def PX (x:Ex)(least:Nat):Prop:= ∀(A:Option Addr) (c:Nat) (p q r:Int) (g:Nat) (S:Nat→Prop) (w:World),ExAt w S x A c→(∀b,S b→b < g)→g≤w.heap.size→
 Run 50 #[.pointer (some ⟨g,0,none⟩),exX x A c p q r,nv least] g (txts (toksX x least)) w
theorem prcall_any (x:Ex)(word:List UInt8)(A:Option Addr)(c:Nat)(p q r:Int)(g:Nat)(S:Nat→Prop)(w:World)(hat:ExAt w S x A c)(hS: ∀b,S b→b < g)(hgw:g≤w.heap.size)(hp: ∀y ∈ parts x,PX y 0):
  Run 106 #[.pointer (some ⟨g,0,none⟩),sv word,exX x A c p q r] g (callT word x) w:=by
 intro w' L hbw hpr hlim
 have hlt:=hpr.lt
 try simp only [List.length_cons,List.length_append,List.length_nil]at hlim
 have HL:=Lib.hid hlim
 have HW:=Lib.hid hbw
 clear hlim hbw
 have HA:=Lib.hid (hat.keep fun b hb=> HW.out.block b (hS b hb))
 have HS:=Lib.hid hS
 have HP:=Lib.hid hp
 have hpl:=parts_len x
 clear hat hS hp
 obtain ⟨K,hK⟩: ∃K,hdK x=K:=⟨_,rfl⟩
 have HK:=Lib.hid hK
 unfold exX
 rw [hK]
 clear hK
 go_enter Tryz.func106,Tryz.ntmps106
 go_upto_region 1 with fail
 have BX:Hid ((w'.alloc (exO K (hdV x).k (hdV x).n (hdV x).s (hdN x) (hdC x) (hdO x:Nat) (.slice A (parts x).length c) p q r)).heap[w'.heap.size]? =some (exB K (hdV x).k (hdV x).n (hdV x).s (hdN x) (hdC x) (hdO x:Nat) (.slice A (parts x).length c) p q r)):=Lib.hid (alloc_at rfl)
 have PW:=Lib.hid (hpr.next (one_new (o:=exO K (hdV x).k (hdV x).n (hdV x).s (hdN x) (hdC x) (hdO x:Nat) (.slice A (parts x).length c) p q r)))
 have FW:Hid (PF g w' (w'.alloc (exO K (hdV x).k (hdV x).n (hdV x).s (hdN x) (hdC x) (hdO x:Nat) (.slice A (parts x).length c) p q r))):=Lib.hid (.of_below one_new)
 clear hpr
 obtain ⟨w1,hw1⟩: ∃W,w'.alloc (exO K (hdV x).k (hdV x).n (hdV x).s (hdN x) (hdC x) (hdO x:Nat) (.slice A (parts x).length c) p q r)=W:=⟨_,rfl⟩
 rw [hw1]at BX PW FW⊢
 clear hw1
 obtain ⟨⟨⟨⟨x0,x1⟩,x2,x3⟩,⟨x4,x5⟩,x6,x7⟩,⟨x8,x9⟩,x10⟩:=cells11 BX.out
 have hlen:(callT word x).length=4+(argT (parts x)).length+(if K=5 then 2 else 0):=by
  unfold callT
  rw [HK.out]
  split <;> simp <;> omega
 replace HL:Hid (L.length+(4+(argT (parts x)).length+(if K=5 then 2 else 0))≤1000000000):=Lib.hid (by have:=HL.out;rw [hlen]at this;exact this)
 clear hlen
 go_wp2_with fail
 refine (put_any g _ _ _ [word,[40],hdN x] _ _ (PW.out.next one_new) (Rd.made _ _ rfl (by first | rfl | simp)) (by have:=HL.out;simp;omega)).mono ?_;rintro e w3 ⟨rfl,p3,f3⟩
 replace BX:=Lib.hid (f3.keep hlt (box_next BX.out one_new) (by decide))
 replace FW:=Lib.hid ((FW.out.then one_new).trans f3)
 replace PW:=Lib.hid p3
 clear p3 f3
 clear x0 x1 x2 x3 x4 x5 x6 x7 x8 x9 x10
 obtain ⟨⟨⟨⟨x0,x1⟩,x2,x3⟩,⟨x4,x5⟩,x6,x7⟩,⟨x8,x9⟩,x10⟩:=cells11 BX.out
 by_cases h5:K=5
 ·subst h5
  replace HL:Hid (L.length+(6+(argT (parts x)).length)≤1000000000):=Lib.hid (by have:=HL.out;rw [if_pos rfl]at this;omega)
  go_wp2_with fail
  refine (put_any g _ _ _ [[46],hdC x] _ _ (PW.out.next one_new) (Rd.made _ _ rfl (by first | rfl | simp)) (by have:=HL.out;simp;omega)).mono ?_;rintro e w4 ⟨rfl,p4,f4⟩
  replace BX:=Lib.hid (f4.keep hlt (box_next BX.out one_new) (by decide))
  replace FW:=Lib.hid ((FW.out.then one_new).trans f4)
  replace PW:=Lib.hid p4
  clear p4 f4
  clear x0 x1 x2 x3 x4 x5 x6 x7 x8 x9 x10
  obtain ⟨⟨⟨⟨x0,x1⟩,x2,x3⟩,⟨x4,x5⟩,x6,x7⟩,⟨x8,x9⟩,x10⟩:=cells11 BX.out
  go_wp2_with fail
  clear x0 x1 x2 x3 x4 x5 x6 x7 x8 x9 x10
  obtain ⟨L1,hL1⟩: ∃Z,L ++ [word,[40],hdN x] ++ [[46],hdC x]=Z:=⟨_,rfl⟩
  have hL1n:L1.length+(argT (parts x)).length+1≤1000000000:=by rw [← hL1];have:=HL.out;simp at this⊢;omega
  rw [hL1]at PW
  have HL1:=Lib.hid hL1
  clear hL1
  go_loopw [25] (fun i wr=> ∃k:Nat,k≤(parts x).length∧i= .int .i64 k∧Hid (Pr wr g (L1 ++argT ((parts x).take k)))∧Hid (PF g w' wr)) (fun i _=> (parts x).length - (intOf i).toNat)
  case atStart=> exact ⟨0,Nat.zero_le _,rfl,Lib.hid (by rw [List.take_zero];show Pr _ g (L1 ++ []);rw [List.append_nil];exact PW.out),FW⟩
  case round=>
   obtain ⟨k,hk,rfl,PR,FR⟩:=hrel
   clear PW FW BX
   by_cases hlk:k < (parts x).length
   ·have hat:=HA.out.keep fun b hb=> FR.out.low b (HS.out b hb) (by have:=HS.out b hb;have:=hlt;omega)
    obtain ⟨b,off,A',c',p',q',r',rfl,hb,hc,h3⟩:=hat.part HS.out hlk
    have hle:=argT_take_le hlk
    have hsn:argT ((parts x).take (k+1))=argT ((parts x).take k) ++ [44]::txts (toks0 (parts x)[k]):=by rw [List.take_succ_eq_append_getElem hlk,argT_snoc]
    have hpx:=HP.out (parts x)[k] (List.getElem_mem hlk)
    have HSN:=Lib.hid hsn
    have HLE:=Lib.hid hle
    have H3:=Lib.hid h3
    have HPX:=Lib.hid hpx
    clear hsn hle h3 hat hpx
    generalize (parts x)[k]=y at *
    generalize (parts x).length=n at *
    have y0:wr.cell? ⟨b,off+k * 11,none⟩=some (nv (hdK y)):=hc 0 (by omega)
    have y1:wr.cell? ⟨b,off+k * 11+1,none⟩=some (nv (hdV y).k):=hc 1 (by omega)
    have y2:wr.cell? ⟨b,off+k * 11+2,none⟩=some (nv (hdV y).n):=hc 2 (by omega)
    have y3:wr.cell? ⟨b,off+k * 11+3,none⟩=some (sv (hdV y).s):=hc 3 (by omega)
    have y4:wr.cell? ⟨b,off+k * 11+4,none⟩=some (sv (hdN y)):=hc 4 (by omega)
    have y5:wr.cell? ⟨b,off+k * 11+5,none⟩=some (sv (hdC y)):=hc 5 (by omega)
    have y6:wr.cell? ⟨b,off+k * 11+6,none⟩=some (nv (hdO y:Nat)):=hc 6 (by omega)
    have y7:wr.cell? ⟨b,off+k * 11+7,none⟩=some (.slice A' (parts y).length c'):=hc 7 (by omega)
    have y8:wr.cell? ⟨b,off+k * 11+8,none⟩=some (nv p'):=hc 8 (by omega)
    have y9:wr.cell? ⟨b,off+k * 11+9,none⟩=some (nv q'):=hc 9 (by omega)
    have y10:wr.cell? ⟨b,off+k * 11+10,none⟩=some (nv r'):=hc 10 (by omega)
    clear hc
    have hki:(k:Int) < (n:Int):=by omega
    have hgr:=PR.out.lt
    have hbr:b < wr.heap.size:=by omega
    go_upto_region 7 with fail
    have BX:Hid ((wr.alloc (exO (hdK y) (hdV y).k (hdV y).n (hdV y).s (hdN y) (hdC y) (hdO y:Nat) (.slice A' (parts y).length c') p' q' r')).heap[wr.heap.size]? =some (exB (hdK y) (hdV y).k (hdV y).n (hdV y).s (hdN y) (hdC y) (hdO y:Nat) (.slice A' (parts y).length c') p' q' r')):=Lib.hid (alloc_at rfl)
    have PW:=Lib.hid (PR.out.next (one_new (o:=exO (hdK y) (hdV y).k (hdV y).n (hdV y).s (hdN y) (hdC y) (hdO y:Nat) (.slice A' (parts y).length c') p' q' r')))
    have FW:Hid (PF g w' (wr.alloc (exO (hdK y) (hdV y).k (hdV y).n (hdV y).s (hdN y) (hdC y) (hdO y:Nat) (.slice A' (parts y).length c') p' q' r'))):=Lib.hid (FR.out.then one_new)
    go_wp2_with fail
    refine (put_any g _ _ _ [[44]] _ _ (PW.out.next one_new) (Rd.made _ _ rfl (by first | rfl | simp)) (by have:=HLE.out;simp;omega)).mono ?_;rintro e w5 ⟨rfl,p5,f5⟩
    replace BX:=Lib.hid (f5.keep hgr (box_next BX.out one_new) (by decide))
    replace FW:=Lib.hid ((FW.out.then one_new).trans f5)
    replace PW:=Lib.hid p5
    have F5:Hid (PF g wr w5):=Lib.hid (((PF.of_below one_new).then one_new).trans f5)
    clear p5 f5 y0 y1 y2 y3 y4 y5 y6 y7 y8 y9 y10 PR FR
    obtain ⟨⟨⟨⟨x0,x1⟩,x2,x3⟩,⟨x4,x5⟩,x6,x7⟩,⟨x8,x9⟩,x10⟩:=cells11 BX.out
    have hex:ExAt w5 S y A' c':=H3.out.keep fun b hb=> F5.out.low b (HS.out b hb) (by have:=HS.out b hb;omega)
    have HEX:=Lib.hid hex
    clear hex
    go_wp2_with fail
    refine (HPX.out A' c' p' q' r' g S w5 HEX.out HS.out (by have:=PW.out.lt;omega) w5 _ (Below.refl _ _) PW.out (by have:=HLE.out;rw [txts_len]at *;simp [toksX,br]at this⊢;omega)).mono ?_;rintro e w6 ⟨rfl,p6,f6⟩
    replace FW:=Lib.hid (FW.out.trans f6)
    replace PW:=Lib.hid p6
    clear p6 f6
    clear x0 x1 x2 x3 x4 x5 x6 x7 x8 x9 x10
    go_wp2_with fail
    go_roundw
    case rel=>
     refine ⟨k+1,by omega,by go_num,Lib.hid ?_,FW⟩
     have e0:toksX y 0=toks0 y:=by unfold toksX br;rw [if_neg (by omega)]
     have:=PW.out
     rw [e0]at this
     rw [HSN.out]
     simpa only [List.append_assoc,List.cons_append,List.nil_append]using this
    case measure=> simp [intOf];omega
   ·obtain rfl:k=(parts x).length:=by omega
    rw [List.take_length]at PR
    go_wp2_with fail
    refine (put_any g _ _ _ [[41]] _ _ (PR.out.next one_new) (Rd.made _ _ rfl (by first | rfl | simp)) (by simp;omega)).mono ?_;rintro e w5 ⟨rfl,p5,f5⟩
    go_wp2_with fail
    go_end0
    refine ⟨rfl,?_,(FR.out.then one_new).trans f5⟩
    rw [← HL1.out]at p5
    unfold callT
    rw [HK.out]
    first | rw [if_pos rfl] | rw [if_neg h5]
    simpa only [List.append_assoc,List.cons_append,List.nil_append]using p5
 ·replace HL:Hid (L.length+(4+(argT (parts x)).length)≤1000000000):=Lib.hid (by have:=HL.out;rw [if_neg h5]at this;omega)
  have d5:(K==5)=false:=by simpa using h5
  go_wp2_with fail
  clear x0 x1 x2 x3 x4 x5 x6 x7 x8 x9 x10
  obtain ⟨L1,hL1⟩: ∃Z,L ++ [word,[40],hdN x]=Z:=⟨_,rfl⟩
  have hL1n:L1.length+(argT (parts x)).length+1≤1000000000:=by rw [← hL1];have:=HL.out;simp at this⊢;omega
  rw [hL1]at PW
  have HL1:=Lib.hid hL1
  clear hL1
  go_loopw [25] (fun i wr=> ∃k:Nat,k≤(parts x).length∧i= .int .i64 k∧Hid (Pr wr g (L1 ++argT ((parts x).take k)))∧Hid (PF g w' wr)) (fun i _=> (parts x).length - (intOf i).toNat)
  case atStart=> exact ⟨0,Nat.zero_le _,rfl,Lib.hid (by rw [List.take_zero];show Pr _ g (L1 ++ []);rw [List.append_nil];exact PW.out),FW⟩
  case round=>
   obtain ⟨k,hk,rfl,PR,FR⟩:=hrel
   clear PW FW BX
   by_cases hlk:k < (parts x).length
   ·have hat:=HA.out.keep fun b hb=> FR.out.low b (HS.out b hb) (by have:=HS.out b hb;have:=hlt;omega)
    obtain ⟨b,off,A',c',p',q',r',rfl,hb,hc,h3⟩:=hat.part HS.out hlk
    have hle:=argT_take_le hlk
    have hsn:argT ((parts x).take (k+1))=argT ((parts x).take k) ++ [44]::txts (toks0 (parts x)[k]):=by rw [List.take_succ_eq_append_getElem hlk,argT_snoc]
    have hpx:=HP.out (parts x)[k] (List.getElem_mem hlk)
    have HSN:=Lib.hid hsn
    have HLE:=Lib.hid hle
    have H3:=Lib.hid h3
    have HPX:=Lib.hid hpx
    clear hsn hle h3 hat hpx
    generalize (parts x)[k]=y at *
    generalize (parts x).length=n at *
    have y0:wr.cell? ⟨b,off+k * 11,none⟩=some (nv (hdK y)):=hc 0 (by omega)
    have y1:wr.cell? ⟨b,off+k * 11+1,none⟩=some (nv (hdV y).k):=hc 1 (by omega)
    have y2:wr.cell? ⟨b,off+k * 11+2,none⟩=some (nv (hdV y).n):=hc 2 (by omega)
    have y3:wr.cell? ⟨b,off+k * 11+3,none⟩=some (sv (hdV y).s):=hc 3 (by omega)
    have y4:wr.cell? ⟨b,off+k * 11+4,none⟩=some (sv (hdN y)):=hc 4 (by omega)
    have y5:wr.cell? ⟨b,off+k * 11+5,none⟩=some (sv (hdC y)):=hc 5 (by omega)
    have y6:wr.cell? ⟨b,off+k * 11+6,none⟩=some (nv (hdO y:Nat)):=hc 6 (by omega)
    have y7:wr.cell? ⟨b,off+k * 11+7,none⟩=some (.slice A' (parts y).length c'):=hc 7 (by omega)
    have y8:wr.cell? ⟨b,off+k * 11+8,none⟩=some (nv p'):=hc 8 (by omega)
    have y9:wr.cell? ⟨b,off+k * 11+9,none⟩=some (nv q'):=hc 9 (by omega)
    have y10:wr.cell? ⟨b,off+k * 11+10,none⟩=some (nv r'):=hc 10 (by omega)
    clear hc
    have hki:(k:Int) < (n:Int):=by omega
    have hgr:=PR.out.lt
    have hbr:b < wr.heap.size:=by omega
    go_upto_region 7 with fail
    have BX:Hid ((wr.alloc (exO (hdK y) (hdV y).k (hdV y).n (hdV y).s (hdN y) (hdC y) (hdO y:Nat) (.slice A' (parts y).length c') p' q' r')).heap[wr.heap.size]? =some (exB (hdK y) (hdV y).k (hdV y).n (hdV y).s (hdN y) (hdC y) (hdO y:Nat) (.slice A' (parts y).length c') p' q' r')):=Lib.hid (alloc_at rfl)
    have PW:=Lib.hid (PR.out.next (one_new (o:=exO (hdK y) (hdV y).k (hdV y).n (hdV y).s (hdN y) (hdC y) (hdO y:Nat) (.slice A' (parts y).length c') p' q' r')))
    have FW:Hid (PF g w' (wr.alloc (exO (hdK y) (hdV y).k (hdV y).n (hdV y).s (hdN y) (hdC y) (hdO y:Nat) (.slice A' (parts y).length c') p' q' r'))):=Lib.hid (FR.out.then one_new)
    go_wp2_with fail
    refine (put_any g _ _ _ [[44]] _ _ (PW.out.next one_new) (Rd.made _ _ rfl (by first | rfl | simp)) (by have:=HLE.out;simp;omega)).mono ?_;rintro e w5 ⟨rfl,p5,f5⟩
    replace BX:=Lib.hid (f5.keep hgr (box_next BX.out one_new) (by decide))
    replace FW:=Lib.hid ((FW.out.then one_new).trans f5)
    replace PW:=Lib.hid p5
    have F5:Hid (PF g wr w5):=Lib.hid (((PF.of_below one_new).then one_new).trans f5)
    clear p5 f5 y0 y1 y2 y3 y4 y5 y6 y7 y8 y9 y10 PR FR
    obtain ⟨⟨⟨⟨x0,x1⟩,x2,x3⟩,⟨x4,x5⟩,x6,x7⟩,⟨x8,x9⟩,x10⟩:=cells11 BX.out
    have hex:ExAt w5 S y A' c':=H3.out.keep fun b hb=> F5.out.low b (HS.out b hb) (by have:=HS.out b hb;omega)
    have HEX:=Lib.hid hex
    clear hex
    go_wp2_with fail
    refine (HPX.out A' c' p' q' r' g S w5 HEX.out HS.out (by have:=PW.out.lt;omega) w5 _ (Below.refl _ _) PW.out (by have:=HLE.out;rw [txts_len]at *;simp [toksX,br]at this⊢;omega)).mono ?_;rintro e w6 ⟨rfl,p6,f6⟩
    replace FW:=Lib.hid (FW.out.trans f6)
    replace PW:=Lib.hid p6
    clear p6 f6
    clear x0 x1 x2 x3 x4 x5 x6 x7 x8 x9 x10
    go_wp2_with fail
    go_roundw
    case rel=>
     refine ⟨k+1,by omega,by go_num,Lib.hid ?_,FW⟩
     have e0:toksX y 0=toks0 y:=by unfold toksX br;rw [if_neg (by omega)]
     have:=PW.out
     rw [e0]at this
     rw [HSN.out]
     simpa only [List.append_assoc,List.cons_append,List.nil_append]using this
    case measure=> simp [intOf];omega
   ·obtain rfl:k=(parts x).length:=by omega
    rw [List.take_length]at PR
    go_wp2_with fail
    refine (put_any g _ _ _ [[41]] _ _ (PR.out.next one_new) (Rd.made _ _ rfl (by first | rfl | simp)) (by simp;omega)).mono ?_;rintro e w5 ⟨rfl,p5,f5⟩
    go_wp2_with fail
    go_end0
    refine ⟨rfl,?_,(FR.out.then one_new).trans f5⟩
    rw [← HL1.out]at p5
    unfold callT
    rw [HK.out]
    first | rw [if_pos rfl] | rw [if_neg h5]
    simpa only [List.append_assoc,List.cons_append,List.nil_append]using p5
end Go.Proofs.YtnbmpfdffoidaaaGreatDoor.Y
