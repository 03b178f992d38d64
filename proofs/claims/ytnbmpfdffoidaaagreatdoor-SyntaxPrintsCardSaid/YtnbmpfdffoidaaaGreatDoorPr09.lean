/- Texts of the proof, joined: SynRp, RfO, RfX. -/
import Derived.Test.YtnbmpfdffoidaaaGreatDoorPr02
import Derived.Test.YtnbmpfdffoidaaaGreatDoorPr06
import Derived.Test.YtnbmpfdffoidaaaGreatDoorPr08
set_option linter.unusedVariables false
set_option linter.unusedSimpArgs false
set_option maxHeartbeats 8000000
set_option maxRecDepth 100000
namespace Go.Proofs.YtnbmpfdffoidaaaGreatDoor.Y
open Go.RowKit O V S X
def sp (l:List Tok):List UInt8:=l.flatMap fun t=> t.2.1 ++ [32]
theorem sp_nil:sp []=[]:=rfl
theorem sp_cons (t:Tok)(l:List Tok):sp (t::l)=t.2.1 ++32::sp l:=by unfold sp;rw [List.flatMap_cons,List.append_assoc];rfl
theorem sp_app (l m:List Tok):sp (l ++m)=sp l ++sp m:=by unfold sp;exact List.flatMap_append
theorem binds_any (op:Nat)(hop:1≤op∧op≤12)(w:World):Calls Tryz.prog 124 #[nv op] w fun e w'=> e= .returned (nv (lvlS op))∧w'=w:=by
 have hk:op=1∨op=2∨op=3∨op=4∨op=5∨op=6∨op=7∨op=8∨op=9∨op=10∨op=11∨op=12:=by omega
 rcases hk with rfl | rfl | rfl | rfl | rfl | rfl | rfl | rfl | rfl | rfl | rfl | rfl
 all_goals
  go_enter Tryz.func124,Tryz.ntmps124
  go_wp2_with fail
  go_ret
  exact ⟨rfl,rfl⟩
theorem rsign_any (op:Nat)(hop:1≤op∧op≤12)(w:World):Calls Tryz.prog 126 #[nv op] w fun e w'=> e= .returned (sv (signS op))∧w'=w:=by
 have hk:op=1∨op=2∨op=3∨op=4∨op=5∨op=6∨op=7∨op=8∨op=9∨op=10∨op=11∨op=12:=by omega
 rcases hk with rfl | rfl | rfl | rfl | rfl | rfl | rfl | rfl | rfl | rfl | rfl | rfl
 all_goals
  go_enter Tryz.func126,Tryz.ntmps126
  go_wp2_with fail
  go_ret
  exact ⟨rfl,rfl⟩
theorem part_raw (b off n c i:Nat){z:Int}(hz:z=i)(hi:i < n)(hn:n≤1000)(uk uvk uvn:Int)(us un uc:List UInt8)(uo:Int)(uA:Option Addr)(um ud:Nat)(up uq ur:Int)(w:World)(hb:b < w.heap.size)
  (hc: ∀j,j < 11→w.cell? ⟨b,off+i * 11+j,none⟩=[nv uk,nv uvk,nv uvn,sv us,sv un,sv uc,nv uo,.slice uA um ud,nv up,nv uq,nv ur][j]?):
  Calls Tryz.prog 74 #[.slice (some ⟨b,off,none⟩) n c,.int .i64 z] w fun e w'=> e= .returned (exVal uk uvk uvn us un uc uo (.slice uA um ud) up uq ur)∧Below w.heap.size w w':=by
 subst hz
 have y0:w.cell? ⟨b,off+i * 11,none⟩=some (nv uk):=hc 0 (by omega)
 have y1:w.cell? ⟨b,off+i * 11+1,none⟩=some (nv uvk):=hc 1 (by omega)
 have y2:w.cell? ⟨b,off+i * 11+2,none⟩=some (nv uvn):=hc 2 (by omega)
 have y3:w.cell? ⟨b,off+i * 11+3,none⟩=some (sv us):=hc 3 (by omega)
 have y4:w.cell? ⟨b,off+i * 11+4,none⟩=some (sv un):=hc 4 (by omega)
 have y5:w.cell? ⟨b,off+i * 11+5,none⟩=some (sv uc):=hc 5 (by omega)
 have y6:w.cell? ⟨b,off+i * 11+6,none⟩=some (nv uo):=hc 6 (by omega)
 have y7:w.cell? ⟨b,off+i * 11+7,none⟩=some (.slice uA um ud):=hc 7 (by omega)
 have y8:w.cell? ⟨b,off+i * 11+8,none⟩=some (nv up):=hc 8 (by omega)
 have y9:w.cell? ⟨b,off+i * 11+9,none⟩=some (nv uq):=hc 9 (by omega)
 have y10:w.cell? ⟨b,off+i * 11+10,none⟩=some (nv ur):=hc 10 (by omega)
 clear hc
 have hki:(i:Int) < (n:Int):=by omega
 go_enter Tryz.func74,Tryz.ntmps74
 go_wp2_with fail
 refine bodyPost_ret (v:=exVal uk uvk uvn us un uc uo (.slice uA um ud) up uq ur) (by simp [results,Tryz.results74,go_sem]) rfl ?_
 refine ⟨rfl,?_⟩
 repeat (first | (with_reducible exact Below.refl _ _) | (with_reducible assumption) | refine Below.setCell ?_ (by simp <;> omega) _ | refine Below.alloc ?_ (by simp <;> omega) _ | refine Below.drew ?_)
def RunE (f:Nat)(args:Array Value)(T:List UInt8)(w:World):Prop:= ∀w',Below w.heap.size w w'→Calls Tryz.prog f args w' fun e w''=> e= .returned (sv T)∧Below w'.heap.size w' w''
def PartE (A:Value)(i:Int)(V:Value)(w:World):Prop:= ∀w',Below w.heap.size w w'→Calls Tryz.prog 74 #[A,nv i] w' fun e w''=> e= .returned V∧Below w'.heap.size w' w''
section
variable (k vk vn:Int) (vs nm cc:List UInt8) (o:Int) (A:Option Addr) (m c:Nat) (p q r:Int) (w:World)
theorem rbrk_leaf (least:Nat)(T:List UInt8)(h7:k≠7)(h8:k≠8)(hl:7 < least)(hT:T.length≤1000000000)
  (h0:RunE 73 #[exVal k vk vn vs nm cc o (.slice A m c) p q r,nv 0] T w):
  RunE 73 #[exVal k vk vn vs nm cc o (.slice A m c) p q r,nv least] ([40,32] ++T ++ [41,32]) w:=by
 intro w' hbw
 have HW:=Lib.hid hbw
 clear hbw
 have dl:(7:Int) < (least:Int):=by omega
 have H0:=Lib.hid h0
 clear h0
 go_enter Tryz.func73,Tryz.ntmps73
 go_upto_region 1 with fail
 have BX:Hid ((w'.alloc (exO k vk vn vs nm cc o (.slice A m c) p q r)).heap[w'.heap.size]? =some (exB k vk vn vs nm cc o (.slice A m c) p q r)):=Lib.hid (alloc_at rfl)
 have FW:Hid (Below w'.heap.size w' (w'.alloc (exO k vk vn vs nm cc o (.slice A m c) p q r))):=Lib.hid one_new
 obtain ⟨w1,hw1⟩: ∃W,w'.alloc (exO k vk vn vs nm cc o (.slice A m c) p q r)=W:=⟨_,rfl⟩
 rw [hw1]at BX FW⊢
 clear hw1
 obtain ⟨⟨⟨⟨x0,x1⟩,x2,x3⟩,⟨x4,x5⟩,x6,x7⟩,⟨x8,x9⟩,x10⟩:=cells11 BX.out
 go_wp2_with fail
 refine (H0.out w1 (bthen HW.out FW.out)).mono ?_;rintro e w2 ⟨rfl,b2⟩
 go_wp2_with fail
 go_ret
 refine ⟨?_,bthen FW.out b2⟩
 show Ending.returned (.string (ByteArray.mk [40,32].toArray ++ByteArray.mk T.toArray ++ByteArray.mk [41,32].toArray))=_
 rw [ba_append,ba_append]
 simp
theorem rbrk_un (least:Nat)(T:List UInt8)(hl:6 < least)(hT:T.length≤1000000000)
  (h0:RunE 73 #[exVal 7 vk vn vs nm cc o (.slice A m c) p q r,nv 0] T w):
  RunE 73 #[exVal 7 vk vn vs nm cc o (.slice A m c) p q r,nv least] ([40,32] ++T ++ [41,32]) w:=by
 intro w' hbw
 have HW:=Lib.hid hbw
 clear hbw
 have dl:(6:Int) < (least:Int):=by omega
 have H0:=Lib.hid h0
 clear h0
 go_enter Tryz.func73,Tryz.ntmps73
 go_upto_region 1 with fail
 have BX:Hid ((w'.alloc (exO 7 vk vn vs nm cc o (.slice A m c) p q r)).heap[w'.heap.size]? =some (exB 7 vk vn vs nm cc o (.slice A m c) p q r)):=Lib.hid (alloc_at rfl)
 have FW:Hid (Below w'.heap.size w' (w'.alloc (exO 7 vk vn vs nm cc o (.slice A m c) p q r))):=Lib.hid one_new
 obtain ⟨w1,hw1⟩: ∃W,w'.alloc (exO 7 vk vn vs nm cc o (.slice A m c) p q r)=W:=⟨_,rfl⟩
 rw [hw1]at BX FW⊢
 clear hw1
 obtain ⟨⟨⟨⟨x0,x1⟩,x2,x3⟩,⟨x4,x5⟩,x6,x7⟩,⟨x8,x9⟩,x10⟩:=cells11 BX.out
 go_wp2_with fail
 refine (H0.out w1 (bthen HW.out FW.out)).mono ?_;rintro e w2 ⟨rfl,b2⟩
 go_wp2_with fail
 go_ret
 refine ⟨?_,bthen FW.out b2⟩
 show Ending.returned (.string (ByteArray.mk [40,32].toArray ++ByteArray.mk T.toArray ++ByteArray.mk [41,32].toArray))=_
 rw [ba_append,ba_append]
 simp
theorem rbrk_bin (op least:Nat)(hop:1≤op∧op≤12)(T:List UInt8)(hl:lvlS op < least)(hT:T.length≤1000000000)
  (h0:RunE 73 #[exVal 8 vk vn vs nm cc op (.slice A m c) p q r,nv 0] T w):
  RunE 73 #[exVal 8 vk vn vs nm cc op (.slice A m c) p q r,nv least] ([40,32] ++T ++ [41,32]) w:=by
 intro w' hbw
 have HW:=Lib.hid hbw
 clear hbw
 have dl:((lvlS op:Nat):Int) < (least:Int):=by omega
 have H0:=Lib.hid h0
 clear h0
 go_enter Tryz.func73,Tryz.ntmps73
 go_upto_region 1 with fail
 have BX:Hid ((w'.alloc (exO 8 vk vn vs nm cc op (.slice A m c) p q r)).heap[w'.heap.size]? =some (exB 8 vk vn vs nm cc op (.slice A m c) p q r)):=Lib.hid (alloc_at rfl)
 have FW:Hid (Below w'.heap.size w' (w'.alloc (exO 8 vk vn vs nm cc op (.slice A m c) p q r))):=Lib.hid one_new
 obtain ⟨w1,hw1⟩: ∃W,w'.alloc (exO 8 vk vn vs nm cc op (.slice A m c) p q r)=W:=⟨_,rfl⟩
 rw [hw1]at BX FW⊢
 clear hw1
 obtain ⟨⟨⟨⟨x0,x1⟩,x2,x3⟩,⟨x4,x5⟩,x6,x7⟩,⟨x8,x9⟩,x10⟩:=cells11 BX.out
 go_wp2_with fail
 refine (binds_any op hop _).mono ?_;rintro e w3 ⟨rfl,rfl⟩
 go_wp2_with fail
 refine (H0.out w3 (bthen HW.out FW.out)).mono ?_;rintro e w2 ⟨rfl,b2⟩
 go_wp2_with fail
 go_ret
 refine ⟨?_,bthen FW.out b2⟩
 show Ending.returned (.string (ByteArray.mk [40,32].toArray ++ByteArray.mk T.toArray ++ByteArray.mk [41,32].toArray))=_
 rw [ba_append,ba_append]
 simp
theorem rval_raw (least:Nat)(hl:least≤7)(hs:vs.length≤100000000)(hv1:-9223372036854775808≤vn)(hv2:vn≤9223372036854775807)(hT:(printV ⟨vk,vn,vs⟩).length≤1000000000):
  RunE 73 #[exVal 1 vk vn vs nm cc o (.slice A m c) p q r,nv least] (printV ⟨vk,vn,vs⟩ ++ [32]) w:=by
 intro w' hbw
 have HW:=Lib.hid hbw
 clear hbw
 have dl: ¬(7:Int) < (least:Int):=by omega
 go_enter Tryz.func73,Tryz.ntmps73
 go_upto_region 1 with fail
 have BX:Hid ((w'.alloc (exO 1 vk vn vs nm cc o (.slice A m c) p q r)).heap[w'.heap.size]? =some (exB 1 vk vn vs nm cc o (.slice A m c) p q r)):=Lib.hid (alloc_at rfl)
 have FW:Hid (Below w'.heap.size w' (w'.alloc (exO 1 vk vn vs nm cc o (.slice A m c) p q r))):=Lib.hid one_new
 obtain ⟨w1,hw1⟩: ∃W,w'.alloc (exO 1 vk vn vs nm cc o (.slice A m c) p q r)=W:=⟨_,rfl⟩
 rw [hw1]at BX FW⊢
 clear hw1
 obtain ⟨⟨⟨⟨x0,x1⟩,x2,x3⟩,⟨x4,x5⟩,x6,x7⟩,⟨x8,x9⟩,x10⟩:=cells11 BX.out
 go_wp2_with fail
 refine (rprint_any ⟨vk,vn,vs⟩ w1 hs hv1 hv2).mono ?_;rintro e w3 ⟨rfl,b3⟩
 go_wp2_with fail
 go_ret
 refine ⟨?_,bthen FW.out b3⟩
 show Ending.returned (.string (ByteArray.mk (printV ⟨vk,vn,vs⟩).toArray ++ByteArray.mk [32].toArray))=_
 rw [ba_append]
theorem rvar_raw (least:Nat)(hl:least≤7)(hn:nm.length≤1000000000):
  RunE 73 #[exVal 2 vk vn vs nm cc o (.slice A m c) p q r,nv least] (nm ++ [32]) w:=by
 intro w' hbw
 have HW:=Lib.hid hbw
 clear hbw
 have dl: ¬(7:Int) < (least:Int):=by omega
 go_enter Tryz.func73,Tryz.ntmps73
 go_upto_region 1 with fail
 have BX:Hid ((w'.alloc (exO 2 vk vn vs nm cc o (.slice A m c) p q r)).heap[w'.heap.size]? =some (exB 2 vk vn vs nm cc o (.slice A m c) p q r)):=Lib.hid (alloc_at rfl)
 have FW:Hid (Below w'.heap.size w' (w'.alloc (exO 2 vk vn vs nm cc o (.slice A m c) p q r))):=Lib.hid one_new
 obtain ⟨w1,hw1⟩: ∃W,w'.alloc (exO 2 vk vn vs nm cc o (.slice A m c) p q r)=W:=⟨_,rfl⟩
 rw [hw1]at BX FW⊢
 clear hw1
 obtain ⟨⟨⟨⟨x0,x1⟩,x2,x3⟩,⟨x4,x5⟩,x6,x7⟩,⟨x8,x9⟩,x10⟩:=cells11 BX.out
 go_wp2_with fail
 go_ret
 refine ⟨?_,FW.out⟩
 show Ending.returned (.string (ByteArray.mk nm.toArray ++ByteArray.mk [32].toArray))=_
 rw [ba_append]
theorem rcell_raw (least:Nat)(hl:least≤7)(hn:nm.length≤100000000)(hc:cc.length≤100000000)(V:Value)(T:List UInt8)(hT:T.length≤100000000)(hp:PartE (.slice A m c) 0 V w)(h0:RunE 73 #[V,nv 0] T w):
  RunE 73 #[exVal 3 vk vn vs nm cc o (.slice A m c) p q r,nv least] (nm ++ [32,91,32] ++T ++ [93,32,46,32] ++cc ++ [32]) w:=by
 intro w' hbw
 have HW:=Lib.hid hbw
 clear hbw
 have dl: ¬(7:Int) < (least:Int):=by omega
 have H0:=Lib.hid h0
 have HP:=Lib.hid hp
 clear h0 hp
 go_enter Tryz.func73,Tryz.ntmps73
 go_upto_region 1 with fail
 have BX:Hid ((w'.alloc (exO 3 vk vn vs nm cc o (.slice A m c) p q r)).heap[w'.heap.size]? =some (exB 3 vk vn vs nm cc o (.slice A m c) p q r)):=Lib.hid (alloc_at rfl)
 have FW:Hid (Below w'.heap.size w' (w'.alloc (exO 3 vk vn vs nm cc o (.slice A m c) p q r))):=Lib.hid one_new
 obtain ⟨w1,hw1⟩: ∃W,w'.alloc (exO 3 vk vn vs nm cc o (.slice A m c) p q r)=W:=⟨_,rfl⟩
 rw [hw1]at BX FW⊢
 clear hw1
 obtain ⟨⟨⟨⟨x0,x1⟩,x2,x3⟩,⟨x4,x5⟩,x6,x7⟩,⟨x8,x9⟩,x10⟩:=cells11 BX.out
 go_wp2_with fail
 have BD:Below w1.heap.size w1 w1.drew:=(Below.refl _ _).drew
 refine wp_region_sched [(0,true),(1,true),(2,true),(3,true),(4,true),(9,true),(10,true),(5,false),(6,false),(7,true),(8,true),(11,true),(12,true),(13,true)] (by kernel_rfl) (by kernel_rfl) (fun _ _ d _ _ h=> by cases d <;> exact h) ?_
 refine swith (fun W hW=> (cells11 (box_next BX.out ((Below.refl _ _).drew.trans hW.out)))) (fun qx=> ?_)
 repeat (first | (refine srE ?_;simp only [Act.put,sA,sB,sC]) | (refine skE ?_;simp only [Act.put,sA,sB,sC]))
 refine scall rfl rfl (fun K hK=> ?_)
 go_simp
 refine (HP.out _ (bthen (bthen HW.out FW.out) BD)).mono ?_;rintro e w5 ⟨rfl,b5⟩
 go_wp2_with fail
 refine hK.out _ _ (by exact b5) ?_
 clear hK K
 try simp only [Act.put,sA,sB,sC]
 replace qx:=fun (W:World) (hW:Grow w5 W)=> qx W (Grow.trans (b5) hW)
 have B5:=bthen BD b5
 repeat (first | (refine srE ?_;simp only [Act.put,sA,sB,sC]) | (refine skE ?_;simp only [Act.put,sA,sB,sC]))
 refine scall rfl rfl (fun K hK=> ?_)
 go_simp
 refine (H0.out _ (bthen (bthen HW.out FW.out) B5)).mono ?_;rintro e w6 ⟨rfl,b6⟩
 go_wp2_with fail
 refine hK.out _ _ (by exact b6) ?_
 clear hK K
 try simp only [Act.put,sA,sB,sC]
 replace qx:=fun (W:World) (hW:Grow w6 W)=> qx W (Grow.trans (b6) hW)
 have B6:=bthen B5 b6
 repeat (first | (refine srE ?_;simp only [Act.put,sA,sB,sC]) | (refine skE ?_;simp only [Act.put,sA,sB,sC]))
 refine sdone ?_
 go_wp2_with fail
 go_ret
 refine ⟨?_,bthen FW.out B6⟩
 show Ending.returned (.string (ByteArray.mk nm.toArray ++ByteArray.mk [32,91,32].toArray ++ByteArray.mk T.toArray ++ByteArray.mk [93,32,46,32].toArray ++ByteArray.mk cc.toArray ++ByteArray.mk [32].toArray))=_
 rw [ba_append,ba_append,ba_append,ba_append,ba_append]
theorem run_raw (op least:Nat)(hop:op=13∨op=14)(hl:least≤6)(V:Value)(T:List UInt8)(hT:T.length≤100000000)(hp:PartE (.slice A m c) 0 V w)(h0:RunE 73 #[V,nv 6] T w):
  RunE 73 #[exVal 7 vk vn vs nm cc op (.slice A m c) p q r,nv least] ((if op=13 then [33,32]else [45,32]) ++T) w:=by
 intro w' hbw
 have HW:=Lib.hid hbw
 clear hbw
 have dl: ¬(6:Int) < (least:Int):=by omega
 have H0:=Lib.hid h0
 have HP:=Lib.hid hp
 clear h0 hp
 go_enter Tryz.func73,Tryz.ntmps73
 go_upto_region 1 with fail
 have BX:Hid ((w'.alloc (exO 7 vk vn vs nm cc op (.slice A m c) p q r)).heap[w'.heap.size]? =some (exB 7 vk vn vs nm cc op (.slice A m c) p q r)):=Lib.hid (alloc_at rfl)
 have FW:Hid (Below w'.heap.size w' (w'.alloc (exO 7 vk vn vs nm cc op (.slice A m c) p q r))):=Lib.hid one_new
 obtain ⟨w1,hw1⟩: ∃W,w'.alloc (exO 7 vk vn vs nm cc op (.slice A m c) p q r)=W:=⟨_,rfl⟩
 rw [hw1]at BX FW⊢
 clear hw1
 obtain ⟨⟨⟨⟨x0,x1⟩,x2,x3⟩,⟨x4,x5⟩,x6,x7⟩,⟨x8,x9⟩,x10⟩:=cells11 BX.out
 rcases hop with rfl | rfl
 ·go_wp2_with fail
  refine (HP.out _ (bthen HW.out FW.out)).mono ?_;rintro e w5 ⟨rfl,b5⟩
  go_wp2_with fail
  refine (H0.out _ (bthen (bthen HW.out FW.out) b5)).mono ?_;rintro e w6 ⟨rfl,b6⟩
  go_wp2_with fail
  go_ret
  refine ⟨?_,bthen (bthen FW.out b5) b6⟩
  show Ending.returned (.string (ByteArray.mk [33,32].toArray ++ByteArray.mk T.toArray))=_
  rw [ba_append]
  rfl
 ·go_wp2_with fail
  refine (HP.out _ (bthen HW.out FW.out)).mono ?_;rintro e w5 ⟨rfl,b5⟩
  go_wp2_with fail
  refine (H0.out _ (bthen (bthen HW.out FW.out) b5)).mono ?_;rintro e w6 ⟨rfl,b6⟩
  go_wp2_with fail
  go_ret
  refine ⟨?_,bthen (bthen FW.out b5) b6⟩
  show Ending.returned (.string (ByteArray.mk [45,32].toArray ++ByteArray.mk T.toArray))=_
  rw [ba_append]
  rfl
theorem rbin_raw (op least lv1:Nat)(hop:1≤op∧op≤12)(hl:least≤lvlS op)(hlv1:lv1=lvlS op+1)(V U:Value)(T T2:List UInt8)(hT:T.length≤100000000)(hT2:T2.length≤100000000)(hp:PartE (.slice A m c) 0 V w)(hp2:PartE (.slice A m c) 1 U w)
  (h0:RunE 73 #[V,nv (lvlS op)] T w) (h2:RunE 73 #[U,nv lv1] T2 w):
  RunE 73 #[exVal 8 vk vn vs nm cc op (.slice A m c) p q r,nv least] (T ++signS op ++ [32] ++T2) w:=by
 intro w' hbw
 have HW:=Lib.hid hbw
 clear hbw
 have dl: ¬((lvlS op:Nat):Int) < (least:Int):=by omega
 have hsl:(signS op).length≤2:=by
  have hk:op=1∨op=2∨op=3∨op=4∨op=5∨op=6∨op=7∨op=8∨op=9∨op=10∨op=11∨op=12:=by omega
  rcases hk with rfl | rfl | rfl | rfl | rfl | rfl | rfl | rfl | rfl | rfl | rfl | rfl <;> decide
 have hlv:=(lvlS_bound hop).2
 have hwr:IntKind.i64.wrap (((lvlS op:Nat):Int)+1)=(lv1:Int):=by rw [IntWalk.i64_in _ (by omega)];omega
 clear hlv1
 have H0:=Lib.hid h0
 have HP:=Lib.hid hp
 have H2:=Lib.hid h2
 have HP2:=Lib.hid hp2
 clear h0 hp h2 hp2
 go_enter Tryz.func73,Tryz.ntmps73
 go_upto_region 1 with fail
 have BX:Hid ((w'.alloc (exO 8 vk vn vs nm cc op (.slice A m c) p q r)).heap[w'.heap.size]? =some (exB 8 vk vn vs nm cc op (.slice A m c) p q r)):=Lib.hid (alloc_at rfl)
 have FW:Hid (Below w'.heap.size w' (w'.alloc (exO 8 vk vn vs nm cc op (.slice A m c) p q r))):=Lib.hid one_new
 obtain ⟨w1,hw1⟩: ∃W,w'.alloc (exO 8 vk vn vs nm cc op (.slice A m c) p q r)=W:=⟨_,rfl⟩
 rw [hw1]at BX FW⊢
 clear hw1
 obtain ⟨⟨⟨⟨x0,x1⟩,x2,x3⟩,⟨x4,x5⟩,x6,x7⟩,⟨x8,x9⟩,x10⟩:=cells11 BX.out
 go_wp2_with fail
 refine (binds_any op hop _).mono ?_;rintro e w3 ⟨rfl,rfl⟩
 go_wp2_with fail
 obtain ⟨w1,hw1⟩: ∃w1,w1=w3:=⟨_,rfl⟩
 subst hw1
 have BD:Below w1.heap.size w1 w1.drew:=(Below.refl _ _).drew
 refine wp_region_sched [(0,true),(1,true),(3,true),(5,true),(6,true),(10,true),(11,true),(13,true),(14,true),(2,false),(4,false),(7,false),(8,true),(9,true),(12,false),(15,false),(16,true),(17,true)] (by kernel_rfl) (by kernel_rfl) (fun _ _ d _ _ h=> by cases d <;> exact h) ?_
 refine swith (fun W hW=> (cells11 (box_next BX.out ((Below.refl _ _).drew.trans hW.out)))) (fun qx=> ?_)
 repeat (first | (refine srE ?_;simp only [Act.put,sA,sB,sC]) | (refine skE ?_;simp only [Act.put,sA,sB,sC]))
 refine scall rfl rfl (fun K hK=> ?_)
 go_simp
 refine (HP.out _ (bthen (bthen HW.out FW.out) BD)).mono ?_;rintro e w5 ⟨rfl,b5⟩
 go_wp2_with fail
 refine hK.out _ _ (by exact b5) ?_
 clear hK K
 try simp only [Act.put,sA,sB,sC]
 replace qx:=fun (W:World) (hW:Grow w5 W)=> qx W (Grow.trans (b5) hW)
 have B5:=bthen BD b5
 repeat (first | (refine srE ?_;simp only [Act.put,sA,sB,sC]) | (refine skE ?_;simp only [Act.put,sA,sB,sC]))
 refine scall rfl rfl (fun K hK=> ?_)
 go_simp
 refine (H0.out _ (bthen (bthen HW.out FW.out) B5)).mono ?_;rintro e w6 ⟨rfl,b6⟩
 go_wp2_with fail
 refine hK.out _ _ (by exact b6) ?_
 clear hK K
 try simp only [Act.put,sA,sB,sC]
 replace qx:=fun (W:World) (hW:Grow w6 W)=> qx W (Grow.trans (b6) hW)
 have B6:=bthen B5 b6
 repeat (first | (refine srE ?_;simp only [Act.put,sA,sB,sC]) | (refine skE ?_;simp only [Act.put,sA,sB,sC]))
 refine scall rfl rfl (fun K hK=> ?_)
 go_simp
 refine (rsign_any op hop _).mono ?_;rintro e w7 ⟨rfl,rfl⟩
 go_wp2_with fail
 refine hK.out _ _ (by exact (Grow.refl _)) ?_
 clear hK K
 try simp only [Act.put,sA,sB,sC]
 repeat (first | (refine srE ?_;simp only [Act.put,sA,sB,sC]) | (refine skE ?_;simp only [Act.put,sA,sB,sC]))
 refine scall rfl rfl (fun K hK=> ?_)
 go_simp
 refine (HP2.out _ (bthen (bthen HW.out FW.out) B6)).mono ?_;rintro e w8 ⟨rfl,b8⟩
 go_wp2_with fail
 refine hK.out _ _ (by exact b8) ?_
 clear hK K
 try simp only [Act.put,sA,sB,sC]
 replace qx:=fun (W:World) (hW:Grow w8 W)=> qx W (Grow.trans (b8) hW)
 have B8:=bthen B6 b8
 repeat (first | (refine srE ?_;simp only [Act.put,sA,sB,sC]) | (refine skE ?_;simp only [Act.put,sA,sB,sC]))
 refine scall rfl rfl (fun K hK=> ?_)
 go_simp
 refine (H2.out _ (bthen (bthen HW.out FW.out) B8)).mono ?_;rintro e w9 ⟨rfl,b9⟩
 go_wp2_with fail
 refine hK.out _ _ (by exact b9) ?_
 clear hK K
 try simp only [Act.put,sA,sB,sC]
 replace qx:=fun (W:World) (hW:Grow w9 W)=> qx W (Grow.trans (b9) hW)
 have B9:=bthen B8 b9
 repeat (first | (refine srE ?_;simp only [Act.put,sA,sB,sC]) | (refine skE ?_;simp only [Act.put,sA,sB,sC]))
 refine sdone ?_
 go_wp2_with fail
 go_ret
 refine ⟨?_,bthen FW.out B9⟩
 show Ending.returned (.string (ByteArray.mk T.toArray ++ByteArray.mk (signS op).toArray ++ByteArray.mk [32].toArray ++ByteArray.mk T2.toArray))=_
 rw [ba_append,ba_append,ba_append]
end
end Go.Proofs.YtnbmpfdffoidaaaGreatDoor.Y
namespace Go.Proofs.YtnbmpfdffoidaaaGreatDoor.Y
open Go.RowKit O V S X
theorem f_bsign {op:Nat}(h:1≤op∧op≤12):(binS (signS op)).1=op:=by
 have hk:op=1∨op=2∨op=3∨op=4∨op=5∨op=6∨op=7∨op=8∨op=9∨op=10∨op=11∨op=12:=by omega
 rcases hk with rfl | rfl | rfl | rfl | rfl | rfl | rfl | rfl | rfl | rfl | rfl | rfl <;> rfl
theorem f_bnone {s:List UInt8}(h: ∀op,1≤op→op≤12→signS op≠s):(binS s).1=0:=by
 have h1:=h 1 (by omega) (by omega)
 have h2:=h 2 (by omega) (by omega)
 have h3:=h 3 (by omega) (by omega)
 have h4:=h 4 (by omega) (by omega)
 have h5:=h 5 (by omega) (by omega)
 have h6:=h 6 (by omega) (by omega)
 have h7:=h 7 (by omega) (by omega)
 have h8:=h 8 (by omega) (by omega)
 have h9:=h 9 (by omega) (by omega)
 have h10:=h 10 (by omega) (by omega)
 have h11:=h 11 (by omega) (by omega)
 have h12:=h 12 (by omega) (by omega)
 simp only [signS]at h1 h2 h3 h4 h5 h6 h7 h8 h9 h10 h11 h12
 unfold binS
 rw [if_neg (Ne.symm h1),if_neg (Ne.symm h2),if_neg (Ne.symm h3),if_neg (Ne.symm h4),if_neg (Ne.symm h5),if_neg (Ne.symm h6),if_neg (Ne.symm h7),if_neg (Ne.symm h8),if_neg (Ne.symm h9),if_neg (Ne.symm h10),if_neg (Ne.symm h11),if_neg (Ne.symm h12)]
section
variable {w:World} {g:Nat} {A:Option Addr} {n c:Nat} {L:List Tok} {d e a b x p q r:Int}
theorem op_end (h:RfA w g A n c L n d e a b x p q r):Calls Tryz.prog 172 #[.pointer (some ⟨g,0,none⟩)] w fun e w'=> e= .returned (nv 0)∧Below w.heap.size w w':=by
 have HB:=Lib.hid h.box
 have hcap:=h.row.cap
 clear h
 go_enter Tryz.func172,Tryz.ntmps172
 go_wp2_with fail
 refine wp_region_sched [(0,true),(1,true),(2,true),(3,true),(4,true),(5,true),(6,true),(7,true),(8,true),(9,true),(10,true),(11,true),(12,true),(13,true),(14,true),(15,true),(16,true),(17,true),(18,true),(19,true),(20,true),(21,true),(22,true),(23,true)] (by kernel_rfl) (by kernel_rfl) (fun _ _ d _ _ h=> by cases d <;> exact h) ?_
 refine swith (fun W hW=> (cells10 (box_next HB.out ((Below.refl _ _).drew.trans hW.out)))) (fun qx=> ?_)
 repeat (first | (refine srE ?_;simp only [Act.put,sA,sB,sC]) | (refine skE ?_;simp only [Act.put,sA,sB,sC]))
 refine sdone ?_
 go_wp2_with fail
 go_ret
 exact ⟨rfl,(Below.refl _ _).drew⟩
theorem op_at {i:Nat}(h:RfA w g A n c L i d e a b x p q r)(hi:i < L.length):Calls Tryz.prog 172 #[.pointer (some ⟨g,0,none⟩)] w fun e w'=> e= .returned (nv ((if L[i].1=4 then (binS L[i].2.1).1 else 0:Nat):Int))∧Below w.heap.size w w':=by
 have HH:=Lib.hid h
 have hcap:=h.row.cap
 have hn:=h.row.len
 have hin:i < n:=by omega
 obtain ⟨tb,off,tp,tq,tr,rfl,hb,hc⟩:=h.tk hi
 have HC0:=Lib.hid hc
 clear h hc
 have hii:(i:Int) < (n:Int):=by omega
 have hnn: ¬n≤i:=by omega
 generalize L[i]=t at *
 have HB:=Lib.hid HH.out.box
 have HC:=HC0
 by_cases hk:t.1=4
 ·rw [if_pos hk]
  have d1:(t.1==4)=true:=by simp [hk]
  go_enter Tryz.func172,Tryz.ntmps172
  go_wp2_with fail
  refine wp_region_sched [(0,true),(1,true),(2,true),(3,true),(4,true),(5,true),(6,true),(7,true),(8,true),(9,true),(10,true),(11,true),(12,true),(13,true),(14,true),(15,true),(16,true),(17,true),(18,true),(19,true),(20,true),(21,true),(22,true),(23,true)] (by kernel_rfl) (by kernel_rfl) (fun _ _ d _ _ h=> by cases d <;> exact h) ?_
  refine swith (fun W hW=> (cells10 (box_next HB.out ((Below.refl _ _).drew.trans hW.out)))) (fun qx=> ?_)
  refine swith (fun W hW=> (HC.out W ((Below.refl _ _).drew.trans hW.out))) (fun qt=> ?_)
  repeat (first | (refine srE ?_;simp only [Act.put,sA,sB,sC]) | (refine skE ?_;simp only [Act.put,sA,sB,sC]))
  refine sdone ?_
  clear qx qt HB HC
  go_wp2_with fail
  go_loopw [3] (fun iv wr=> ∃k:Nat,(1≤k∧k≤13)∧iv= .int .i64 k∧Hid (∀j,1≤j→j < k→signS j≠t.2.1)∧Hid (Below w.heap.size w wr)) (fun iv _=> 13 - (intOf iv).toNat)
  case atStart=> exact ⟨1,by omega,rfl,Lib.hid (fun j h1 h2=> by omega),Lib.hid (Below.refl _ _).drew⟩
  case round=>
   obtain ⟨k,hk1,rfl,H,hb2⟩:=hrel
   by_cases hlt:k≤12
   ·have hki:(k:Int)≤12:=by omega
    have HB:=Lib.hid (box_next HH.out.box hb2.out)
    have HC:=Lib.hid (fun W (hW:Below wr.heap.size wr W)=> HC0.out W (hb2.out.trans (hW.mono hb2.out.size)))
    have hbw:tb < wr.heap.size:=by have:=hb2.out.size;omega
    by_cases hs:signS k=t.2.1
    ·have s1:(signS k==t.2.1)=true:=by simpa using hs
     go_wp2_with fail
     refine wp_region_sched [(0,true),(2,true),(3,true),(4,true),(5,true),(6,true),(7,true),(8,true),(9,true),(10,true),(11,true),(12,true),(1,false),(13,true)] (by kernel_rfl) (by kernel_rfl) (fun _ _ d _ _ h=> by cases d <;> exact h) ?_
     refine swith (fun W hW=> (cells10 (box_next HB.out ((Below.refl _ _).drew.trans hW.out)))) (fun qx=> ?_)
     refine swith (fun W hW=> (HC.out W ((Below.refl _ _).drew.trans hW.out))) (fun qt=> ?_)
     repeat (first | (refine srE ?_;simp only [Act.put,sA,sB,sC]) | (refine skE ?_;simp only [Act.put,sA,sB,sC]))
     refine scall rfl rfl (fun K hK=> ?_)
     go_simp
     refine (rsign_any k (by omega) _).mono ?_;rintro e w6 ⟨rfl,rfl⟩
     go_wp2_with fail
     refine hK.out _ _ (by exact (Grow.refl _)) ?_
     clear hK K
     try simp only [Act.put,sA,sB,sC]
     repeat (first | (refine srE ?_;simp only [Act.put,sA,sB,sC]) | (refine skE ?_;simp only [Act.put,sA,sB,sC]))
     refine sdone ?_
     clear qx qt
     go_wp2_with fail
     go_ret
     refine ⟨?_,hb2.out.drew⟩
     rw [← hs,f_bsign (by omega)];rfl
    ·have s1:(signS k==t.2.1)=false:=by simpa using hs
     go_wp2_with fail
     refine wp_region_sched [(0,true),(2,true),(3,true),(4,true),(5,true),(6,true),(7,true),(8,true),(9,true),(10,true),(11,true),(12,true),(1,false),(13,true)] (by kernel_rfl) (by kernel_rfl) (fun _ _ d _ _ h=> by cases d <;> exact h) ?_
     refine swith (fun W hW=> (cells10 (box_next HB.out ((Below.refl _ _).drew.trans hW.out)))) (fun qx=> ?_)
     refine swith (fun W hW=> (HC.out W ((Below.refl _ _).drew.trans hW.out))) (fun qt=> ?_)
     repeat (first | (refine srE ?_;simp only [Act.put,sA,sB,sC]) | (refine skE ?_;simp only [Act.put,sA,sB,sC]))
     refine scall rfl rfl (fun K hK=> ?_)
     go_simp
     refine (rsign_any k (by omega) _).mono ?_;rintro e w6 ⟨rfl,rfl⟩
     go_wp2_with fail
     refine hK.out _ _ (by exact (Grow.refl _)) ?_
     clear hK K
     try simp only [Act.put,sA,sB,sC]
     repeat (first | (refine srE ?_;simp only [Act.put,sA,sB,sC]) | (refine skE ?_;simp only [Act.put,sA,sB,sC]))
     refine sdone ?_
     clear qx qt
     go_wp2_with fail
     go_roundw
     case rel=>
      refine ⟨k+1,by omega,by go_num,Lib.hid (fun j h1 h2=> ?_),Lib.hid hb2.out.drew⟩
      rcases Nat.lt_or_ge j k with h3 | h3
      ·exact H.out j h1 h3
      ·obtain rfl:j=k:=by omega
       exact hs
     case measure=> simp [intOf];omega
   ·obtain rfl:k=13:=by omega
    go_wp2_with fail
    go_ret
    refine ⟨?_,hb2.out⟩
    rw [f_bnone fun op h1 h2=> H.out op h1 (by omega)]
    rfl
 ·rw [if_neg hk]
  have d1:(t.1==4)=false:=by simp [hk]
  go_enter Tryz.func172,Tryz.ntmps172
  go_wp2_with fail
  refine wp_region_sched [(0,true),(1,true),(2,true),(3,true),(4,true),(5,true),(6,true),(7,true),(8,true),(9,true),(10,true),(11,true),(12,true),(13,true),(14,true),(15,true),(16,true),(17,true),(18,true),(19,true),(20,true),(21,true),(22,true),(23,true)] (by kernel_rfl) (by kernel_rfl) (fun _ _ d _ _ h=> by cases d <;> exact h) ?_
  refine swith (fun W hW=> (cells10 (box_next HB.out ((Below.refl _ _).drew.trans hW.out)))) (fun qx=> ?_)
  refine swith (fun W hW=> (HC.out W ((Below.refl _ _).drew.trans hW.out))) (fun qt=> ?_)
  repeat (first | (refine srE ?_;simp only [Act.put,sA,sB,sC]) | (refine skE ?_;simp only [Act.put,sA,sB,sC]))
  refine sdone ?_
  go_wp2_with fail
  go_ret
  exact ⟨rfl,(Below.refl _ _).drew⟩
end
theorem f_op (g:Nat)(σ:Sg)(w:World)(h:ST w g σ):Calls Tryz.prog 172 #[.pointer (some ⟨g,0,none⟩)] w fun e w'=> e= .returned (nv (opS σ:Nat))∧Below w.heap.size w w':=by
 match σ,h with
 | none,⟨A,n,c,L,d,e,a,b,x,p,q,r,_,h⟩=> exact op_end h
 | some (d,[]),⟨A,n,c,L,i,a,b,x,p,q,r,⟨hl,hi,_⟩,h⟩=>
  have hin:i=n:=by
   have:=congrArg List.length hl
   have hn:=h.row.len
   simp at this
   omega
  subst hin
  exact op_end h
 | some (d,t::l),⟨A,n,c,L,i,a,b,x,p,q,r,⟨hl,_,_⟩,h⟩=>
  obtain ⟨hi,e1,_⟩:=drop_cons hl
  have:=op_at h hi
  rw [e1]at this
  exact this
end Go.Proofs.YtnbmpfdffoidaaaGreatDoor.Y
namespace Go.Proofs.YtnbmpfdffoidaaaGreatDoor.Y
open Go.RowKit O V S X
def lenS:Sg→Nat
 | some (_,l)=> l.length
 | none=> 0
theorem ST.z {w:World}{g d:Nat}{l:List Tok}(h:ST w g (some (d,l))):AllZ l∧d≤16:=by
 obtain ⟨A,n,c,L,i,a,b,x,p,q,r,⟨hl,_,hd⟩,h⟩:=h
 exact ⟨fun t ht=> h.ok t (by rw [hl]at ht;exact List.mem_of_mem_drop ht),hd⟩
theorem tkT_W {t:Tok}{s:List UInt8}(h:tkT t=s)(hs:s≠[]):cw 1 t=s.length+1∧t.2.1=s:=by
 unfold tkT at h
 split at h
 ·exact absurd h.symm hs
 ·rename_i hk
  subst h
  unfold cw
  rw [if_neg hk]
  exact ⟨rfl,rfl⟩
theorem wantS_inv {σ:Sg}{s:List UInt8}{d':Nat}{r:List Tok}(hs:s≠[])(h:wantS σ s=some (d',r)): ∃t,σ=some (d',t::r)∧W 1 (t::r)=s.length+1+W 1 r∧t.2.1=s:=by
 unfold wantS at h
 split at h
 ·rename_i ht
  obtain ⟨d,t,l,rfl,hts⟩:=txS_pos ht hs
  injection h with h
  injection h with e1 e2
  subst e1 e2
  exact ⟨t,rfl,by rw [W_cons,(tkT_W hts hs).1],(tkT_W hts hs).2⟩
 ·cases h
theorem openS_inv {σ:Sg}{s:List UInt8}{d':Nat}{r:List Tok}(hs:s≠[])(h:openS σ s=some (d',r)): ∃d t,σ=some (d,t::r)∧d'=d+1∧W 1 (t::r)=s.length+1+W 1 r∧t.2.1=s:=by
 unfold openS at h
 split at h
 ·rename_i ht
  obtain ⟨d,t,l,rfl,hts⟩:=txS_pos ht hs
  simp only at h
  split at h
  ·injection h with h
   injection h with e1 e2
   subst e1 e2
   exact ⟨d,t,rfl,rfl,by rw [W_cons,(tkT_W hts hs).1],(tkT_W hts hs).2⟩
  ·cases h
 ·cases h
theorem shutS_inv {σ:Sg}{s:List UInt8}{d':Nat}{r:List Tok}(hs:s≠[])(h:shutS σ s=some (d',r)): ∃d t,σ=some (d,t::r)∧d'=d - 1∧W 1 (t::r)=s.length+1+W 1 r:=by
 unfold shutS at h
 cases hw:wantS σ s with
 | none=> rw [hw]at h;cases h
 | some y=>
  obtain ⟨d,l⟩:=y
  rw [hw]at h
  simp only [Option.map_some]at h
  injection h with h
  injection h with e1 e2
  subst e1 e2
  obtain ⟨t,e,h2,_⟩:=wantS_inv hs hw
  exact ⟨d,t,e,rfl,h2⟩
def VX (V:Value):Prop:= ∃(k vk vn:Int) (vs nm cc:List UInt8) (o:Int) (A:Option Addr) (m c:Nat) (p q r:Int),V=exVal k vk vn vs nm cc o (.slice A m c) p q r
def XO (lvl more:Nat)(σ σ':Sg)(w w':World)(V:Value):Prop:=match σ' with
 | none=> True
 | some (d',r)=> ∃(d:Nat) (l:List Tok) (x:Ex) (A:Option Addr) (c:Nat) (p q z:Int) (S:Nat→Prop),(σ=some (d,l)∧d'=d∧r.length < l.length)∧(V=exX x A c p q z∧ExAt w' S x A c∧In w.heap.size w' S)∧okX x∧W 1 (toksX x lvl)+more+W 1 r≤W 1 l
def XR (lvl more:Nat)(σ:Sg)(g:Nat)(w:World)(e:Ending)(w':World):Prop:= ∃V σ',e= .returned V∧VX V∧ST w' g σ'∧Mod [g] w w'∧XO lvl more σ σ' w w' V
def ExprC (f:Nat):Prop:= ∀(lv:Nat) (σ:Sg) (w:World) (g:Nat),1≤lv→lv≤6→ST w g σ→10 * lenS σ+(8 - lv)≤f→
 Calls Tryz.prog 152 #[.pointer (some ⟨g,0,none⟩),nv lv] w (XR lv 0 σ g w)
def UnaryC (f:Nat):Prop:= ∀(σ:Sg) (w:World) (g:Nat),ST w g σ→10 * lenS σ+1≤f→
 Calls Tryz.prog 171 #[.pointer (some ⟨g,0,none⟩)] w (XR 6 0 σ g w)
def OperandC (f:Nat):Prop:= ∀(σ:Sg) (w:World) (g:Nat),ST w g σ→10 * lenS σ≤f→
 Calls Tryz.prog 179 #[.pointer (some ⟨g,0,none⟩)] w (XR 7 0 σ g w)
abbrev zExO:Obj:= .cells #[nv 0,nv 0,nv 0,sv [],sv [],sv [],nv 0,.slice none 0 0,nv 0,nv 0,nv 0] 59
abbrev zExB:Obj:= .cells #[nv 0,nv 0,nv 0,sv [],sv [],sv [],nv 0,.slice none 0 0,nv 0,nv 0,nv 0] 59 (0,0)
theorem ST.keep {w w':World}{g:Nat}: ∀{σ:Sg},ST w g σ→(∀k,k≤g→w'.heap[k]? =w.heap[k]?)→ST w' g σ
 | none,⟨A,n,c,L,d,e,a,b,x,p,q,r,he,h⟩,hk=> ⟨A,n,c,L,d,e,a,b,x,p,q,r,he,h.upd ((hk g (Nat.le_refl _)).trans h.box) fun k hg=> hk k (by omega)⟩
 | some (_,_),⟨A,n,c,L,i,a,b,x,p,q,r,he,h⟩,hk=> ⟨A,n,c,L,i,a,b,x,p,q,r,he,h.upd ((hk g (Nat.le_refl _)).trans h.box) fun k hg=> hk k (by omega)⟩
theorem lenS_open (σ:Sg)(s:List UInt8):lenS (openS σ s)≤lenS σ - 1:=by
 unfold openS
 split
 ·split
  ·split
   ·simp [lenS]
   ·exact Nat.zero_le _
  ·exact Nat.zero_le _
 ·exact Nat.zero_le _
theorem f_key (f:Nat)(HE:ExprC f)(σ:Sg)(w:World)(g:Nat)(h:ST w g σ)(hm:10 * lenS (openS σ [91])+7≤f):Calls Tryz.prog 153 #[.pointer (some ⟨g,0,none⟩)] w (XR 0 4 σ g w):=by
 have HE:=Lib.hid HE
 go_enter Tryz.func153,Tryz.ntmps153
 go_upto_region 1 with fail
 have RX:Hid ((w.alloc zExO).heap[w.heap.size]? =some zExB):=Lib.hid (alloc_at rfl)
 have MW:Hid (Mod [g] w (w.alloc zExO)):=Lib.hid ((Mod.refl _ _).alloc _)
 have SW:=Lib.hid (h.next ((Below.refl _ _).alloc (Nat.le_refl _) zExO))
 have hlt:=h.lt
 obtain ⟨w1,hw1⟩: ∃W,w.alloc zExO=W:=⟨_,rfl⟩
 have hz1:w.heap.size < w1.heap.size:=by rw [← hw1];simp
 rw [hw1]at RX MW SW⊢
 clear hw1 h
 go_wp2_with fail
 refine (f_open g σ [91] (by simp) w1 SW.out).mono ?_;rintro e w2 ⟨rfl,h2,m2⟩
 replace RX:=Lib.hid (m2.box RX.out (by simp;omega))
 replace MW:=Lib.hid (MW.out.then m2)
 replace SW:=Lib.hid h2
 have hz2:w.heap.size < w2.heap.size:=Nat.lt_of_lt_of_le hz1 m2.size
 have HO:Hid (∀d l,openS σ [91]=some (d,l)→∃d1 t,σ=some (d1,t::l)∧d=d1+1∧W 1 (t::l)=2+W 1 l∧t.2.1=[91]):=Lib.hid fun d l he=> openS_inv (by simp) he
 have hm2:=hm
 clear h2 m2 hm
 generalize openS σ [91]=σ2 at *
 go_wp2_with fail
 refine (HE.out 1 σ2 w2 g (by omega) (by omega) SW.out hm2).mono ?_;rintro e w3 ⟨V,σ3,rfl,⟨k,vk,vn,vs,nm,cc,o,A,m,c,p,q,r,rfl⟩,h3,m3,hx⟩
 have HX:=Lib.hid hx
 have hz3:w.heap.size < w3.heap.size:=Nat.lt_of_lt_of_le hz2 m3.size
 replace RX:=Lib.hid (m3.box RX.out (by simp;omega))
 replace MW:=Lib.hid (MW.out.then m3)
 replace SW:=Lib.hid h3
 have hd3: ∀d l,σ3=some (d,l)→1≤d:=fun d l e3=> by
  have hq:=HX.out
  rw [e3]at hq
  obtain ⟨d',l',x,A',c',p',q',z',S',⟨e4,e5,_⟩,_⟩:=hq
  obtain ⟨d1,t,_,e6,_⟩:=HO.out _ _ e4
  omega
 have HD3:=Lib.hid hd3
 clear hx h3 m3 hd3 hm2
 go_upto_region 3 with fail
 have BX:Hid ((w3.alloc (exO k vk vn vs nm cc o (.slice A m c) p q r)).heap[w3.heap.size]? =some (exB k vk vn vs nm cc o (.slice A m c) p q r)):=Lib.hid (alloc_at rfl)
 replace RX:=Lib.hid (box_next RX.out (one_new (o:=exO k vk vn vs nm cc o (.slice A m c) p q r)))
 replace MW:=Lib.hid (MW.out.alloc (exO k vk vn vs nm cc o (.slice A m c) p q r))
 replace SW:=Lib.hid (SW.out.next (one_new (o:=exO k vk vn vs nm cc o (.slice A m c) p q r)))
 have K34:Hid (Below w3.heap.size w3 (w3.alloc (exO k vk vn vs nm cc o (.slice A m c) p q r))):=Lib.hid one_new
 obtain ⟨w4,hw4⟩: ∃W,w3.alloc (exO k vk vn vs nm cc o (.slice A m c) p q r)=W:=⟨_,rfl⟩
 rw [hw4]at BX RX MW SW K34
 rw [hw4]
 clear hw4
 go_wp2_with fail
 refine (f_shut g σ3 [93] (by simp) w4 SW.out HD3.out).mono ?_;rintro e w5 ⟨rfl,h5,m5⟩
 have hgw3:g < w3.heap.size:=by omega
 have hz5:=Nat.le_trans K34.out.size m5.size
 replace BX:=Lib.hid (m5.box BX.out (by simp;omega))
 replace RX:=Lib.hid (m5.box RX.out (by simp;omega))
 replace MW:=Lib.hid (MW.out.then m5)
 have K35:Hid (∀b,b < w3.heap.size→b≠g→w5.heap[b]? =w3.heap[b]?):=Lib.hid fun b hb hn=> (m5.block b (by have:=K34.out.size;omega) (by simp;omega)).trans (K34.out.block b hb)
 have SW5:=Lib.hid h5
 clear h5 m5 K34
 go_upto_region 4 with fail
 obtain ⟨⟨⟨⟨x0,x1⟩,x2,x3⟩,⟨x4,x5⟩,x6,x7⟩,⟨x8,x9⟩,x10⟩:=cells11 BX.out
 obtain ⟨⟨⟨⟨z0,z1⟩,z2,z3⟩,⟨z4,z5⟩,z6,z7⟩,⟨z8,z9⟩,z10⟩:=cells11 RX.out
 obtain ⟨⟨⟨⟨f0,f1⟩,f2,f3⟩,⟨f4,f5⟩,f6,f7⟩,⟨f8,f9⟩,f10⟩:=frozen11 RX.out
 go_wp2_with fail
 clear x0 x1 x2 x3 x4 x5 x6 x7 x8 x9 x10 z0 z1 z2 z3 z4 z5 z6 z7 z8 z9 z10 f0 f1 f2 f3 f4 f5 f6 f7 f8 f9 f10
 have X3:=set11_box (u0:=nv k) (u1:=nv vk) (u2:=nv vn) (u3:=sv vs) (u4:=sv nm) (u5:=sv cc) (u6:=nv o) (u7:= .slice A m c) (u8:=nv p) (u9:=nv q) (u10:=nv r) (vs:=[nv 0,nv 0,nv 0,sv [],sv [],sv [],nv 0,.slice none 0 0,nv 0,nv 0,nv 0]) RX.out rfl
 have M3:=set11_mod (w:=w5) (b:=w.heap.size) (u0:=nv k) (u1:=nv vk) (u2:=nv vn) (u3:=sv vs) (u4:=sv nm) (u5:=sv cc) (u6:=nv o) (u7:= .slice A m c) (u8:=nv p) (u9:=nv q) (u10:=nv r)
 have O3:=fun (j:Nat) (hj:j≠w.heap.size)=> set11_other (w:=w5) (u0:=nv k) (u1:=nv vk) (u2:=nv vn) (u3:=sv vs) (u4:=sv nm) (u5:=sv cc) (u6:=nv o) (u7:= .slice A m c) (u8:=nv p) (u9:=nv q) (u10:=nv r) hj
 obtain ⟨wz,hwz⟩: ∃W,set11 w5 w.heap.size (nv k) (nv vk) (nv vn) (sv vs) (sv nm) (sv cc) (nv o) (.slice A m c) (nv p) (nv q) (nv r)=W:=⟨_,rfl⟩
 rw [hwz]at X3 M3 O3
 unfold set11 at hwz
 rw [hwz]
 clear hwz
 obtain ⟨⟨⟨⟨x0,x1⟩,x2,x3⟩,⟨x4,x5⟩,x6,x7⟩,⟨x8,x9⟩,x10⟩:=cells11 X3
 refine bodyPost_ret (v:=exVal k vk vn vs nm cc o (.slice A m c) p q r) (by simp [results,Tryz.results153,go_sem,x0,x1,x2,x3,x4,x5,x6,x7,x8,x9,x10]) rfl ?_
 refine ⟨_,_,rfl,⟨k,vk,vn,vs,nm,cc,o,A,m,c,p,q,r,rfl⟩,SW5.out.keep (fun j hj=> O3 j (by omega)),MW.out.trans M3 (fun x hx=> .inr (by simp at hx;omega)),?_⟩
 cases hs:shutS σ3 [93]with
 | none=> trivial
 | some y=>
  obtain ⟨d',r'⟩:=y
  obtain ⟨d3,t3,e3,e4,hw3⟩:=shutS_inv (by simp) hs
  have hq:=HX.out
  rw [e3]at hq
  obtain ⟨d,l,x,A',c',p',q',z',S',⟨e5,e6,hl⟩,⟨e7,hat,hin⟩,hok,hW⟩:=hq
  obtain ⟨d1,t1,e8,e9,hw1,_⟩:=HO.out _ _ e5
  refine ⟨d1,t1::l,x,A',c',p',q',z',S',⟨e8,by omega,by simp at hl⊢;omega⟩,⟨e7,hat.keep fun b hb=> (O3 b (by have:=(hin b hb).1;omega)).trans (K35.out b (hin b hb).2 (by have:=(hin b hb).1;omega)),fun b hb=> ⟨by have:=(hin b hb).1;omega,by have:=M3.size;have:=(hin b hb).2;omega⟩⟩,hok,?_⟩
  have:=W_br_mono (e:=1) x (show 0≤1 by omega) (toks0 x)
  simp only [toksX,List.length_cons,List.length_nil]at hW hw1 hw3 this⊢
  omega
end Go.Proofs.YtnbmpfdffoidaaaGreatDoor.Y
