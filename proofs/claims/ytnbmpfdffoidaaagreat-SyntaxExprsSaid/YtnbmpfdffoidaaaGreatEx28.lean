/- Texts of the proof, joined: SynRp, SynSame, SynRp2. -/
import Derived.Test.YtnbmpfdffoidaaaGreatEx04
import Derived.Test.YtnbmpfdffoidaaaGreatEx07
import Derived.Test.YtnbmpfdffoidaaaGreatEx11
import Derived.Test.YtnbmpfdffoidaaaGreatEx12
import Derived.Test.YtnbmpfdffoidaaaGreatEx27
set_option linter.unusedVariables false
set_option linter.unusedSimpArgs false
set_option maxHeartbeats 8000000
set_option maxRecDepth 100000
namespace Go.Proofs.YtnbmpfdffoidaaaGreat.Y
open Go.RowKit O V S X
def sp (l : List Tok) : List UInt8 := l.flatMap fun t => t.2.1 ++ [32]
theorem sp_nil : sp [] = [] := rfl
theorem sp_cons (t : Tok) (l : List Tok) : sp (t :: l) = t.2.1 ++ 32 :: sp l := by unfold sp; rw [List.flatMap_cons, List.append_assoc]; rfl
theorem sp_app (l m : List Tok) : sp (l ++ m) = sp l ++ sp m := by unfold sp; exact List.flatMap_append
theorem binds_any (op : Nat) (hop : 1 ≤ op ∧ op ≤ 12) (w : World) : Calls Tryz.prog 28 #[nv op] w fun e w' => e = .returned (nv (lvlS op)) ∧ w' = w := by
 have hk : op = 1 ∨ op = 2 ∨ op = 3 ∨ op = 4 ∨ op = 5 ∨ op = 6 ∨ op = 7 ∨ op = 8 ∨ op = 9 ∨ op = 10 ∨ op = 11 ∨ op = 12 := by omega
 rcases hk with rfl | rfl | rfl | rfl | rfl | rfl | rfl | rfl | rfl | rfl | rfl | rfl
 all_goals
  go_enter Tryz.func28, Tryz.ntmps28
  go_wp2_with fail
  go_ret
  exact ⟨rfl, rfl⟩
theorem rsign_any (op : Nat) (hop : 1 ≤ op ∧ op ≤ 12) (w : World) : Calls Tryz.prog 31 #[nv op] w fun e w' => e = .returned (sv (signS op)) ∧ w' = w := by
 have hk : op = 1 ∨ op = 2 ∨ op = 3 ∨ op = 4 ∨ op = 5 ∨ op = 6 ∨ op = 7 ∨ op = 8 ∨ op = 9 ∨ op = 10 ∨ op = 11 ∨ op = 12 := by omega
 rcases hk with rfl | rfl | rfl | rfl | rfl | rfl | rfl | rfl | rfl | rfl | rfl | rfl
 all_goals
  go_enter Tryz.func31, Tryz.ntmps31
  go_wp2_with fail
  go_ret
  exact ⟨rfl, rfl⟩
theorem part_raw (b off n c i : Nat) {z : Int} (hz : z = i) (hi : i < n) (hn : n ≤ 1000) (uk uvk uvn : Int) (us un uc : List UInt8) (uo : Int) (uA : Option Addr) (um ud : Nat) (up uq ur : Int) (w : World) (hb : b < w.heap.size)
  (hc : ∀ j, j < 11 → w.cell? ⟨b, off + i * 11 + j, none⟩ = [nv uk, nv uvk, nv uvn, sv us, sv un, sv uc, nv uo, .slice uA um ud, nv up, nv uq, nv ur][j]?) :
  Calls Tryz.prog 30 #[.slice (some ⟨b, off, none⟩) n c, .int .i64 z] w fun e w' => e = .returned (exVal uk uvk uvn us un uc uo (.slice uA um ud) up uq ur) ∧ Below w.heap.size w w' := by
 subst hz
 have y0 : w.cell? ⟨b, off + i * 11, none⟩ = some (nv uk) := hc 0 (by omega)
 have y1 : w.cell? ⟨b, off + i * 11 + 1, none⟩ = some (nv uvk) := hc 1 (by omega)
 have y2 : w.cell? ⟨b, off + i * 11 + 2, none⟩ = some (nv uvn) := hc 2 (by omega)
 have y3 : w.cell? ⟨b, off + i * 11 + 3, none⟩ = some (sv us) := hc 3 (by omega)
 have y4 : w.cell? ⟨b, off + i * 11 + 4, none⟩ = some (sv un) := hc 4 (by omega)
 have y5 : w.cell? ⟨b, off + i * 11 + 5, none⟩ = some (sv uc) := hc 5 (by omega)
 have y6 : w.cell? ⟨b, off + i * 11 + 6, none⟩ = some (nv uo) := hc 6 (by omega)
 have y7 : w.cell? ⟨b, off + i * 11 + 7, none⟩ = some (.slice uA um ud) := hc 7 (by omega)
 have y8 : w.cell? ⟨b, off + i * 11 + 8, none⟩ = some (nv up) := hc 8 (by omega)
 have y9 : w.cell? ⟨b, off + i * 11 + 9, none⟩ = some (nv uq) := hc 9 (by omega)
 have y10 : w.cell? ⟨b, off + i * 11 + 10, none⟩ = some (nv ur) := hc 10 (by omega)
 clear hc
 have hki : (i : Int) < (n : Int) := by omega
 go_enter Tryz.func30, Tryz.ntmps30
 go_wp2_with fail
 refine bodyPost_ret (v := exVal uk uvk uvn us un uc uo (.slice uA um ud) up uq ur) (by simp [results, Tryz.results30, go_sem]) rfl ?_
 refine ⟨rfl, ?_⟩
 repeat (first | (with_reducible exact Below.refl _ _) | (with_reducible assumption) | refine Below.setCell ?_ (by simp <;> omega) _ | refine Below.alloc ?_ (by simp <;> omega) _ | refine Below.drew ?_)
def RunE (f : Nat) (args : Array Value) (T : List UInt8) (w : World) : Prop := ∀ w', Below w.heap.size w w' → Calls Tryz.prog f args w' fun e w'' => e = .returned (sv T) ∧ Below w'.heap.size w' w''
def PartE (A : Value) (i : Int) (V : Value) (w : World) : Prop := ∀ w', Below w.heap.size w w' → Calls Tryz.prog 30 #[A, nv i] w' fun e w'' => e = .returned V ∧ Below w'.heap.size w' w''
section
variable (k vk vn : Int) (vs nm cc : List UInt8) (o : Int) (A : Option Addr) (m c : Nat) (p q r : Int) (w : World)
theorem rbrk_leaf (least : Nat) (T : List UInt8) (h7 : k ≠ 7) (h8 : k ≠ 8) (hl : 7 < least) (hT : T.length ≤ 1000000000)
  (h0 : RunE 14 #[exVal k vk vn vs nm cc o (.slice A m c) p q r, nv 0] T w) :
  RunE 14 #[exVal k vk vn vs nm cc o (.slice A m c) p q r, nv least] ([40, 32] ++ T ++ [41, 32]) w := by
 intro w' hbw
 have HW := Lib.hid hbw
 clear hbw
 have dl : (7 : Int) < (least : Int) := by omega
 have H0 := Lib.hid h0
 clear h0
 go_enter Tryz.func14, Tryz.ntmps14
 go_upto_region 1 with fail
 have BX : Hid ((w'.alloc (exO k vk vn vs nm cc o (.slice A m c) p q r)).heap[w'.heap.size]? = some (exB k vk vn vs nm cc o (.slice A m c) p q r)) := Lib.hid (alloc_at rfl)
 have FW : Hid (Below w'.heap.size w' (w'.alloc (exO k vk vn vs nm cc o (.slice A m c) p q r))) := Lib.hid one_new
 obtain ⟨w1, hw1⟩ : ∃ W, w'.alloc (exO k vk vn vs nm cc o (.slice A m c) p q r) = W := ⟨_, rfl⟩
 rw [hw1] at BX FW ⊢
 clear hw1
 obtain ⟨⟨⟨⟨x0, x1⟩, x2, x3⟩, ⟨x4, x5⟩, x6, x7⟩, ⟨x8, x9⟩, x10⟩ := cells11 BX.out
 go_wp2_with fail
 refine (H0.out w1 (bthen HW.out FW.out)).mono ?_; rintro e w2 ⟨rfl, b2⟩
 go_wp2_with fail
 go_ret
 refine ⟨?_, bthen FW.out b2⟩
 show Ending.returned (.string (ByteArray.mk [40, 32].toArray ++ ByteArray.mk T.toArray ++ ByteArray.mk [41, 32].toArray)) = _
 rw [ba_append, ba_append]
 simp
theorem rbrk_un (least : Nat) (T : List UInt8) (hl : 6 < least) (hT : T.length ≤ 1000000000)
  (h0 : RunE 14 #[exVal 7 vk vn vs nm cc o (.slice A m c) p q r, nv 0] T w) :
  RunE 14 #[exVal 7 vk vn vs nm cc o (.slice A m c) p q r, nv least] ([40, 32] ++ T ++ [41, 32]) w := by
 intro w' hbw
 have HW := Lib.hid hbw
 clear hbw
 have dl : (6 : Int) < (least : Int) := by omega
 have H0 := Lib.hid h0
 clear h0
 go_enter Tryz.func14, Tryz.ntmps14
 go_upto_region 1 with fail
 have BX : Hid ((w'.alloc (exO 7 vk vn vs nm cc o (.slice A m c) p q r)).heap[w'.heap.size]? = some (exB 7 vk vn vs nm cc o (.slice A m c) p q r)) := Lib.hid (alloc_at rfl)
 have FW : Hid (Below w'.heap.size w' (w'.alloc (exO 7 vk vn vs nm cc o (.slice A m c) p q r))) := Lib.hid one_new
 obtain ⟨w1, hw1⟩ : ∃ W, w'.alloc (exO 7 vk vn vs nm cc o (.slice A m c) p q r) = W := ⟨_, rfl⟩
 rw [hw1] at BX FW ⊢
 clear hw1
 obtain ⟨⟨⟨⟨x0, x1⟩, x2, x3⟩, ⟨x4, x5⟩, x6, x7⟩, ⟨x8, x9⟩, x10⟩ := cells11 BX.out
 go_wp2_with fail
 refine (H0.out w1 (bthen HW.out FW.out)).mono ?_; rintro e w2 ⟨rfl, b2⟩
 go_wp2_with fail
 go_ret
 refine ⟨?_, bthen FW.out b2⟩
 show Ending.returned (.string (ByteArray.mk [40, 32].toArray ++ ByteArray.mk T.toArray ++ ByteArray.mk [41, 32].toArray)) = _
 rw [ba_append, ba_append]
 simp
theorem rbrk_bin (op least : Nat) (hop : 1 ≤ op ∧ op ≤ 12) (T : List UInt8) (hl : lvlS op < least) (hT : T.length ≤ 1000000000)
  (h0 : RunE 14 #[exVal 8 vk vn vs nm cc op (.slice A m c) p q r, nv 0] T w) :
  RunE 14 #[exVal 8 vk vn vs nm cc op (.slice A m c) p q r, nv least] ([40, 32] ++ T ++ [41, 32]) w := by
 intro w' hbw
 have HW := Lib.hid hbw
 clear hbw
 have dl : ((lvlS op : Nat) : Int) < (least : Int) := by omega
 have H0 := Lib.hid h0
 clear h0
 go_enter Tryz.func14, Tryz.ntmps14
 go_upto_region 1 with fail
 have BX : Hid ((w'.alloc (exO 8 vk vn vs nm cc op (.slice A m c) p q r)).heap[w'.heap.size]? = some (exB 8 vk vn vs nm cc op (.slice A m c) p q r)) := Lib.hid (alloc_at rfl)
 have FW : Hid (Below w'.heap.size w' (w'.alloc (exO 8 vk vn vs nm cc op (.slice A m c) p q r))) := Lib.hid one_new
 obtain ⟨w1, hw1⟩ : ∃ W, w'.alloc (exO 8 vk vn vs nm cc op (.slice A m c) p q r) = W := ⟨_, rfl⟩
 rw [hw1] at BX FW ⊢
 clear hw1
 obtain ⟨⟨⟨⟨x0, x1⟩, x2, x3⟩, ⟨x4, x5⟩, x6, x7⟩, ⟨x8, x9⟩, x10⟩ := cells11 BX.out
 go_wp2_with fail
 refine (binds_any op hop _).mono ?_; rintro e w3 ⟨rfl, rfl⟩
 go_wp2_with fail
 refine (H0.out w3 (bthen HW.out FW.out)).mono ?_; rintro e w2 ⟨rfl, b2⟩
 go_wp2_with fail
 go_ret
 refine ⟨?_, bthen FW.out b2⟩
 show Ending.returned (.string (ByteArray.mk [40, 32].toArray ++ ByteArray.mk T.toArray ++ ByteArray.mk [41, 32].toArray)) = _
 rw [ba_append, ba_append]
 simp
theorem rval_raw (least : Nat) (hl : least ≤ 7) (hs : vs.length ≤ 100000000) (hv1 : -9223372036854775808 ≤ vn) (hv2 : vn ≤ 9223372036854775807) (hT : (printV ⟨vk, vn, vs⟩).length ≤ 1000000000) :
  RunE 14 #[exVal 1 vk vn vs nm cc o (.slice A m c) p q r, nv least] (printV ⟨vk, vn, vs⟩ ++ [32]) w := by
 intro w' hbw
 have HW := Lib.hid hbw
 clear hbw
 have dl : ¬ (7 : Int) < (least : Int) := by omega
 go_enter Tryz.func14, Tryz.ntmps14
 go_upto_region 1 with fail
 have BX : Hid ((w'.alloc (exO 1 vk vn vs nm cc o (.slice A m c) p q r)).heap[w'.heap.size]? = some (exB 1 vk vn vs nm cc o (.slice A m c) p q r)) := Lib.hid (alloc_at rfl)
 have FW : Hid (Below w'.heap.size w' (w'.alloc (exO 1 vk vn vs nm cc o (.slice A m c) p q r))) := Lib.hid one_new
 obtain ⟨w1, hw1⟩ : ∃ W, w'.alloc (exO 1 vk vn vs nm cc o (.slice A m c) p q r) = W := ⟨_, rfl⟩
 rw [hw1] at BX FW ⊢
 clear hw1
 obtain ⟨⟨⟨⟨x0, x1⟩, x2, x3⟩, ⟨x4, x5⟩, x6, x7⟩, ⟨x8, x9⟩, x10⟩ := cells11 BX.out
 go_wp2_with fail
 refine (rprint_any ⟨vk, vn, vs⟩ w1 hs hv1 hv2).mono ?_; rintro e w3 ⟨rfl, b3⟩
 go_wp2_with fail
 go_ret
 refine ⟨?_, bthen FW.out b3⟩
 show Ending.returned (.string (ByteArray.mk (printV ⟨vk, vn, vs⟩).toArray ++ ByteArray.mk [32].toArray)) = _
 rw [ba_append]
theorem rvar_raw (least : Nat) (hl : least ≤ 7) (hn : nm.length ≤ 1000000000) :
  RunE 14 #[exVal 2 vk vn vs nm cc o (.slice A m c) p q r, nv least] (nm ++ [32]) w := by
 intro w' hbw
 have HW := Lib.hid hbw
 clear hbw
 have dl : ¬ (7 : Int) < (least : Int) := by omega
 go_enter Tryz.func14, Tryz.ntmps14
 go_upto_region 1 with fail
 have BX : Hid ((w'.alloc (exO 2 vk vn vs nm cc o (.slice A m c) p q r)).heap[w'.heap.size]? = some (exB 2 vk vn vs nm cc o (.slice A m c) p q r)) := Lib.hid (alloc_at rfl)
 have FW : Hid (Below w'.heap.size w' (w'.alloc (exO 2 vk vn vs nm cc o (.slice A m c) p q r))) := Lib.hid one_new
 obtain ⟨w1, hw1⟩ : ∃ W, w'.alloc (exO 2 vk vn vs nm cc o (.slice A m c) p q r) = W := ⟨_, rfl⟩
 rw [hw1] at BX FW ⊢
 clear hw1
 obtain ⟨⟨⟨⟨x0, x1⟩, x2, x3⟩, ⟨x4, x5⟩, x6, x7⟩, ⟨x8, x9⟩, x10⟩ := cells11 BX.out
 go_wp2_with fail
 go_ret
 refine ⟨?_, FW.out⟩
 show Ending.returned (.string (ByteArray.mk nm.toArray ++ ByteArray.mk [32].toArray)) = _
 rw [ba_append]
theorem rcell_raw (least : Nat) (hl : least ≤ 7) (hn : nm.length ≤ 100000000) (hc : cc.length ≤ 100000000) (V : Value) (T : List UInt8) (hT : T.length ≤ 100000000) (hp : PartE (.slice A m c) 0 V w) (h0 : RunE 14 #[V, nv 0] T w) :
  RunE 14 #[exVal 3 vk vn vs nm cc o (.slice A m c) p q r, nv least] (nm ++ [32, 91, 32] ++ T ++ [93, 32, 46, 32] ++ cc ++ [32]) w := by
 intro w' hbw
 have HW := Lib.hid hbw
 clear hbw
 have dl : ¬ (7 : Int) < (least : Int) := by omega
 have H0 := Lib.hid h0
 have HP := Lib.hid hp
 clear h0 hp
 go_enter Tryz.func14, Tryz.ntmps14
 go_upto_region 1 with fail
 have BX : Hid ((w'.alloc (exO 3 vk vn vs nm cc o (.slice A m c) p q r)).heap[w'.heap.size]? = some (exB 3 vk vn vs nm cc o (.slice A m c) p q r)) := Lib.hid (alloc_at rfl)
 have FW : Hid (Below w'.heap.size w' (w'.alloc (exO 3 vk vn vs nm cc o (.slice A m c) p q r))) := Lib.hid one_new
 obtain ⟨w1, hw1⟩ : ∃ W, w'.alloc (exO 3 vk vn vs nm cc o (.slice A m c) p q r) = W := ⟨_, rfl⟩
 rw [hw1] at BX FW ⊢
 clear hw1
 obtain ⟨⟨⟨⟨x0, x1⟩, x2, x3⟩, ⟨x4, x5⟩, x6, x7⟩, ⟨x8, x9⟩, x10⟩ := cells11 BX.out
 go_wp2_with fail
 have BD : Below w1.heap.size w1 w1.drew := (Below.refl _ _).drew
 refine wp_region_sched [(0, true), (1, true), (2, true), (3, true), (4, true), (9, true), (10, true), (5, false), (6, false), (7, true), (8, true), (11, true), (12, true), (13, true)] (by kernel_rfl) (by kernel_rfl) (fun _ _ d _ _ h => by cases d <;> exact h) ?_
 refine swith (fun W hW => (cells11 (box_next BX.out ((Below.refl _ _).drew.trans hW.out)))) (fun qx => ?_)
 repeat (first | (refine sreadx rfl rfl ?_; apply Exists.intro; apply And.intro; (· (intro W hW; go_simp; try (first | with_reducible rfl | (rw [if_neg (by omega)]; try with_reducible rfl)))); simp only [Act.put, List.setIfInBounds_toArray, List.set_cons_zero, List.set_cons_succ]) | (refine sskip rfl rfl ?_; simp only [Act.put, List.setIfInBounds_toArray, List.set_cons_zero, List.set_cons_succ]))
 refine scall rfl rfl (fun K hK => ?_)
 go_simp
 refine (HP.out _ (bthen (bthen HW.out FW.out) BD)).mono ?_; rintro e w5 ⟨rfl, b5⟩
 go_wp2_with fail
 refine hK.out _ _ (by exact b5) ?_
 clear hK K
 try simp only [Act.put, List.setIfInBounds_toArray, List.set_cons_zero, List.set_cons_succ]
 replace qx := fun (W : World) (hW : Grow w5 W) => qx W (Grow.trans (b5) hW)
 have B5 := bthen BD b5
 repeat (first | (refine sreadx rfl rfl ?_; apply Exists.intro; apply And.intro; (· (intro W hW; go_simp; try (first | with_reducible rfl | (rw [if_neg (by omega)]; try with_reducible rfl)))); simp only [Act.put, List.setIfInBounds_toArray, List.set_cons_zero, List.set_cons_succ]) | (refine sskip rfl rfl ?_; simp only [Act.put, List.setIfInBounds_toArray, List.set_cons_zero, List.set_cons_succ]))
 refine scall rfl rfl (fun K hK => ?_)
 go_simp
 refine (H0.out _ (bthen (bthen HW.out FW.out) B5)).mono ?_; rintro e w6 ⟨rfl, b6⟩
 go_wp2_with fail
 refine hK.out _ _ (by exact b6) ?_
 clear hK K
 try simp only [Act.put, List.setIfInBounds_toArray, List.set_cons_zero, List.set_cons_succ]
 replace qx := fun (W : World) (hW : Grow w6 W) => qx W (Grow.trans (b6) hW)
 have B6 := bthen B5 b6
 repeat (first | (refine sreadx rfl rfl ?_; apply Exists.intro; apply And.intro; (· (intro W hW; go_simp; try (first | with_reducible rfl | (rw [if_neg (by omega)]; try with_reducible rfl)))); simp only [Act.put, List.setIfInBounds_toArray, List.set_cons_zero, List.set_cons_succ]) | (refine sskip rfl rfl ?_; simp only [Act.put, List.setIfInBounds_toArray, List.set_cons_zero, List.set_cons_succ]))
 refine sdone ?_
 go_wp2_with fail
 go_ret
 refine ⟨?_, bthen FW.out B6⟩
 show Ending.returned (.string (ByteArray.mk nm.toArray ++ ByteArray.mk [32, 91, 32].toArray ++ ByteArray.mk T.toArray ++ ByteArray.mk [93, 32, 46, 32].toArray ++ ByteArray.mk cc.toArray ++ ByteArray.mk [32].toArray)) = _
 rw [ba_append, ba_append, ba_append, ba_append, ba_append]
theorem run_raw (op least : Nat) (hop : op = 13 ∨ op = 14) (hl : least ≤ 6) (V : Value) (T : List UInt8) (hT : T.length ≤ 100000000) (hp : PartE (.slice A m c) 0 V w) (h0 : RunE 14 #[V, nv 6] T w) :
  RunE 14 #[exVal 7 vk vn vs nm cc op (.slice A m c) p q r, nv least] ((if op = 13 then [33, 32] else [45, 32]) ++ T) w := by
 intro w' hbw
 have HW := Lib.hid hbw
 clear hbw
 have dl : ¬ (6 : Int) < (least : Int) := by omega
 have H0 := Lib.hid h0
 have HP := Lib.hid hp
 clear h0 hp
 go_enter Tryz.func14, Tryz.ntmps14
 go_upto_region 1 with fail
 have BX : Hid ((w'.alloc (exO 7 vk vn vs nm cc op (.slice A m c) p q r)).heap[w'.heap.size]? = some (exB 7 vk vn vs nm cc op (.slice A m c) p q r)) := Lib.hid (alloc_at rfl)
 have FW : Hid (Below w'.heap.size w' (w'.alloc (exO 7 vk vn vs nm cc op (.slice A m c) p q r))) := Lib.hid one_new
 obtain ⟨w1, hw1⟩ : ∃ W, w'.alloc (exO 7 vk vn vs nm cc op (.slice A m c) p q r) = W := ⟨_, rfl⟩
 rw [hw1] at BX FW ⊢
 clear hw1
 obtain ⟨⟨⟨⟨x0, x1⟩, x2, x3⟩, ⟨x4, x5⟩, x6, x7⟩, ⟨x8, x9⟩, x10⟩ := cells11 BX.out
 rcases hop with rfl | rfl
 ·go_wp2_with fail
  refine (HP.out _ (bthen HW.out FW.out)).mono ?_; rintro e w5 ⟨rfl, b5⟩
  go_wp2_with fail
  refine (H0.out _ (bthen (bthen HW.out FW.out) b5)).mono ?_; rintro e w6 ⟨rfl, b6⟩
  go_wp2_with fail
  go_ret
  refine ⟨?_, bthen (bthen FW.out b5) b6⟩
  show Ending.returned (.string (ByteArray.mk [33, 32].toArray ++ ByteArray.mk T.toArray)) = _
  rw [ba_append]
  rfl
 ·go_wp2_with fail
  refine (HP.out _ (bthen HW.out FW.out)).mono ?_; rintro e w5 ⟨rfl, b5⟩
  go_wp2_with fail
  refine (H0.out _ (bthen (bthen HW.out FW.out) b5)).mono ?_; rintro e w6 ⟨rfl, b6⟩
  go_wp2_with fail
  go_ret
  refine ⟨?_, bthen (bthen FW.out b5) b6⟩
  show Ending.returned (.string (ByteArray.mk [45, 32].toArray ++ ByteArray.mk T.toArray)) = _
  rw [ba_append]
  rfl
theorem rbin_raw (op least lv1 : Nat) (hop : 1 ≤ op ∧ op ≤ 12) (hl : least ≤ lvlS op) (hlv1 : lv1 = lvlS op + 1) (V U : Value) (T T2 : List UInt8) (hT : T.length ≤ 100000000) (hT2 : T2.length ≤ 100000000) (hp : PartE (.slice A m c) 0 V w) (hp2 : PartE (.slice A m c) 1 U w)
  (h0 : RunE 14 #[V, nv (lvlS op)] T w) (h2 : RunE 14 #[U, nv lv1] T2 w) :
  RunE 14 #[exVal 8 vk vn vs nm cc op (.slice A m c) p q r, nv least] (T ++ signS op ++ [32] ++ T2) w := by
 intro w' hbw
 have HW := Lib.hid hbw
 clear hbw
 have dl : ¬ ((lvlS op : Nat) : Int) < (least : Int) := by omega
 have hsl : (signS op).length ≤ 2 := by
  have hk : op = 1 ∨ op = 2 ∨ op = 3 ∨ op = 4 ∨ op = 5 ∨ op = 6 ∨ op = 7 ∨ op = 8 ∨ op = 9 ∨ op = 10 ∨ op = 11 ∨ op = 12 := by omega
  rcases hk with rfl | rfl | rfl | rfl | rfl | rfl | rfl | rfl | rfl | rfl | rfl | rfl <;> decide
 have hlv := (lvlS_bound hop).2
 have hwr : IntKind.i64.wrap (((lvlS op : Nat) : Int) + 1) = (lv1 : Int) := by rw [IntWalk.i64_in _ (by omega)]; omega
 clear hlv1
 have H0 := Lib.hid h0
 have HP := Lib.hid hp
 have H2 := Lib.hid h2
 have HP2 := Lib.hid hp2
 clear h0 hp h2 hp2
 go_enter Tryz.func14, Tryz.ntmps14
 go_upto_region 1 with fail
 have BX : Hid ((w'.alloc (exO 8 vk vn vs nm cc op (.slice A m c) p q r)).heap[w'.heap.size]? = some (exB 8 vk vn vs nm cc op (.slice A m c) p q r)) := Lib.hid (alloc_at rfl)
 have FW : Hid (Below w'.heap.size w' (w'.alloc (exO 8 vk vn vs nm cc op (.slice A m c) p q r))) := Lib.hid one_new
 obtain ⟨w1, hw1⟩ : ∃ W, w'.alloc (exO 8 vk vn vs nm cc op (.slice A m c) p q r) = W := ⟨_, rfl⟩
 rw [hw1] at BX FW ⊢
 clear hw1
 obtain ⟨⟨⟨⟨x0, x1⟩, x2, x3⟩, ⟨x4, x5⟩, x6, x7⟩, ⟨x8, x9⟩, x10⟩ := cells11 BX.out
 go_wp2_with fail
 refine (binds_any op hop _).mono ?_; rintro e w3 ⟨rfl, rfl⟩
 go_wp2_with fail
 obtain ⟨w1, hw1⟩ : ∃ w1, w1 = w3 := ⟨_, rfl⟩
 subst hw1
 have BD : Below w1.heap.size w1 w1.drew := (Below.refl _ _).drew
 refine wp_region_sched [(0, true), (1, true), (3, true), (5, true), (6, true), (10, true), (11, true), (13, true), (14, true), (2, false), (4, false), (7, false), (8, true), (9, true), (12, false), (15, false), (16, true), (17, true)] (by kernel_rfl) (by kernel_rfl) (fun _ _ d _ _ h => by cases d <;> exact h) ?_
 refine swith (fun W hW => (cells11 (box_next BX.out ((Below.refl _ _).drew.trans hW.out)))) (fun qx => ?_)
 repeat (first | (refine sreadx rfl rfl ?_; apply Exists.intro; apply And.intro; (· (intro W hW; go_simp; try (first | with_reducible rfl | (rw [if_neg (by omega)]; try with_reducible rfl)))); simp only [Act.put, List.setIfInBounds_toArray, List.set_cons_zero, List.set_cons_succ]) | (refine sskip rfl rfl ?_; simp only [Act.put, List.setIfInBounds_toArray, List.set_cons_zero, List.set_cons_succ]))
 refine scall rfl rfl (fun K hK => ?_)
 go_simp
 refine (HP.out _ (bthen (bthen HW.out FW.out) BD)).mono ?_; rintro e w5 ⟨rfl, b5⟩
 go_wp2_with fail
 refine hK.out _ _ (by exact b5) ?_
 clear hK K
 try simp only [Act.put, List.setIfInBounds_toArray, List.set_cons_zero, List.set_cons_succ]
 replace qx := fun (W : World) (hW : Grow w5 W) => qx W (Grow.trans (b5) hW)
 have B5 := bthen BD b5
 repeat (first | (refine sreadx rfl rfl ?_; apply Exists.intro; apply And.intro; (· (intro W hW; go_simp; try (first | with_reducible rfl | (rw [if_neg (by omega)]; try with_reducible rfl)))); simp only [Act.put, List.setIfInBounds_toArray, List.set_cons_zero, List.set_cons_succ]) | (refine sskip rfl rfl ?_; simp only [Act.put, List.setIfInBounds_toArray, List.set_cons_zero, List.set_cons_succ]))
 refine scall rfl rfl (fun K hK => ?_)
 go_simp
 refine (H0.out _ (bthen (bthen HW.out FW.out) B5)).mono ?_; rintro e w6 ⟨rfl, b6⟩
 go_wp2_with fail
 refine hK.out _ _ (by exact b6) ?_
 clear hK K
 try simp only [Act.put, List.setIfInBounds_toArray, List.set_cons_zero, List.set_cons_succ]
 replace qx := fun (W : World) (hW : Grow w6 W) => qx W (Grow.trans (b6) hW)
 have B6 := bthen B5 b6
 repeat (first | (refine sreadx rfl rfl ?_; apply Exists.intro; apply And.intro; (· (intro W hW; go_simp; try (first | with_reducible rfl | (rw [if_neg (by omega)]; try with_reducible rfl)))); simp only [Act.put, List.setIfInBounds_toArray, List.set_cons_zero, List.set_cons_succ]) | (refine sskip rfl rfl ?_; simp only [Act.put, List.setIfInBounds_toArray, List.set_cons_zero, List.set_cons_succ]))
 refine scall rfl rfl (fun K hK => ?_)
 go_simp
 refine (rsign_any op hop _).mono ?_; rintro e w7 ⟨rfl, rfl⟩
 go_wp2_with fail
 refine hK.out _ _ (by exact (Grow.refl _)) ?_
 clear hK K
 try simp only [Act.put, List.setIfInBounds_toArray, List.set_cons_zero, List.set_cons_succ]
 repeat (first | (refine sreadx rfl rfl ?_; apply Exists.intro; apply And.intro; (· (intro W hW; go_simp; try (first | with_reducible rfl | (rw [if_neg (by omega)]; try with_reducible rfl)))); simp only [Act.put, List.setIfInBounds_toArray, List.set_cons_zero, List.set_cons_succ]) | (refine sskip rfl rfl ?_; simp only [Act.put, List.setIfInBounds_toArray, List.set_cons_zero, List.set_cons_succ]))
 refine scall rfl rfl (fun K hK => ?_)
 go_simp
 refine (HP2.out _ (bthen (bthen HW.out FW.out) B6)).mono ?_; rintro e w8 ⟨rfl, b8⟩
 go_wp2_with fail
 refine hK.out _ _ (by exact b8) ?_
 clear hK K
 try simp only [Act.put, List.setIfInBounds_toArray, List.set_cons_zero, List.set_cons_succ]
 replace qx := fun (W : World) (hW : Grow w8 W) => qx W (Grow.trans (b8) hW)
 have B8 := bthen B6 b8
 repeat (first | (refine sreadx rfl rfl ?_; apply Exists.intro; apply And.intro; (· (intro W hW; go_simp; try (first | with_reducible rfl | (rw [if_neg (by omega)]; try with_reducible rfl)))); simp only [Act.put, List.setIfInBounds_toArray, List.set_cons_zero, List.set_cons_succ]) | (refine sskip rfl rfl ?_; simp only [Act.put, List.setIfInBounds_toArray, List.set_cons_zero, List.set_cons_succ]))
 refine scall rfl rfl (fun K hK => ?_)
 go_simp
 refine (H2.out _ (bthen (bthen HW.out FW.out) B8)).mono ?_; rintro e w9 ⟨rfl, b9⟩
 go_wp2_with fail
 refine hK.out _ _ (by exact b9) ?_
 clear hK K
 try simp only [Act.put, List.setIfInBounds_toArray, List.set_cons_zero, List.set_cons_succ]
 replace qx := fun (W : World) (hW : Grow w9 W) => qx W (Grow.trans (b9) hW)
 have B9 := bthen B8 b9
 repeat (first | (refine sreadx rfl rfl ?_; apply Exists.intro; apply And.intro; (· (intro W hW; go_simp; try (first | with_reducible rfl | (rw [if_neg (by omega)]; try with_reducible rfl)))); simp only [Act.put, List.setIfInBounds_toArray, List.set_cons_zero, List.set_cons_succ]) | (refine sskip rfl rfl ?_; simp only [Act.put, List.setIfInBounds_toArray, List.set_cons_zero, List.set_cons_succ]))
 refine sdone ?_
 go_wp2_with fail
 go_ret
 refine ⟨?_, bthen FW.out B9⟩
 show Ending.returned (.string (ByteArray.mk T.toArray ++ ByteArray.mk (signS op).toArray ++ ByteArray.mk [32].toArray ++ ByteArray.mk T2.toArray)) = _
 rw [ba_append, ba_append, ba_append]
end
end Go.Proofs.YtnbmpfdffoidaaaGreat.Y
namespace Go.Proofs.YtnbmpfdffoidaaaGreat.Y
open Go.RowKit O V S X
theorem ex_ext {x y : Ex} : x = y ↔ ((hdK x = hdK y ∧ hdV x = hdV y) ∧ (hdN x = hdN y ∧ hdC x = hdC y) ∧ hdO x = hdO y) ∧ parts x = parts y := by
 cases x <;> cases y <;> simp [hdK, hdV, hdN, hdC, hdO, parts] <;> grind
def RX (w : World) (S : Nat → Prop) (A : Option Addr) (c : Nat) (l : List Ex) : Prop := ∃ es, Row w S 11 A l.length c es ∧ Reps (ExR w S) l es
theorem RX.keep {w w' : World} {S : Nat → Prop} {A : Option Addr} {c : Nat} {l : List Ex} (h : RX w S A c l) (hk : ∀ b, S b → w'.heap[b]? = w.heap[b]?) : RX w' S A c l := by
 obtain ⟨es, h1, h2⟩ := h
 exact ⟨es, h1.keep hk, h2.imp fun y us => ExR.keep hk y us⟩
theorem RX.at_ {w : World} {S : Nat → Prop} {l : List Ex} {A : Option Addr} {c : Nat} (h : RX w S A c l) {B : Nat} (hS : ∀ b, S b → b < B) {i : Nat} (hi : i < l.length) :
  ∃ b off A' c' p q r, A = some ⟨b, off, none⟩ ∧ b < B ∧ (∀ j, j < 11 → w.cell? ⟨b, off + i * 11 + j, none⟩ = (exC l[i] (.slice A' (parts l[i]).length c') p q r)[j]?) ∧ RX w S A' c' (parts l[i]) := by
 obtain ⟨es, h1, h2⟩ := h
 obtain ⟨b, off, vs, e, hb, hr, hc⟩ := (h1.rd hS).elem ExR.size h2 hi (by omega)
 obtain ⟨A', c', p, q, r, rfl, h3⟩ := ExAt.of hr
 exact ⟨b, off, A', c', p, q, r, e, hb, hc, h3.ex⟩
theorem take_same {α : Type} {l m : List α} {k : Nat} (h : k < l.length) (h' : k < m.length) (e : l.take k = m.take k) (he : l[k] = m[k]) : l.take (k + 1) = m.take (k + 1) := by
 rw [List.take_succ_eq_append_getElem h, List.take_succ_eq_append_getElem h', e, he]
theorem ne_at {α : Type} {l m : List α} {k : Nat} (h : k < l.length) (h' : k < m.length) (he : l[k] ≠ m[k]) : l ≠ m := fun e => he (by subst e; rfl)
def RetQ (P : Prop) (e : Ending) : Prop := ∃ b : Bool, e = .returned (.bool b) ∧ (b = true ↔ P)
def SameR (l : List Ex) : Prop := ∀ (m : List Ex) (A B : Option Addr) (c c' : Nat) (S S' : Nat → Prop) (w : World), RX w S A c l → RX w S' B c' m → (∀ b, S b → b < w.heap.size) → (∀ b, S' b → b < w.heap.size) → l.length ≤ 1000000 → m.length ≤ 1000000 →
 Calls Tryz.prog 12 #[.slice A l.length c, .slice B m.length c', .bool false] w fun e w' => RetQ (l = m) e ∧ Below w.heap.size w w'
theorem same_step (l : List Ex) (ih : ∀ x ∈ l, SameR (parts x)) : SameR l := by
 intro m A B c c' S S' w h1 h2 hS hS' hl hm
 have HIH := Lib.hid ih
 clear ih
 by_cases hne : l.length = m.length
 ·obtain ⟨n, hn⟩ : ∃ n, l.length = n := ⟨_, rfl⟩
  have hn2 : m.length = n := by omega
  have HN := Lib.hid hn
  have HN2 := Lib.hid hn2
  rw [hn, hn2]
  rw [hn] at hl
  clear hn hn2 hm hne
  have H1 := Lib.hid h1
  have H2 := Lib.hid h2
  have HS := Lib.hid hS
  have HS' := Lib.hid hS'
  clear h1 h2 hS hS'
  go_enter Tryz.func12, Tryz.ntmps12
  go_wp2_with fail
  go_loopw [6, 17] (fun _ i wr => ∃ k : Nat, k ≤ n ∧ i = .int .i64 k ∧ Hid (l.take k = m.take k) ∧ Below w.heap.size w wr) (fun _ i _ => n - (intOf i).toNat)
  case atStart => exact ⟨0, by omega, rfl, Lib.hid (by simp), Below.refl _ _⟩
  case round =>
   obtain ⟨k, hk, rfl, H, hb⟩ := hrel
   by_cases hlt : k < n
   ·have hlt' : k < l.length := by rw [HN.out]; exact hlt
    have hlt2 : k < m.length := by rw [HN2.out]; exact hlt
    have hki : (k : Int) < (n : Int) := by omega
    obtain ⟨b1, off1, A1, c1, p1, q1, r1, rfl, hb1, hc1, g1⟩ := (H1.out.keep (w' := wr) fun b hB => hb.block b (HS.out b hB)).at_ HS.out hlt'
    obtain ⟨b2, off2, A2, c2, p2, q2, r2, rfl, hb2, hc2, g2⟩ := (H2.out.keep (w' := wr) fun b hB => hb.block b (HS'.out b hB)).at_ HS'.out hlt2
    have hst := Lib.hid (take_same hlt' hlt2 H.out)
    have hno := Lib.hid (ne_at hlt' hlt2)
    have hih := Lib.hid (HIH.out _ (List.getElem_mem hlt'))
    have G1 := Lib.hid g1
    have G2 := Lib.hid g2
    have hL1 := parts_len l[k]
    have hL2 := parts_len m[k]
    have hx := Lib.hid (ex_ext (x := l[k]) (y := m[k]))
    clear g1 g2
    have hz := hb.size
    have hbw1 : b1 < wr.heap.size := by omega
    have hbw2 : b2 < wr.heap.size := by omega
    generalize l[k] = x at *
    generalize m[k] = y at *
    have HNO : Hid (¬ (((hdK x = hdK y ∧ hdV x = hdV y) ∧ (hdN x = hdN y ∧ hdC x = hdC y) ∧ hdO x = hdO y) ∧ parts x = parts y) → l ≠ m) := Lib.hid fun h => hno.out fun e => h (hx.out.1 e)
    have HYES : Hid (((hdK x = hdK y ∧ hdV x = hdV y) ∧ (hdN x = hdN y ∧ hdC x = hdC y) ∧ hdO x = hdO y) ∧ parts x = parts y → l.take (k + 1) = m.take (k + 1)) := Lib.hid fun h => hst.out (hx.out.2 h)
    clear hno hst hx
    unfold exC at hc1 hc2
    generalize hdK x = xk at *
    generalize hdV x = xv at *
    generalize hdN x = xn at *
    generalize hdC x = xc at *
    generalize hdO x = xo at *
    generalize hdK y = yk at *
    generalize hdV y = yv at *
    generalize hdN y = yn at *
    generalize hdC y = yc at *
    generalize hdO y = yo at *
    generalize parts x = xl at *
    generalize parts y = yl at *
    have xy0 : wr.cell? ⟨b1, off1 + k * 11, none⟩ = some (nv xk) := hc1 0 (by omega)
    have xy1 : wr.cell? ⟨b1, off1 + k * 11 + 1, none⟩ = some (nv xv.k) := hc1 1 (by omega)
    have xy2 : wr.cell? ⟨b1, off1 + k * 11 + 2, none⟩ = some (nv xv.n) := hc1 2 (by omega)
    have xy3 : wr.cell? ⟨b1, off1 + k * 11 + 3, none⟩ = some (sv xv.s) := hc1 3 (by omega)
    have xy4 : wr.cell? ⟨b1, off1 + k * 11 + 4, none⟩ = some (sv xn) := hc1 4 (by omega)
    have xy5 : wr.cell? ⟨b1, off1 + k * 11 + 5, none⟩ = some (sv xc) := hc1 5 (by omega)
    have xy6 : wr.cell? ⟨b1, off1 + k * 11 + 6, none⟩ = some (nv (xo : Nat)) := hc1 6 (by omega)
    have xy7 : wr.cell? ⟨b1, off1 + k * 11 + 7, none⟩ = some (.slice A1 xl.length c1) := hc1 7 (by omega)
    have xy8 : wr.cell? ⟨b1, off1 + k * 11 + 8, none⟩ = some (nv p1) := hc1 8 (by omega)
    have xy9 : wr.cell? ⟨b1, off1 + k * 11 + 9, none⟩ = some (nv q1) := hc1 9 (by omega)
    have xy10 : wr.cell? ⟨b1, off1 + k * 11 + 10, none⟩ = some (nv r1) := hc1 10 (by omega)
    have yy0 : wr.cell? ⟨b2, off2 + k * 11, none⟩ = some (nv yk) := hc2 0 (by omega)
    have yy1 : wr.cell? ⟨b2, off2 + k * 11 + 1, none⟩ = some (nv yv.k) := hc2 1 (by omega)
    have yy2 : wr.cell? ⟨b2, off2 + k * 11 + 2, none⟩ = some (nv yv.n) := hc2 2 (by omega)
    have yy3 : wr.cell? ⟨b2, off2 + k * 11 + 3, none⟩ = some (sv yv.s) := hc2 3 (by omega)
    have yy4 : wr.cell? ⟨b2, off2 + k * 11 + 4, none⟩ = some (sv yn) := hc2 4 (by omega)
    have yy5 : wr.cell? ⟨b2, off2 + k * 11 + 5, none⟩ = some (sv yc) := hc2 5 (by omega)
    have yy6 : wr.cell? ⟨b2, off2 + k * 11 + 6, none⟩ = some (nv (yo : Nat)) := hc2 6 (by omega)
    have yy7 : wr.cell? ⟨b2, off2 + k * 11 + 7, none⟩ = some (.slice A2 yl.length c2) := hc2 7 (by omega)
    have yy8 : wr.cell? ⟨b2, off2 + k * 11 + 8, none⟩ = some (nv p2) := hc2 8 (by omega)
    have yy9 : wr.cell? ⟨b2, off2 + k * 11 + 9, none⟩ = some (nv q2) := hc2 9 (by omega)
    have yy10 : wr.cell? ⟨b2, off2 + k * 11 + 10, none⟩ = some (nv r2) := hc2 10 (by omega)
    clear hc1 hc2 H
    by_cases e0 : xk = yk
    ·subst e0
     by_cases e1 : xv = yv
     ·subst e1
      have s1 := fun w => vneq_no xv w
      by_cases e2 : xn = yn
      ·subst e2
       have s2 := fun w => sneq_no xn w
       by_cases e3 : xc = yc
       ·subst e3
        have s3 := fun w => sneq_no xc w
        by_cases e4 : xo = yo
        ·subst e4
         go_wp2_with fail
         refine (hih.out yl A1 A2 c1 c2 S S' _ (G1.out.keep fun b hB => ?_) (G2.out.keep fun b hB => ?_) (fun b hB => ?_) (fun b hB => ?_) (by omega) (by omega)).mono ?_
         ·exact ((Below.refl wr.heap.size wr).alloc (Nat.le_refl _) _ |>.alloc (by simp) _).block b (by have := HS.out b hB; omega)
         ·exact ((Below.refl wr.heap.size wr).alloc (Nat.le_refl _) _ |>.alloc (by simp) _).block b (by have := HS'.out b hB; omega)
         ·have := HS.out b hB; simp; omega
         ·have := HS'.out b hB; simp; omega
         rintro e w5 ⟨⟨bb, rfl, hbb⟩, b5⟩
         have HBB := Lib.hid hbb
         clear hbb
         have B5 : Below w.heap.size w w5 := bthen (by repeat (first | (with_reducible exact hb) | refine Below.alloc ?_ (by first | omega | (simp <;> omega)) _)) b5
         cases bb with
         | false =>
          go_wp2_with fail
          go_ret
          refine ⟨⟨false, rfl, ?_⟩, B5⟩
          have := HNO.out (by simpa using HBB.out)
          simp [this]
         | true =>
          go_wp2_with fail
          go_roundw
          case rel => exact ⟨k + 1, by omega, by go_num, Lib.hid (HYES.out (by simpa using HBB.out)), B5⟩
          case measure => simp [intOf]; omega
        ·have d4 : ((xo : Int) != (yo : Int)) = true := by simp; omega
         go_wp2_with fail
         go_ret
         refine ⟨⟨false, rfl, ?_⟩, ?_⟩
         ·have := HNO.out (fun h => e4 h.1.2.2)
          simp [this]
         ·repeat (first | (with_reducible exact hb) | refine Below.alloc ?_ (by first | omega | (simp <;> omega)) _)
       ·have s3 := fun w => sneq_yes e3 w
        go_wp2_with fail
        go_ret
        refine ⟨⟨false, rfl, ?_⟩, ?_⟩
        ·have := HNO.out (fun h => e3 h.1.2.1.2)
         simp [this]
        ·repeat (first | (with_reducible exact hb) | refine Below.alloc ?_ (by first | omega | (simp <;> omega)) _)
      ·have s2 := fun w => sneq_yes e2 w
       go_wp2_with fail
       go_ret
       refine ⟨⟨false, rfl, ?_⟩, ?_⟩
       ·have := HNO.out (fun h => e2 h.1.2.1.1)
        simp [this]
       ·repeat (first | (with_reducible exact hb) | refine Below.alloc ?_ (by first | omega | (simp <;> omega)) _)
     ·have s1 := fun w => vneq_yes e1 w
      go_wp2_with fail
      go_ret
      refine ⟨⟨false, rfl, ?_⟩, ?_⟩
      ·have := HNO.out (fun h => e1 h.1.1.2)
       simp [this]
      ·repeat (first | (with_reducible exact hb) | refine Below.alloc ?_ (by first | omega | (simp <;> omega)) _)
    ·have d0 : (xk != yk) = true := by simpa using e0
     go_wp2_with fail
     go_ret
     refine ⟨⟨false, rfl, ?_⟩, ?_⟩
     ·have := HNO.out (fun h => e0 h.1.1.1)
      simp [this]
     ·repeat (first | (with_reducible exact hb) | refine Below.alloc ?_ (by first | omega | (simp <;> omega)) _)
   ·obtain rfl : k = n := by omega
    have hall : l = m := by
     have := H.out
     rwa [List.take_of_length_le (by rw [HN.out]; exact Nat.le_refl _), List.take_of_length_le (by rw [HN2.out]; exact Nat.le_refl _)] at this
    go_wp2_with fail
    go_ret
    exact ⟨⟨true, rfl, by simp [hall]⟩, hb⟩
 ·have hr : Hid (l ≠ m) := Lib.hid (fun e => hne (by rw [e]))
  have d1 : ((l.length : Int) != (m.length : Int)) = true := by simp; omega
  clear h1 h2
  go_enter Tryz.func12, Tryz.ntmps12
  go_wp2_with fail
  go_ret
  exact ⟨⟨false, rfl, by simp [hr.out]⟩, Below.refl _ _⟩
theorem sameR_parts : ∀ x : Ex, SameR (parts x) := Ex.ind fun x ih => same_step _ ih
theorem sameR_any (l : List Ex) : SameR l := same_step l fun x _ => sameR_parts x
end Go.Proofs.YtnbmpfdffoidaaaGreat.Y
namespace Go.Proofs.YtnbmpfdffoidaaaGreat.Y
open Go.RowKit O V S X
def aT (l : List Ex) : List UInt8 := l.flatMap fun y => [44, 32] ++ sp (toks0 y)
theorem aT_snoc (l : List Ex) (y : Ex) : aT (l ++ [y]) = aT l ++ ([44, 32] ++ sp (toks0 y)) := by unfold aT; rw [List.flatMap_append]; simp
theorem aT_len_le (l : List Ex) (k : Nat) : (aT (l.take k)).length ≤ (aT l).length := by
 conv => rhs; rw [← List.take_append_drop k l]
 unfold aT
 rw [List.flatMap_append, List.length_append]
 omega
theorem aT_take_le {l : List Ex} {k : Nat} (h : k < l.length) : (aT (l.take k)).length + 2 + (sp (toks0 l[k])).length ≤ (aT l).length := by
 have := aT_len_le l (k + 1)
 rw [List.take_succ_eq_append_getElem h, aT_snoc, List.length_append, List.length_append] at this
 simp only [List.length_cons, List.length_nil] at this
 omega
def RPX (x : Ex) (least : Nat) : Prop := (sp (toksX x least)).length ≤ 100000000 → ∀ (A : Option Addr) (c : Nat) (p q r : Int) (S : Nat → Prop) (w : World), ExAt w S x A c → (∀ b, S b → b < w.heap.size) →
 RunE 14 #[exX x A c p q r, nv least] (sp (toksX x least)) w
section
variable (vk vn : Int) (vs nm cc : List UInt8) (o : Int) (A : Option Addr) (c : Nat) (p q r : Int) (w : World) (l : List Ex) (S : Nat → Prop)
theorem rq4 (hn2 : l.length ≤ 2) (hx : RX w S A c l) (hS : ∀ b, S b → b < w.heap.size) (ih : ∀ y ∈ l, RPX y 0) (least : Nat) (hl : least ≤ 7)   (hlen1 : (aT l).length ≤ 100000000) (hlim : nm.length + cc.length + (aT l).length + 20 ≤ 100000100) : RunE 14 #[exVal 4 vk vn vs nm cc o (.slice A l.length c) p q r, nv least] (w_has ++ [32, 40, 32] ++ nm ++ [32] ++ aT l ++ [41, 32]) w := by
 intro w' hbw
 have HW := Lib.hid hbw
 clear hbw
 have dl : ¬ (7 : Int) < (least : Int) := by omega
 obtain ⟨n, hn⟩ : ∃ n, l.length = n := ⟨_, rfl⟩
 rw [hn] at hn2 ⊢
 have HX := Lib.hid hx
 have HS := Lib.hid hS
 have HI := Lib.hid ih
 have HN := Lib.hid hn
 clear hx hS ih hn
 have hnm : nm.length ≤ 100000100 := by omega
 have hcm : cc.length ≤ 100000100 := by omega
 go_enter Tryz.func14, Tryz.ntmps14
 go_upto_region 1 with fail
 have BX : Hid ((w'.alloc (exO 4 vk vn vs nm cc o (.slice A n c) p q r)).heap[w'.heap.size]? = some (exB 4 vk vn vs nm cc o (.slice A n c) p q r)) := Lib.hid (alloc_at rfl)
 have FW : Hid (Below w'.heap.size w' (w'.alloc (exO 4 vk vn vs nm cc o (.slice A n c) p q r))) := Lib.hid one_new
 obtain ⟨w1, hw1⟩ : ∃ W, w'.alloc (exO 4 vk vn vs nm cc o (.slice A n c) p q r) = W := ⟨_, rfl⟩
 rw [hw1] at BX FW ⊢
 clear hw1
 obtain ⟨⟨⟨⟨x0, x1⟩, x2, x3⟩, ⟨x4, x5⟩, x6, x7⟩, ⟨x8, x9⟩, x10⟩ := cells11 BX.out
 have hlt1 : w'.heap.size < w1.heap.size := (Array.getElem?_eq_some_iff.1 BX.out).1
 go_wp2_with fail
 go_region
 go_wp2_with fail
 have hs : ByteArray.mk #[104, 97, 115] ++ ByteArray.mk #[32, 40, 32] ++ ByteArray.mk nm.toArray ++ ByteArray.mk #[32] = ByteArray.mk (w_has ++ [32, 40, 32] ++ nm ++ [32]).toArray := by
  show ByteArray.mk w_has.toArray ++ ByteArray.mk [32, 40, 32].toArray ++ ByteArray.mk nm.toArray ++ ByteArray.mk [32].toArray = _
  rw [ba_append, ba_append, ba_append]
 obtain ⟨F, hF⟩ : ∃ Z : List UInt8, w_has ++ [32, 40, 32] ++ nm ++ [32] = Z := ⟨_, rfl⟩
 have hFl : F.length + (aT l).length + 2 ≤ 100000100 := by rw [← hF]; have := hlim; simp [w_has, w_sum, w_count] at this ⊢; omega
 rw [hs, hF]
 clear hs
 have HF := Lib.hid hF
 clear hF hlim
 clear x0 x1 x2 x3 x4 x5 x6 x7 x8 x9 x10
 obtain ⟨w3, hw3⟩ : ∃ W, (w1.alloc (Obj.cells #[.string ⟨#[104, 97, 115]⟩, .string ⟨#[115, 117, 109]⟩, .string ⟨#[99, 111, 117, 110, 116]⟩] 9)).drew = W := ⟨_, rfl⟩
 have F3 : Hid (Below w'.heap.size w' w3) := Lib.hid (bthen FW.out (by rw [← hw3]; exact ((Below.refl _ _).alloc (Nat.le_refl _) _).drew))
 rw [hw3]
 clear hw3 FW BX hlt1
 go_loopw [6, 80] (fun s i wr => ∃ k : Nat, k ≤ n ∧ i = .int .i64 k ∧ s = sv (F ++ aT (l.take k)) ∧ Below w'.heap.size w' wr) (fun _ i _ => n - (intOf i).toNat)
 case atStart => exact ⟨0, Nat.zero_le _, rfl, by rw [List.take_zero]; show _ = sv (F ++ []); rw [List.append_nil], F3.out⟩
 case round =>
  obtain ⟨k, hk, rfl, rfl, hb⟩ := hrel
  by_cases hlk : k < n
  ·have hlk' : k < l.length := by rw [HN.out]; exact hlk
   have hbw := bthen HW.out hb
   have HB := Lib.hid hbw
   obtain ⟨b, off, A', c', p', q', r', rfl, hb1, hc, h3⟩ := (HX.out.keep (w' := wr) fun b hB => hbw.block b (HS.out b hB)).at_ HS.out hlk'
   have hle := aT_take_le hlk'
   have hsn : aT (l.take (k + 1)) = aT (l.take k) ++ ([44, 32] ++ sp (toks0 l[k])) := by rw [List.take_succ_eq_append_getElem hlk', aT_snoc]
   have hpx := HI.out l[k] (List.getElem_mem hlk')
   have HSN := Lib.hid hsn
   have HLE := Lib.hid hle
   have H3 : Hid (ExAt wr S l[k] A' c') := Lib.hid ⟨h3⟩
   have HPX := Lib.hid hpx
   clear hsn hle h3 hpx
   generalize l[k] = y at *
   have y0 : wr.cell? ⟨b, off + k * 11, none⟩ = some (nv (hdK y)) := hc 0 (by omega)
   have y1 : wr.cell? ⟨b, off + k * 11 + 1, none⟩ = some (nv (hdV y).k) := hc 1 (by omega)
   have y2 : wr.cell? ⟨b, off + k * 11 + 2, none⟩ = some (nv (hdV y).n) := hc 2 (by omega)
   have y3 : wr.cell? ⟨b, off + k * 11 + 3, none⟩ = some (sv (hdV y).s) := hc 3 (by omega)
   have y4 : wr.cell? ⟨b, off + k * 11 + 4, none⟩ = some (sv (hdN y)) := hc 4 (by omega)
   have y5 : wr.cell? ⟨b, off + k * 11 + 5, none⟩ = some (sv (hdC y)) := hc 5 (by omega)
   have y6 : wr.cell? ⟨b, off + k * 11 + 6, none⟩ = some (nv (hdO y : Nat)) := hc 6 (by omega)
   have y7 : wr.cell? ⟨b, off + k * 11 + 7, none⟩ = some (.slice A' (parts y).length c') := hc 7 (by omega)
   have y8 : wr.cell? ⟨b, off + k * 11 + 8, none⟩ = some (nv p') := hc 8 (by omega)
   have y9 : wr.cell? ⟨b, off + k * 11 + 9, none⟩ = some (nv q') := hc 9 (by omega)
   have y10 : wr.cell? ⟨b, off + k * 11 + 10, none⟩ = some (nv r') := hc 10 (by omega)
   clear hc
   have hki : (k : Int) < (n : Int) := by omega
   have hz := hbw.size
   have hbr : b < wr.heap.size := by omega
   have e0 : toksX y 0 = toks0 y := toksX_no (by omega)
   have hspl : (sp (toks0 y)).length ≤ 100000000 := by have := HLE.out; omega
   have hFk : (F ++ aT (l.take k)).length ≤ 100000200 := by have := HLE.out; simp; omega
   go_wp2_with fail
   refine (HPX.out (by rw [e0]; exact hspl) A' c' p' q' r' S _ (H3.out.keep (fun b hB => one_new.block b (by have := HS.out b hB; omega))) (fun b hB => by have := HS.out b hB; simp; omega) _ (Below.refl _ _)).mono ?_; rintro e w6 ⟨rfl, b6⟩
   rw [e0]
   go_wp2_with fail
   ·exfalso
    rename_i hbig
    simp at hbig hFk
    omega
   go_roundw
   case rel =>
    refine ⟨k + 1, by omega, by go_num, ?_, hb.trans ((bthen one_new b6).mono hb.size)⟩
    rw [HSN.out]
    show Value.string (ByteArray.mk (F ++ aT (l.take k)).toArray ++ (ByteArray.mk [44, 32].toArray ++ ByteArray.mk (sp (toks0 y)).toArray)) = _
    rw [ba_append, ba_append, List.append_assoc]
   case measure => simp [intOf]; omega
  ·obtain rfl : k = n := by omega
   have hall : l.take k = l := List.take_of_length_le (by rw [HN.out]; exact Nat.le_refl _)
   rw [hall]
   have hFl' : (F ++ aT l).length ≤ 100000200 := by simp; omega
   go_wp2_with fail
   go_ret
   refine ⟨?_, hb⟩
   show Ending.returned (.string (ByteArray.mk (F ++ aT l).toArray ++ ByteArray.mk [41, 32].toArray)) = _
   rw [ba_append, ← HF.out]
   try simp
theorem rq6 (hn2 : l.length ≤ 2) (hx : RX w S A c l) (hS : ∀ b, S b → b < w.heap.size) (ih : ∀ y ∈ l, RPX y 0) (least : Nat) (hl : least ≤ 7)   (hlen1 : (aT l).length ≤ 100000000) (hlim : nm.length + cc.length + (aT l).length + 20 ≤ 100000100) : RunE 14 #[exVal 6 vk vn vs nm cc o (.slice A l.length c) p q r, nv least] (w_count ++ [32, 40, 32] ++ nm ++ [32] ++ aT l ++ [41, 32]) w := by
 intro w' hbw
 have HW := Lib.hid hbw
 clear hbw
 have dl : ¬ (7 : Int) < (least : Int) := by omega
 obtain ⟨n, hn⟩ : ∃ n, l.length = n := ⟨_, rfl⟩
 rw [hn] at hn2 ⊢
 have HX := Lib.hid hx
 have HS := Lib.hid hS
 have HI := Lib.hid ih
 have HN := Lib.hid hn
 clear hx hS ih hn
 have hnm : nm.length ≤ 100000100 := by omega
 have hcm : cc.length ≤ 100000100 := by omega
 go_enter Tryz.func14, Tryz.ntmps14
 go_upto_region 1 with fail
 have BX : Hid ((w'.alloc (exO 6 vk vn vs nm cc o (.slice A n c) p q r)).heap[w'.heap.size]? = some (exB 6 vk vn vs nm cc o (.slice A n c) p q r)) := Lib.hid (alloc_at rfl)
 have FW : Hid (Below w'.heap.size w' (w'.alloc (exO 6 vk vn vs nm cc o (.slice A n c) p q r))) := Lib.hid one_new
 obtain ⟨w1, hw1⟩ : ∃ W, w'.alloc (exO 6 vk vn vs nm cc o (.slice A n c) p q r) = W := ⟨_, rfl⟩
 rw [hw1] at BX FW ⊢
 clear hw1
 obtain ⟨⟨⟨⟨x0, x1⟩, x2, x3⟩, ⟨x4, x5⟩, x6, x7⟩, ⟨x8, x9⟩, x10⟩ := cells11 BX.out
 have hlt1 : w'.heap.size < w1.heap.size := (Array.getElem?_eq_some_iff.1 BX.out).1
 go_wp2_with fail
 go_region
 go_wp2_with fail
 have hs : ByteArray.mk #[99, 111, 117, 110, 116] ++ ByteArray.mk #[32, 40, 32] ++ ByteArray.mk nm.toArray ++ ByteArray.mk #[32] = ByteArray.mk (w_count ++ [32, 40, 32] ++ nm ++ [32]).toArray := by
  show ByteArray.mk w_count.toArray ++ ByteArray.mk [32, 40, 32].toArray ++ ByteArray.mk nm.toArray ++ ByteArray.mk [32].toArray = _
  rw [ba_append, ba_append, ba_append]
 obtain ⟨F, hF⟩ : ∃ Z : List UInt8, w_count ++ [32, 40, 32] ++ nm ++ [32] = Z := ⟨_, rfl⟩
 have hFl : F.length + (aT l).length + 2 ≤ 100000100 := by rw [← hF]; have := hlim; simp [w_has, w_sum, w_count] at this ⊢; omega
 rw [hs, hF]
 clear hs
 have HF := Lib.hid hF
 clear hF hlim
 clear x0 x1 x2 x3 x4 x5 x6 x7 x8 x9 x10
 obtain ⟨w3, hw3⟩ : ∃ W, (w1.alloc (Obj.cells #[.string ⟨#[104, 97, 115]⟩, .string ⟨#[115, 117, 109]⟩, .string ⟨#[99, 111, 117, 110, 116]⟩] 9)).drew = W := ⟨_, rfl⟩
 have F3 : Hid (Below w'.heap.size w' w3) := Lib.hid (bthen FW.out (by rw [← hw3]; exact ((Below.refl _ _).alloc (Nat.le_refl _) _).drew))
 rw [hw3]
 clear hw3 FW BX hlt1
 go_loopw [6, 80] (fun s i wr => ∃ k : Nat, k ≤ n ∧ i = .int .i64 k ∧ s = sv (F ++ aT (l.take k)) ∧ Below w'.heap.size w' wr) (fun _ i _ => n - (intOf i).toNat)
 case atStart => exact ⟨0, Nat.zero_le _, rfl, by rw [List.take_zero]; show _ = sv (F ++ []); rw [List.append_nil], F3.out⟩
 case round =>
  obtain ⟨k, hk, rfl, rfl, hb⟩ := hrel
  by_cases hlk : k < n
  ·have hlk' : k < l.length := by rw [HN.out]; exact hlk
   have hbw := bthen HW.out hb
   have HB := Lib.hid hbw
   obtain ⟨b, off, A', c', p', q', r', rfl, hb1, hc, h3⟩ := (HX.out.keep (w' := wr) fun b hB => hbw.block b (HS.out b hB)).at_ HS.out hlk'
   have hle := aT_take_le hlk'
   have hsn : aT (l.take (k + 1)) = aT (l.take k) ++ ([44, 32] ++ sp (toks0 l[k])) := by rw [List.take_succ_eq_append_getElem hlk', aT_snoc]
   have hpx := HI.out l[k] (List.getElem_mem hlk')
   have HSN := Lib.hid hsn
   have HLE := Lib.hid hle
   have H3 : Hid (ExAt wr S l[k] A' c') := Lib.hid ⟨h3⟩
   have HPX := Lib.hid hpx
   clear hsn hle h3 hpx
   generalize l[k] = y at *
   have y0 : wr.cell? ⟨b, off + k * 11, none⟩ = some (nv (hdK y)) := hc 0 (by omega)
   have y1 : wr.cell? ⟨b, off + k * 11 + 1, none⟩ = some (nv (hdV y).k) := hc 1 (by omega)
   have y2 : wr.cell? ⟨b, off + k * 11 + 2, none⟩ = some (nv (hdV y).n) := hc 2 (by omega)
   have y3 : wr.cell? ⟨b, off + k * 11 + 3, none⟩ = some (sv (hdV y).s) := hc 3 (by omega)
   have y4 : wr.cell? ⟨b, off + k * 11 + 4, none⟩ = some (sv (hdN y)) := hc 4 (by omega)
   have y5 : wr.cell? ⟨b, off + k * 11 + 5, none⟩ = some (sv (hdC y)) := hc 5 (by omega)
   have y6 : wr.cell? ⟨b, off + k * 11 + 6, none⟩ = some (nv (hdO y : Nat)) := hc 6 (by omega)
   have y7 : wr.cell? ⟨b, off + k * 11 + 7, none⟩ = some (.slice A' (parts y).length c') := hc 7 (by omega)
   have y8 : wr.cell? ⟨b, off + k * 11 + 8, none⟩ = some (nv p') := hc 8 (by omega)
   have y9 : wr.cell? ⟨b, off + k * 11 + 9, none⟩ = some (nv q') := hc 9 (by omega)
   have y10 : wr.cell? ⟨b, off + k * 11 + 10, none⟩ = some (nv r') := hc 10 (by omega)
   clear hc
   have hki : (k : Int) < (n : Int) := by omega
   have hz := hbw.size
   have hbr : b < wr.heap.size := by omega
   have e0 : toksX y 0 = toks0 y := toksX_no (by omega)
   have hspl : (sp (toks0 y)).length ≤ 100000000 := by have := HLE.out; omega
   have hFk : (F ++ aT (l.take k)).length ≤ 100000200 := by have := HLE.out; simp; omega
   go_wp2_with fail
   refine (HPX.out (by rw [e0]; exact hspl) A' c' p' q' r' S _ (H3.out.keep (fun b hB => one_new.block b (by have := HS.out b hB; omega))) (fun b hB => by have := HS.out b hB; simp; omega) _ (Below.refl _ _)).mono ?_; rintro e w6 ⟨rfl, b6⟩
   rw [e0]
   go_wp2_with fail
   ·exfalso
    rename_i hbig
    simp at hbig hFk
    omega
   go_roundw
   case rel =>
    refine ⟨k + 1, by omega, by go_num, ?_, hb.trans ((bthen one_new b6).mono hb.size)⟩
    rw [HSN.out]
    show Value.string (ByteArray.mk (F ++ aT (l.take k)).toArray ++ (ByteArray.mk [44, 32].toArray ++ ByteArray.mk (sp (toks0 y)).toArray)) = _
    rw [ba_append, ba_append, List.append_assoc]
   case measure => simp [intOf]; omega
  ·obtain rfl : k = n := by omega
   have hall : l.take k = l := List.take_of_length_le (by rw [HN.out]; exact Nat.le_refl _)
   rw [hall]
   have hFl' : (F ++ aT l).length ≤ 100000200 := by simp; omega
   go_wp2_with fail
   go_ret
   refine ⟨?_, hb⟩
   show Ending.returned (.string (ByteArray.mk (F ++ aT l).toArray ++ ByteArray.mk [41, 32].toArray)) = _
   rw [ba_append, ← HF.out]
   try simp
theorem rq5 (hn2 : l.length ≤ 2) (hx : RX w S A c l) (hS : ∀ b, S b → b < w.heap.size) (ih : ∀ y ∈ l, RPX y 0) (least : Nat) (hl : least ≤ 7)   (hlen1 : (aT l).length ≤ 100000000) (hlim : nm.length + cc.length + (aT l).length + 20 ≤ 100000100) : RunE 14 #[exVal 5 vk vn vs nm cc o (.slice A l.length c) p q r, nv least] (w_sum ++ [32, 40, 32] ++ nm ++ [32] ++ ([46, 32] ++ cc ++ [32]) ++ aT l ++ [41, 32]) w := by
 intro w' hbw
 have HW := Lib.hid hbw
 clear hbw
 have dl : ¬ (7 : Int) < (least : Int) := by omega
 obtain ⟨n, hn⟩ : ∃ n, l.length = n := ⟨_, rfl⟩
 rw [hn] at hn2 ⊢
 have HX := Lib.hid hx
 have HS := Lib.hid hS
 have HI := Lib.hid ih
 have HN := Lib.hid hn
 clear hx hS ih hn
 have hnm : nm.length ≤ 100000100 := by omega
 have hcm : cc.length ≤ 100000100 := by omega
 go_enter Tryz.func14, Tryz.ntmps14
 go_upto_region 1 with fail
 have BX : Hid ((w'.alloc (exO 5 vk vn vs nm cc o (.slice A n c) p q r)).heap[w'.heap.size]? = some (exB 5 vk vn vs nm cc o (.slice A n c) p q r)) := Lib.hid (alloc_at rfl)
 have FW : Hid (Below w'.heap.size w' (w'.alloc (exO 5 vk vn vs nm cc o (.slice A n c) p q r))) := Lib.hid one_new
 obtain ⟨w1, hw1⟩ : ∃ W, w'.alloc (exO 5 vk vn vs nm cc o (.slice A n c) p q r) = W := ⟨_, rfl⟩
 rw [hw1] at BX FW ⊢
 clear hw1
 obtain ⟨⟨⟨⟨x0, x1⟩, x2, x3⟩, ⟨x4, x5⟩, x6, x7⟩, ⟨x8, x9⟩, x10⟩ := cells11 BX.out
 have hlt1 : w'.heap.size < w1.heap.size := (Array.getElem?_eq_some_iff.1 BX.out).1
 go_wp2_with fail
 go_region
 go_wp2_with fail
 have hs : ByteArray.mk #[115, 117, 109] ++ ByteArray.mk #[32, 40, 32] ++ ByteArray.mk nm.toArray ++ ByteArray.mk #[32] ++ (ByteArray.mk #[46, 32] ++ ByteArray.mk cc.toArray ++ ByteArray.mk #[32]) = ByteArray.mk (w_sum ++ [32, 40, 32] ++ nm ++ [32] ++ ([46, 32] ++ cc ++ [32])).toArray := by
  show ByteArray.mk w_sum.toArray ++ ByteArray.mk [32, 40, 32].toArray ++ ByteArray.mk nm.toArray ++ ByteArray.mk [32].toArray ++ (ByteArray.mk [46, 32].toArray ++ ByteArray.mk cc.toArray ++ ByteArray.mk [32].toArray) = _
  rw [ba_append, ba_append, ba_append, ba_append, ba_append, ba_append]
 obtain ⟨F, hF⟩ : ∃ Z : List UInt8, w_sum ++ [32, 40, 32] ++ nm ++ [32] ++ ([46, 32] ++ cc ++ [32]) = Z := ⟨_, rfl⟩
 have hFl : F.length + (aT l).length + 2 ≤ 100000100 := by rw [← hF]; have := hlim; simp [w_has, w_sum, w_count] at this ⊢; omega
 rw [hs, hF]
 clear hs
 have HF := Lib.hid hF
 clear hF hlim
 clear x0 x1 x2 x3 x4 x5 x6 x7 x8 x9 x10
 obtain ⟨w3, hw3⟩ : ∃ W, (w1.alloc (Obj.cells #[.string ⟨#[104, 97, 115]⟩, .string ⟨#[115, 117, 109]⟩, .string ⟨#[99, 111, 117, 110, 116]⟩] 9)).drew = W := ⟨_, rfl⟩
 have F3 : Hid (Below w'.heap.size w' w3) := Lib.hid (bthen FW.out (by rw [← hw3]; exact ((Below.refl _ _).alloc (Nat.le_refl _) _).drew))
 rw [hw3]
 clear hw3 FW BX hlt1
 go_loopw [6, 80] (fun s i wr => ∃ k : Nat, k ≤ n ∧ i = .int .i64 k ∧ s = sv (F ++ aT (l.take k)) ∧ Below w'.heap.size w' wr) (fun _ i _ => n - (intOf i).toNat)
 case atStart => exact ⟨0, Nat.zero_le _, rfl, by rw [List.take_zero]; show _ = sv (F ++ []); rw [List.append_nil], F3.out⟩
 case round =>
  obtain ⟨k, hk, rfl, rfl, hb⟩ := hrel
  by_cases hlk : k < n
  ·have hlk' : k < l.length := by rw [HN.out]; exact hlk
   have hbw := bthen HW.out hb
   have HB := Lib.hid hbw
   obtain ⟨b, off, A', c', p', q', r', rfl, hb1, hc, h3⟩ := (HX.out.keep (w' := wr) fun b hB => hbw.block b (HS.out b hB)).at_ HS.out hlk'
   have hle := aT_take_le hlk'
   have hsn : aT (l.take (k + 1)) = aT (l.take k) ++ ([44, 32] ++ sp (toks0 l[k])) := by rw [List.take_succ_eq_append_getElem hlk', aT_snoc]
   have hpx := HI.out l[k] (List.getElem_mem hlk')
   have HSN := Lib.hid hsn
   have HLE := Lib.hid hle
   have H3 : Hid (ExAt wr S l[k] A' c') := Lib.hid ⟨h3⟩
   have HPX := Lib.hid hpx
   clear hsn hle h3 hpx
   generalize l[k] = y at *
   have y0 : wr.cell? ⟨b, off + k * 11, none⟩ = some (nv (hdK y)) := hc 0 (by omega)
   have y1 : wr.cell? ⟨b, off + k * 11 + 1, none⟩ = some (nv (hdV y).k) := hc 1 (by omega)
   have y2 : wr.cell? ⟨b, off + k * 11 + 2, none⟩ = some (nv (hdV y).n) := hc 2 (by omega)
   have y3 : wr.cell? ⟨b, off + k * 11 + 3, none⟩ = some (sv (hdV y).s) := hc 3 (by omega)
   have y4 : wr.cell? ⟨b, off + k * 11 + 4, none⟩ = some (sv (hdN y)) := hc 4 (by omega)
   have y5 : wr.cell? ⟨b, off + k * 11 + 5, none⟩ = some (sv (hdC y)) := hc 5 (by omega)
   have y6 : wr.cell? ⟨b, off + k * 11 + 6, none⟩ = some (nv (hdO y : Nat)) := hc 6 (by omega)
   have y7 : wr.cell? ⟨b, off + k * 11 + 7, none⟩ = some (.slice A' (parts y).length c') := hc 7 (by omega)
   have y8 : wr.cell? ⟨b, off + k * 11 + 8, none⟩ = some (nv p') := hc 8 (by omega)
   have y9 : wr.cell? ⟨b, off + k * 11 + 9, none⟩ = some (nv q') := hc 9 (by omega)
   have y10 : wr.cell? ⟨b, off + k * 11 + 10, none⟩ = some (nv r') := hc 10 (by omega)
   clear hc
   have hki : (k : Int) < (n : Int) := by omega
   have hz := hbw.size
   have hbr : b < wr.heap.size := by omega
   have e0 : toksX y 0 = toks0 y := toksX_no (by omega)
   have hspl : (sp (toks0 y)).length ≤ 100000000 := by have := HLE.out; omega
   have hFk : (F ++ aT (l.take k)).length ≤ 100000200 := by have := HLE.out; simp; omega
   go_wp2_with fail
   refine (HPX.out (by rw [e0]; exact hspl) A' c' p' q' r' S _ (H3.out.keep (fun b hB => one_new.block b (by have := HS.out b hB; omega))) (fun b hB => by have := HS.out b hB; simp; omega) _ (Below.refl _ _)).mono ?_; rintro e w6 ⟨rfl, b6⟩
   rw [e0]
   go_wp2_with fail
   ·exfalso
    rename_i hbig
    simp at hbig hFk
    omega
   go_roundw
   case rel =>
    refine ⟨k + 1, by omega, by go_num, ?_, hb.trans ((bthen one_new b6).mono hb.size)⟩
    rw [HSN.out]
    show Value.string (ByteArray.mk (F ++ aT (l.take k)).toArray ++ (ByteArray.mk [44, 32].toArray ++ ByteArray.mk (sp (toks0 y)).toArray)) = _
    rw [ba_append, ba_append, List.append_assoc]
   case measure => simp [intOf]; omega
  ·obtain rfl : k = n := by omega
   have hall : l.take k = l := List.take_of_length_le (by rw [HN.out]; exact Nat.le_refl _)
   rw [hall]
   have hFl' : (F ++ aT l).length ≤ 100000200 := by simp; omega
   go_wp2_with fail
   go_ret
   refine ⟨?_, hb⟩
   show Ending.returned (.string (ByteArray.mk (F ++ aT l).toArray ++ ByteArray.mk [41, 32].toArray)) = _
   rw [ba_append, ← HF.out]
   try simp
end
end Go.Proofs.YtnbmpfdffoidaaaGreat.Y
