/- Texts of the proof, joined: SyntaxExprsWalk. -/
import Derived.Test.YtnbmpfdffoidaaaGreatEx14
import Derived.Test.YtnbmpfdffoidaaaGreatEx29
set_option linter.unusedVariables false
set_option linter.unusedSimpArgs false
set_option maxHeartbeats 8000000
set_option maxRecDepth 100000
namespace Go.Proofs.YtnbmpfdffoidaaaGreat.syntaxExprs
open Go.RowKit O V S X Y
theorem RX.made {W : World} {S : Nat → Prop} {x : Ex} {A : Option Addr} {c g : Nat} {T : TypeId} {p q r : Int} (h : ExAt W S x A c) (hb : W.heap[g]? = some (.cells #[nv (hdK x), nv (hdV x).k, nv (hdV x).n, sv (hdV x).s, sv (hdN x), sv (hdC x), nv (hdO x : Nat), .slice A (parts x).length c, nv p, nv q, nv r] T (0, 0))) : RX W (fun b => S b ∨ b = g) (some ⟨g, 0, none⟩) 1 [x] :=
 (h.grow1 (f := .un 13 x) rfl hb).ex
theorem kE_mem {a b : Ex} {w : World} {S : Nat → Prop} {v : Value} {B : Nat} (h : WkR w S (kE a b) v) (hS : ∀ b, S b → b < B) :
  ∃ A c b1 o1 d b2 o2 d2 b3 o3 d3 b4 o4 d4, (v = .agg #[.slice A 0 c, .slice (some ⟨b1, o1, none⟩) 1 d] ∧ (b1 < B ∧ b2 < B) ∧ b3 < B ∧ b4 < B) ∧
   w.cell? ⟨b1, o1 + 2, none⟩ = some (.slice (some ⟨b2, o2, none⟩) 2 d2) ∧ w.cell? ⟨b2, o2 + 5, none⟩ = some (.slice (some ⟨b3, o3, none⟩) 1 d3) ∧ w.cell? ⟨b2, o2 + 11 + 5, none⟩ = some (.slice (some ⟨b4, o4, none⟩) 2 d4) ∧
   RX w S (some ⟨b3, o3, none⟩) d3 [a] ∧ RX w S (some ⟨b4, o4, none⟩) d4 [b, .var [121]] ∧ 2 ≤ d4 ∧ d4 ≤ 9223372036854775807 := by
 obtain ⟨A, c, es, B1, d, fs, rfl, _, h1, h2⟩ := h
 obtain ⟨b1, o1, vs, e1, hb1, ⟨Ap, cp, eps, B2, d2, bs, pp, pq, pr, rfl, _, h3, h4⟩, hc1⟩ := (h1.rd hS).elem PcR.size h2 (i := 0) (by simp [kE]) (by omega)
 subst e1
 simp only [Nat.zero_mul, Nat.add_zero] at hc1
 have h4' := (StsR_reps _ _).1 h4
 obtain ⟨b2, o2, vs2, e2, hb2, hst, hc2⟩ := (h3.rd hS).elem StR.size h4' (i := 0) (by simp [kE, Sts.list]) (by omega)
 obtain ⟨b5, o5, vs5, e5, _, hst5, hc5⟩ := (h3.rd hS).elem StR.size h4' (i := 1) (by simp [kE, Sts.list]) (by omega)
 subst e2
 injection e5 with e5
 injection e5 with e5 e6
 subst e5 e6
 simp only [Nat.zero_mul, Nat.add_zero] at hc2
 simp only [Nat.one_mul] at hc5
 have hst : StR w S (.let_ [121] a) vs2 := hst
 have hst5 : StR w S (.put [116] [99] b (.var [121])) vs5 := hst5
 obtain ⟨A3, c3, es3, B3, d3, bs3, E3, f3, fs3, p3, q3, r3, rfl, ⟨h5, h6⟩, _⟩ := (StR_eq _ _).1 hst
 obtain ⟨A4, c4, es4, B4, d4, bs4, E4, f4, fs4, p4, q4, r4, rfl, ⟨h7, h8⟩, _⟩ := (StR_eq _ _).1 hst5
 obtain ⟨b3, o3, e3, hb3, _⟩ := h5.pos (by have := h6.length ExR.size; simp [stA] at this; omega)
 obtain ⟨b4, o4, e4, hb4, _⟩ := h7.pos (by have := h8.length ExR.size; simp [stA] at this; omega)
 subst e3 e4
 exact ⟨A, c, b1, o1, d, b2, o2, d2, b3, o3, c3, b4, o4, c4, ⟨rfl, ⟨hb1, hb2⟩, hS _ hb3, hS _ hb4⟩, hc1 2 (by omega), hc2 5 (by omega), hc5 5 (by omega), ⟨es3, h5, h6⟩, ⟨es4, h7, h8⟩, h7.cap⟩
theorem RX.first {w : World} {S : Nat → Prop} {A : Option Addr} {c : Nat} {x y : Ex} (h : RX w S A c [x, y]) : RX w S A c [x] := by
 obtain ⟨es, h1, us, ys, rfl, h2, h3⟩ := h
 have hu := ExR.size _ _ h2
 have hcap := h1.cap
 have hl := h1.len
 simp only [List.length_cons, List.length_nil] at hcap hl
 refine ⟨us, ⟨by simp [hu], ⟨by simp only [List.length_cons, List.length_nil]; omega, hcap.2⟩, fun hp => ?_⟩, us, [], by simp, h2, rfl⟩
 obtain ⟨b, off, e, hb, hc⟩ := h1.pos (by simp; omega)
 exact ⟨b, off, e, hb, fun j hj => by rw [hc j (by simp; omega), List.getElem?_append_left hj]⟩
theorem sp_ge : ∀ l : List Tok, l.length ≤ (sp l).length
 | [] => Nat.zero_le _
 | t :: l => by
  have := sp_ge l
  rw [sp_cons, List.length_cons, List.length_append, List.length_cons]
  omega
theorem walk (v0 : Value) (l : List Nat) (v1 : Value) (m : List Nat) (w : World) (h0 : IsUs w v0 l) (h1 : IsUs w v1 m) :
  Calls Tryz.prog 4 #[v0, v1] w fun e w' => e = .returned (.bool true) ∧ Below w.heap.size w w' := by
 obtain ⟨A0, n0, c0, rfl, hu0⟩ := h0
 obtain ⟨A1, n1, c1, rfl, hu1⟩ := h1
 have hn0 : n0 ≤ 9223372036854775807 := by have := hu0.2.1; omega
 have hn1 : n1 ≤ 9223372036854775807 := by have := hu1.2.1; omega
 have HU0 := Lib.hid hu0
 have HU1 := Lib.hid hu1
 clear hu0 hu1
 go_enter Tryz.func4, Tryz.ntmps4
 go_wp2_with fail
 refine (grown_any A0 n0 c0 l w HU0.out hn0).mono ?_; rintro e w1 ⟨⟨Aa, ca, Sa, rfl, xa, sa⟩, b1⟩
 go_wp2_with fail
 refine (grown_any A1 n1 c1 m w1 ⟨HU1.out.1.next b1, HU1.out.2⟩ hn1).mono ?_; rintro e w2 ⟨⟨Ab, cb, Sb, rfl, xb, sb⟩, b2⟩
 have hga := growX_ok l
 have hgb := growX_ok m
 obtain ⟨a, ha⟩ : ∃ a, growX l = a := ⟨_, rfl⟩
 obtain ⟨b, hb⟩ : ∃ b, growX m = b := ⟨_, rfl⟩
 rw [ha] at xa hga ⊢
 rw [hb] at xb hgb ⊢
 clear ha hb HU0 HU1
 have hz1 := b1.size
 have hz2 := b2.size
 have XA : Hid (ExAt w2 Sa a Aa ca) := Lib.hid (xa.keep fun k hk => b2.block k (sa k hk).2)
 have XB := Lib.hid xb
 have SA : Hid (∀ k, Sa k → k < w2.heap.size) := Lib.hid fun k hk => by have := (sa k hk).2; omega
 have SB : Hid (∀ k, Sb k → k < w2.heap.size) := Lib.hid fun k hk => (sb k hk).2
 have BW : Hid (Below w.heap.size w w2) := Lib.hid (b1.trans (b2.mono hz1))
 have GA := Lib.hid hga
 have GB := Lib.hid hgb
 clear xa xb sa sb b1 b2 hga hgb
 go_upto_region 2 with fail
 obtain ⟨w3, hw3⟩ : ∃ W, (w2.alloc (exO (hdK a) (hdV a).k (hdV a).n (hdV a).s (hdN a) (hdC a) (hdO a : Nat) (.slice Aa (parts a).length ca) 0 0 0)).alloc (exO (hdK b) (hdV b).k (hdV b).n (hdV b).s (hdN b) (hdC b) (hdO b : Nat) (.slice Ab (parts b).length cb) 0 0 0) = W := ⟨_, rfl⟩
 have X5 : Hid (w3.heap[w2.heap.size]? = some (exB (hdK a) (hdV a).k (hdV a).n (hdV a).s (hdN a) (hdC a) (hdO a : Nat) (.slice Aa (parts a).length ca) 0 0 0)) := Lib.hid (by rw [← hw3]; exact alloc_old' (alloc_at rfl))
 have X6 : Hid (w3.heap[w2.heap.size + 1]? = some (exB (hdK b) (hdV b).k (hdV b).n (hdV b).s (hdN b) (hdC b) (hdO b : Nat) (.slice Ab (parts b).length cb) 0 0 0)) := Lib.hid (by rw [← hw3]; exact alloc_at (by simp))
 have b3 : Below w2.heap.size w2 w3 := by rw [← hw3]; repeat (first | exact Below.refl _ _ | refine Below.alloc ?_ (by first | omega | (simp <;> omega)) _)
 rw [hw3]
 clear hw3
 have hz3 := b3.size
 have hz36 : w2.heap.size + 1 < w3.heap.size := (Array.getElem?_eq_some_iff.1 X6.out).1
 replace XA := Lib.hid (XA.out.keep fun k hk => b3.block k (SA.out k hk))
 replace XB := Lib.hid (XB.out.keep fun k hk => b3.block k (SB.out k hk))
 replace BW := Lib.hid (BW.out.trans (b3.mono BW.out.size))
 clear b3
 have hla : (textOf (toks0 a)).length ≤ 400 := by have := GA.out.2; rw [sp_text (toks0_ne a)] at this; simp at this; omega
 have hlb : (textOf (toks0 b)).length ≤ 400 := by have := GB.out.2; rw [sp_text (toks0_ne b)] at this; simp at this; omega
 have hta : (toks0 a).length ≤ 400 := Nat.le_trans (sp_ge _) GA.out.2
 have htb : (toks0 b).length ≤ 400 := Nat.le_trans (sp_ge _) GB.out.2
 have BD : Below w3.heap.size w3 w3.drew := (Below.refl _ _).drew
 refine wp_region_sched [(0, true), (4, true), (1, false), (2, true), (3, true), (5, false), (6, true), (7, true), (8, true)] (by kernel_rfl) (by kernel_rfl) (fun _ _ d _ _ h => by cases d <;> exact h) ?_
 refine swith (fun W hW => (cells11 (box_next X5.out ((Below.refl _ _).drew.trans hW.out)))) (fun q5 => ?_)
 refine swith (fun W hW => (cells11 (box_next X6.out ((Below.refl _ _).drew.trans hW.out)))) (fun q6 => ?_)
 repeat (first | (refine sreadx rfl rfl ?_; apply Exists.intro; apply And.intro; (· (intro W hW; go_simp; try (first | with_reducible rfl | (rw [if_neg (by omega)]; try with_reducible rfl)))); simp only [Act.put, List.setIfInBounds_toArray, List.set_cons_zero, List.set_cons_succ]) | (refine sskip rfl rfl ?_; simp only [Act.put, List.setIfInBounds_toArray, List.set_cons_zero, List.set_cons_succ]))
 refine scall rfl rfl (fun K hK => ?_)
 go_simp
 refine (printExpr_any a GA.out.1.1 Aa ca 0 0 0 Sa _ (XA.out.keep fun k hk => BD.block k (by have := SA.out k hk; omega)) (fun k hk => by have := SA.out k hk; have := BD.size; omega) (by omega) (by omega)).mono ?_; rintro e w4 ⟨rfl, b4⟩
 go_wp2_with fail
 refine hK.out _ _ (by exact b4) ?_
 clear hK K
 try simp only [Act.put, List.setIfInBounds_toArray, List.set_cons_zero, List.set_cons_succ]
 replace q5 := fun (W : World) (hW : Grow w4 W) => q5 W (Grow.trans (b4) hW)
 replace q6 := fun (W : World) (hW : Grow w4 W) => q6 W (Grow.trans (b4) hW)
 have B4 := bthen BD b4
 have hz4 := B4.size
 obtain ⟨ta, hta'⟩ : ∃ t, textOf (toks0 a) = t := ⟨_, rfl⟩
 rw [hta'] at hla ⊢
 have HTA := Lib.hid hta'
 clear hta'
 repeat (first | (refine sreadx rfl rfl ?_; apply Exists.intro; apply And.intro; (· (intro W hW; go_simp; try (first | with_reducible rfl | (rw [if_neg (by omega)]; try with_reducible rfl)))); simp only [Act.put, List.setIfInBounds_toArray, List.set_cons_zero, List.set_cons_succ]) | (refine sskip rfl rfl ?_; simp only [Act.put, List.setIfInBounds_toArray, List.set_cons_zero, List.set_cons_succ]))
 refine scall rfl rfl (fun K hK => ?_)
 go_simp
 refine (printExpr_any b GB.out.1.1 Ab cb 0 0 0 Sb _ (XB.out.keep fun k hk => B4.block k (by have := SB.out k hk; omega)) (fun k hk => by have := SB.out k hk; omega) (by omega) (by omega)).mono ?_; rintro e w5 ⟨rfl, b5⟩
 go_wp2_with fail
 refine hK.out _ _ (by exact b5) ?_
 clear hK K
 try simp only [Act.put, List.setIfInBounds_toArray, List.set_cons_zero, List.set_cons_succ]
 replace q5 := fun (W : World) (hW : Grow w5 W) => q5 W (Grow.trans (b5) hW)
 replace q6 := fun (W : World) (hW : Grow w5 W) => q6 W (Grow.trans (b5) hW)
 have B5 := bthen B4 b5
 have hz5 := B5.size
 obtain ⟨tb, htb'⟩ : ∃ t, textOf (toks0 b) = t := ⟨_, rfl⟩
 rw [htb'] at hlb ⊢
 have HTB := Lib.hid htb'
 clear htb'
 repeat (first | (refine sreadx rfl rfl ?_; apply Exists.intro; apply And.intro; (· (intro W hW; go_simp; try (first | with_reducible rfl | (rw [if_neg (by omega)]; try with_reducible rfl)))); simp only [Act.put, List.setIfInBounds_toArray, List.set_cons_zero, List.set_cons_succ]) | (refine sskip rfl rfl ?_; simp only [Act.put, List.setIfInBounds_toArray, List.set_cons_zero, List.set_cons_succ]))
 refine sdone ?_
 clear q5 q6 b4 b5
 have hs : ByteArray.mk #[112, 114, 111, 99, 32, 112, 32, 40, 32, 120, 32, 105, 110, 116, 32, 41, 32, 123, 32, 108, 101, 116, 32, 121, 32, 61, 32] ++ ByteArray.mk ta.toArray ++ ByteArray.mk #[32, 59, 32, 116, 32, 91, 32] ++ ByteArray.mk tb.toArray ++ ByteArray.mk #[32, 93, 32, 46, 32, 99, 32, 61, 32, 121, 32, 59, 32, 125] = ByteArray.mk (u1E ++ ta ++ u2E ++ tb ++ u3E).toArray := by
  show ByteArray.mk u1E.toArray ++ ByteArray.mk ta.toArray ++ ByteArray.mk u2E.toArray ++ ByteArray.mk tb.toArray ++ ByteArray.mk u3E.toArray = _
  rw [ba_append, ba_append, ba_append, ba_append]
 have hsp : Spread (toksW (kE a b)) (u1E ++ ta ++ u2E ++ tb ++ u3E) := by
  have := kE_spread GA.out.1 GB.out.1
  rw [HTA.out, HTB.out] at this
  exact this
 have hsl : (u1E ++ ta ++ u2E ++ tb ++ u3E).length ≤ 16384 := by simp [u1E, u2E, u3E]; omega
 have HSP := Lib.hid hsp
 rw [hs]
 clear hs hsp
 obtain ⟨tx, htx⟩ : ∃ t, u1E ++ ta ++ u2E ++ tb ++ u3E = t := ⟨_, rfl⟩
 rw [htx] at HSP hsl ⊢
 clear htx
 go_wp2_with fail
 refine (parse_back (kE a b) (kE_ok GA.out.1 GB.out.1) tx HSP.out w5 hsl).mono ?_; rintro e w6 ⟨⟨v, pp, pq, pr, S, rfl, hk, hin⟩, b6⟩
 obtain ⟨A, c, g1, o1, d, g2, o2, d2, g3, o3, d3, g4, o4, d4, ⟨rfl, ⟨hg1, hg2⟩, hg3, hg4⟩, y1, y2, y3, hra, hrb, hd4, hd5⟩ := kE_mem hk (B := w6.heap.size) (fun b hb => (hin b hb).2)
 have B6 := bthen B5 b6
 have hz6 := B6.size
 have HRA := Lib.hid hra
 have HRB := Lib.hid hrb
 have HS : Hid (∀ k, S k → k < w6.heap.size) := Lib.hid fun k hk => (hin k hk).2
 clear hk hin hra hrb b6
 go_upto_region 7 with fail
 obtain ⟨w7, hw7⟩ : ∃ W, (w6.alloc (Obj.cells #[.slice A 0 c, .slice (some ⟨g1, o1, none⟩) 1 d] 26)).alloc (Obj.cells #[nv pp, nv pq, nv pr] 29) = W := ⟨_, rfl⟩
 have b7 : Below w6.heap.size w6 w7 := by rw [← hw7]; repeat (first | exact Below.refl _ _ | refine Below.alloc ?_ (by first | omega | (simp <;> omega)) _)
 rw [hw7]
 clear hw7
 have hz7 := b7.size
 have B37 := bthen B6 b7
 replace y2 : w7.cell? ⟨g2, o2 + 5, none⟩ = some (.slice (some ⟨g3, o3, none⟩) 1 d3) := (b7.cell (p := ⟨g2, o2 + 5, none⟩) hg2).trans y2
 replace y3 : w7.cell? ⟨g2, o2 + 11 + 5, none⟩ = some (.slice (some ⟨g4, o4, none⟩) 2 d4) := (b7.cell (p := ⟨g2, o2 + 11 + 5, none⟩) hg2).trans y3
 replace HRA := Lib.hid (HRA.out.keep fun k hk => b7.block k (HS.out k hk))
 replace HRB := Lib.hid (RX.first (HRB.out.keep fun k hk => b7.block k (HS.out k hk)))
 replace HS : Hid (∀ k, S k → k < w7.heap.size) := Lib.hid fun k hk => by have := HS.out k hk; omega
 replace X5 := Lib.hid (box_next X5.out B37)
 replace X6 := Lib.hid (box_next X6.out B37)
 replace XA := Lib.hid (XA.out.keep fun k hk => B37.block k (by have := SA.out k hk; omega))
 replace XB := Lib.hid (XB.out.keep fun k hk => B37.block k (by have := SB.out k hk; omega))
 replace SA : Hid (∀ k, Sa k → k < w7.heap.size) := Lib.hid fun k hk => by have := SA.out k hk; omega
 replace SB : Hid (∀ k, Sb k → k < w7.heap.size) := Lib.hid fun k hk => by have := SB.out k hk; omega
 have B7 := BW.out.trans (B37.mono BW.out.size)
 clear BD B4 B5 B6 b7 B37 y1
 refine wp_region_plan [w2.heap.size, w2.heap.size + 1, g2] (.read 0 (.read 1 (.read 2 (.read 3 (.read 4 (.call 5 (.call 6 (.read 7 (.read 8 (.read 9 (.read 10 (.read 11 (.read 12 (.read 13 (.call 14 (.call 15 (.read 16 (.read 17 (.read 18 (.read 19 (.read 21 (.read 23 (.three 20 22 24 (.two 22 24 (.call 24 (.call 25 (.read 26 (.read 27 (.read 28 (.read 29 (.read 32 (.call 30 (.read 31 (.call 33 (.read 34 (.read 35 (.read 36 (.call 37 (.read 38 (.read 39 .done)))))))))))))))) (.call 22 (.call 25 (.read 26 (.read 27 (.read 28 (.read 29 (.read 32 (.call 30 (.read 31 (.call 33 (.read 34 (.read 35 (.read 36 (.call 37 (.read 38 (.read 39 .done))))))))))))))))) (.two 20 24 (.call 24 (.call 25 (.read 26 (.read 27 (.read 28 (.read 29 (.read 32 (.call 30 (.read 31 (.call 33 (.read 34 (.read 35 (.read 36 (.call 37 (.read 38 (.read 39 .done)))))))))))))))) (.call 20 (.call 25 (.read 26 (.read 27 (.read 28 (.read 29 (.read 32 (.call 30 (.read 31 (.call 33 (.read 34 (.read 35 (.read 36 (.call 37 (.read 38 (.read 39 .done))))))))))))))))) (.two 20 22 (.call 22 (.call 25 (.read 26 (.read 27 (.read 28 (.read 29 (.read 32 (.call 30 (.read 31 (.call 33 (.read 34 (.read 35 (.read 36 (.call 37 (.read 38 (.read 39 .done)))))))))))))))) (.call 20 (.call 25 (.read 26 (.read 27 (.read 28 (.read 29 (.read 32 (.call 30 (.read 31 (.call 33 (.read 34 (.read 35 (.read 36 (.call 37 (.read 38 (.read 39 .done)))))))))))))))))))))))))))))))))))))))) (by kernel_rfl) (by kernel_rfl) (fun _ _ d _ _ h => by cases d <;> exact h) ?_
 refine pwith (fun W hW => (cells11 ((hW w2.heap.size (by simp)).trans X5.out))) (fun q5 => ?_)
 refine pwith (fun W hW => (cells11 ((hW (w2.heap.size + 1) (by simp)).trans X6.out))) (fun q6 => ?_)
 refine pwith (fun W hW => (show W.cell? ⟨g2, o2 + 5, none⟩ = some (.slice (some ⟨g3, o3, none⟩) 1 d3) ∧ W.cell? ⟨g2, o2 + 11 + 5, none⟩ = some (.slice (some ⟨g4, o4, none⟩) 2 d4) from ⟨(World.cell?_of_block (a := ⟨g2, o2 + 5, none⟩) (hW g2 (by simp))).trans y2, (World.cell?_of_block (a := ⟨g2, o2 + 11 + 5, none⟩) (hW g2 (by simp))).trans y3⟩)) (fun q2 => ?_)
 obtain ⟨w8, hw8⟩ : ∃ W, w7.drew = W := ⟨_, rfl⟩
 have Cw8 : Below w7.heap.size w7 w8 := by rw [← hw8]; exact (Below.refl _ _).drew
 have hz8 : w7.heap.size ≤ w8.heap.size := Cw8.size
 rw [hw8] at q5 q6 q2 ⊢
 clear hw8
 repeat (first | (refine sreadxP rfl rfl ?_; apply Exists.intro; apply And.intro; (· (intro W hW; go_simp; try (first | with_reducible rfl | (rw [if_neg (by omega)]; try with_reducible rfl)))); simp only [Act.put, List.setIfInBounds_toArray, List.set_cons_zero, List.set_cons_succ]) | (refine pskip rfl rfl ?_; simp only [Act.put, List.setIfInBounds_toArray, List.set_cons_zero, List.set_cons_succ]))
 refine pcall rfl rfl (fun K hK => ?_)
 go_simp
 refine hK.out _ _ (fun k hk => Below.heap_alloc _ _ _ (by simp at hk; omega)) ?_
 clear hK K
 try simp only [Act.put, List.setIfInBounds_toArray, List.set_cons_zero, List.set_cons_succ]
 obtain ⟨w9, hw⟩ : ∃ W, w8.alloc (exO (hdK a) (hdV a).k (hdV a).n (hdV a).s (hdN a) (hdC a) (hdO a : Nat) (.slice Aa (parts a).length ca) 0 0 0) = W := ⟨_, rfl⟩
 have bw9 : Below w8.heap.size w8 w9 := by rw [← hw]; exact one_new
 have hrw9 : w9.heap[w8.heap.size]? = some (exB (hdK a) (hdV a).k (hdV a).n (hdV a).s (hdN a) (hdC a) (hdO a : Nat) (.slice Aa (parts a).length ca) 0 0 0) := by rw [← hw]; exact alloc_at rfl
 have hzw9 : w8.heap.size < w9.heap.size := by rw [← hw]; simp
 rw [hw]
 clear hw
 have Cw9 := bthen Cw8 bw9
 have Rw9 : Hid (RX w9 (fun k => Sa k ∨ k = w8.heap.size) (some ⟨w8.heap.size, 0, none⟩) 1 [a]) := Lib.hid (RX.made (XA.out.keep fun k hk => Cw9.block k (SA.out k hk)) hrw9)
 have kbw9 : KB [w2.heap.size, w2.heap.size + 1, g2] w8 w9 := fun k hk => bw9.block k (by simp at hk; omega)
 replace q5 := fun W hW => q5 W (KB.trans kbw9 hW)
 replace q6 := fun W hW => q6 W (KB.trans kbw9 hW)
 replace q2 := fun W hW => q2 W (KB.trans kbw9 hW)
 clear kbw9
 have Dw9 := Lib.hid bw9
 clear hrw9 bw9
 repeat (first | (refine sreadxP rfl rfl ?_; apply Exists.intro; apply And.intro; (· (intro W hW; go_simp; try (first | with_reducible rfl | (rw [if_neg (by omega)]; try with_reducible rfl)))); simp only [Act.put, List.setIfInBounds_toArray, List.set_cons_zero, List.set_cons_succ]) | (refine pskip rfl rfl ?_; simp only [Act.put, List.setIfInBounds_toArray, List.set_cons_zero, List.set_cons_succ]))
 refine pcall rfl rfl (fun K hK => ?_)
 go_simp
 refine (sameR_any [a] [a] _ _ d3 1 _ _ w9 (HRA.out.keep fun k hk => Cw9.block k (HS.out k hk)) Rw9.out (fun k hk => by have := HS.out k hk; omega) (fun k hk => ?_) (by simp) (by simp)).mono ?_
 ·rcases hk with hk | rfl
  ·have := SA.out k hk; omega
  ·omega
 rintro e w10 ⟨⟨bt, rfl, hbt⟩, bw10⟩
 obtain rfl : bt = true := hbt.2 rfl
 clear hbt
 go_wp2_with fail
 refine hK.out _ _ (fun k hk => bw10.block k (by simp at hk; omega)) ?_
 clear hK K
 try simp only [Act.put, List.setIfInBounds_toArray, List.set_cons_zero, List.set_cons_succ]
 have hzw10 := bw10.size
 have Cw10 := bthen Cw9 bw10
 have kbw10 : KB [w2.heap.size, w2.heap.size + 1, g2] w9 w10 := fun k hk => bw10.block k (by simp at hk; omega)
 replace q5 := fun W hW => q5 W (KB.trans kbw10 hW)
 replace q6 := fun W hW => q6 W (KB.trans kbw10 hW)
 replace q2 := fun W hW => q2 W (KB.trans kbw10 hW)
 clear kbw10
 have Dw10 := Lib.hid bw10
 clear bw10
 have hd1 : 1 ≤ d4 := by omega
 have hd1i : (1 : Int) ≤ (d4 : Int) := by omega
 have hd2 : ¬ d4 < 1 := by omega
 repeat (first | (refine sreadxP rfl rfl ?_; apply Exists.intro; apply And.intro; (· (intro W hW; go_simp; try (first | with_reducible rfl | (rw [if_neg (by omega)]; try with_reducible rfl)))); simp only [Act.put, List.setIfInBounds_toArray, List.set_cons_zero, List.set_cons_succ]) | (refine pskip rfl rfl ?_; simp only [Act.put, List.setIfInBounds_toArray, List.set_cons_zero, List.set_cons_succ]))
 refine pcall rfl rfl (fun K hK => ?_)
 go_simp
 refine hK.out _ _ (fun k hk => Below.heap_alloc _ _ _ (by simp at hk; omega)) ?_
 clear hK K
 try simp only [Act.put, List.setIfInBounds_toArray, List.set_cons_zero, List.set_cons_succ]
 obtain ⟨w11, hw⟩ : ∃ W, w10.alloc (exO (hdK b) (hdV b).k (hdV b).n (hdV b).s (hdN b) (hdC b) (hdO b : Nat) (.slice Ab (parts b).length cb) 0 0 0) = W := ⟨_, rfl⟩
 have bw11 : Below w10.heap.size w10 w11 := by rw [← hw]; exact one_new
 have hrw11 : w11.heap[w10.heap.size]? = some (exB (hdK b) (hdV b).k (hdV b).n (hdV b).s (hdN b) (hdC b) (hdO b : Nat) (.slice Ab (parts b).length cb) 0 0 0) := by rw [← hw]; exact alloc_at rfl
 have hzw11 : w10.heap.size < w11.heap.size := by rw [← hw]; simp
 rw [hw]
 clear hw
 have Cw11 := bthen Cw10 bw11
 have Rw11 : Hid (RX w11 (fun k => Sb k ∨ k = w10.heap.size) (some ⟨w10.heap.size, 0, none⟩) 1 [b]) := Lib.hid (RX.made (XB.out.keep fun k hk => Cw11.block k (SB.out k hk)) hrw11)
 have kbw11 : KB [w2.heap.size, w2.heap.size + 1, g2] w10 w11 := fun k hk => bw11.block k (by simp at hk; omega)
 replace q5 := fun W hW => q5 W (KB.trans kbw11 hW)
 replace q6 := fun W hW => q6 W (KB.trans kbw11 hW)
 replace q2 := fun W hW => q2 W (KB.trans kbw11 hW)
 clear kbw11
 have Dw11 := Lib.hid bw11
 clear hrw11 bw11
 repeat (first | (refine sreadxP rfl rfl ?_; apply Exists.intro; apply And.intro; (· (intro W hW; go_simp; try (first | with_reducible rfl | (rw [if_neg (by omega)]; try with_reducible rfl)))); simp only [Act.put, List.setIfInBounds_toArray, List.set_cons_zero, List.set_cons_succ]) | (refine pskip rfl rfl ?_; simp only [Act.put, List.setIfInBounds_toArray, List.set_cons_zero, List.set_cons_succ]))
 refine pcall rfl rfl (fun K hK => ?_)
 go_simp
 refine (sameR_any [b] [b] _ _ d4 1 _ _ w11 (HRB.out.keep fun k hk => Cw11.block k (HS.out k hk)) Rw11.out (fun k hk => by have := HS.out k hk; omega) (fun k hk => ?_) (by simp) (by simp)).mono ?_
 ·rcases hk with hk | rfl
  ·have := SB.out k hk; omega
  ·omega
 rintro e w12 ⟨⟨bt, rfl, hbt⟩, bw12⟩
 obtain rfl : bt = true := hbt.2 rfl
 clear hbt
 go_wp2_with fail
 refine hK.out _ _ (fun k hk => bw12.block k (by simp at hk; omega)) ?_
 clear hK K
 try simp only [Act.put, List.setIfInBounds_toArray, List.set_cons_zero, List.set_cons_succ]
 have hzw12 := bw12.size
 have Cw12 := bthen Cw11 bw12
 have kbw12 : KB [w2.heap.size, w2.heap.size + 1, g2] w11 w12 := fun k hk => bw12.block k (by simp at hk; omega)
 replace q5 := fun W hW => q5 W (KB.trans kbw12 hW)
 replace q6 := fun W hW => q6 W (KB.trans kbw12 hW)
 replace q2 := fun W hW => q2 W (KB.trans kbw12 hW)
 clear kbw12
 have Dw12 := Lib.hid bw12
 clear bw12
 repeat (first | (refine sreadxP rfl rfl ?_; apply Exists.intro; apply And.intro; (· (intro W hW; go_simp; try (first | with_reducible rfl | (rw [if_neg (by omega)]; try with_reducible rfl)))); simp only [Act.put, List.setIfInBounds_toArray, List.set_cons_zero, List.set_cons_succ]) | (refine pskip rfl rfl ?_; simp only [Act.put, List.setIfInBounds_toArray, List.set_cons_zero, List.set_cons_succ]))
 refine pthree rfl rfl rfl rfl rfl rfl ?_ ?_ ?_
 ·intro K hK
  go_simp
  refine (psame_any a b Aa Ab ca cb 0 0 0 0 0 0 Sa Sb _ (XA.out.keep fun k hk => Cw12.block k (SA.out k hk)) (XB.out.keep fun k hk => Cw12.block k (SB.out k hk)) (fun k hk => by have := SA.out k hk; omega) (fun k hk => by have := SB.out k hk; omega)).mono ?_; rintro e w13 ⟨⟨bs, rfl, hbs⟩, bw13⟩
  have HBS := Lib.hid hbs
  clear hbs
  go_wp2_with fail
  refine hK.out _ _ (fun k hk => bw13.block k (by simp at hk; omega)) ?_
  clear hK K
  try simp only [Act.put, List.setIfInBounds_toArray, List.set_cons_zero, List.set_cons_succ]
  have hzw13 := bw13.size
  have Cw13 := bthen Cw12 bw13
  have kbw13 : KB [w2.heap.size, w2.heap.size + 1, g2] w12 w13 := fun k hk => bw13.block k (by simp at hk; omega)
  replace q5 := fun W hW => q5 W (KB.trans kbw13 hW)
  replace q6 := fun W hW => q6 W (KB.trans kbw13 hW)
  replace q2 := fun W hW => q2 W (KB.trans kbw13 hW)
  clear kbw13
  have Dw13 := Lib.hid bw13
  clear bw13
  refine ptwo rfl rfl rfl rfl ?_ ?_
  ·intro K hK
   go_simp
   refine hK.out _ _ (fun k hk => Below.heap_alloc _ _ _ (by simp at hk; omega)) ?_
   clear hK K
   try simp only [Act.put, List.setIfInBounds_toArray, List.set_cons_zero, List.set_cons_succ]
   obtain ⟨w14, hw⟩ : ∃ W, w13.alloc (exO (hdK a) (hdV a).k (hdV a).n (hdV a).s (hdN a) (hdC a) (hdO a : Nat) (.slice Aa (parts a).length ca) 0 0 0) = W := ⟨_, rfl⟩
   have bw14 : Below w13.heap.size w13 w14 := by rw [← hw]; exact one_new
   have hrw14 : w14.heap[w13.heap.size]? = some (exB (hdK a) (hdV a).k (hdV a).n (hdV a).s (hdN a) (hdC a) (hdO a : Nat) (.slice Aa (parts a).length ca) 0 0 0) := by rw [← hw]; exact alloc_at rfl
   have hzw14 : w13.heap.size < w14.heap.size := by rw [← hw]; simp
   rw [hw]
   clear hw
   have Cw14 := bthen Cw13 bw14
   have Rw14 : Hid (RX w14 (fun k => Sa k ∨ k = w13.heap.size) (some ⟨w13.heap.size, 0, none⟩) 1 [a]) := Lib.hid (RX.made (XA.out.keep fun k hk => Cw14.block k (SA.out k hk)) hrw14)
   have kbw14 : KB [w2.heap.size, w2.heap.size + 1, g2] w13 w14 := fun k hk => bw14.block k (by simp at hk; omega)
   replace q5 := fun W hW => q5 W (KB.trans kbw14 hW)
   replace q6 := fun W hW => q6 W (KB.trans kbw14 hW)
   replace q2 := fun W hW => q2 W (KB.trans kbw14 hW)
   clear kbw14
   have Dw14 := Lib.hid bw14
   clear hrw14 bw14
   refine pcall rfl rfl (fun K hK => ?_)
   go_simp
   refine hK.out _ _ (fun k hk => Below.heap_alloc _ _ _ (by simp at hk; omega)) ?_
   clear hK K
   try simp only [Act.put, List.setIfInBounds_toArray, List.set_cons_zero, List.set_cons_succ]
   obtain ⟨w15, hw⟩ : ∃ W, w14.alloc (exO (hdK b) (hdV b).k (hdV b).n (hdV b).s (hdN b) (hdC b) (hdO b : Nat) (.slice Ab (parts b).length cb) 0 0 0) = W := ⟨_, rfl⟩
   have bw15 : Below w14.heap.size w14 w15 := by rw [← hw]; exact one_new
   have hrw15 : w15.heap[w14.heap.size]? = some (exB (hdK b) (hdV b).k (hdV b).n (hdV b).s (hdN b) (hdC b) (hdO b : Nat) (.slice Ab (parts b).length cb) 0 0 0) := by rw [← hw]; exact alloc_at rfl
   have hzw15 : w14.heap.size < w15.heap.size := by rw [← hw]; simp
   rw [hw]
   clear hw
   have Cw15 := bthen Cw14 bw15
   have Rw15 : Hid (RX w15 (fun k => Sb k ∨ k = w14.heap.size) (some ⟨w14.heap.size, 0, none⟩) 1 [b]) := Lib.hid (RX.made (XB.out.keep fun k hk => Cw15.block k (SB.out k hk)) hrw15)
   have kbw15 : KB [w2.heap.size, w2.heap.size + 1, g2] w14 w15 := fun k hk => bw15.block k (by simp at hk; omega)
   replace q5 := fun W hW => q5 W (KB.trans kbw15 hW)
   replace q6 := fun W hW => q6 W (KB.trans kbw15 hW)
   replace q2 := fun W hW => q2 W (KB.trans kbw15 hW)
   clear kbw15
   have Dw15 := Lib.hid bw15
   clear hrw15 bw15
   refine pcall rfl rfl (fun K hK => ?_)
   go_simp
   refine (sameR_any [a] [b] _ _ 1 1 _ _ w15 (Rw14.out.keep fun k hk => ?_) (Rw15.out.keep fun k hk => ?_) (fun k hk => ?_) (fun k hk => ?_) (by simp) (by simp)).mono ?_
   ·rcases hk with hk | rfl
    ·exact Dw15.out.block k (by have := SA.out k hk; omega)
    ·exact Dw15.out.block _ (by omega)
   ·rcases hk with hk | rfl
    ·exact (Below.refl w15.heap.size w15).block k (by have := SB.out k hk; omega)
    ·exact (Below.refl w15.heap.size w15).block _ (by omega)
   ·rcases hk with hk | rfl
    ·have := SA.out k hk; omega
    ·omega
   ·rcases hk with hk | rfl
    ·have := SB.out k hk; omega
    ·omega
   rintro e wq ⟨⟨bt, rfl, hbt⟩, bwq⟩
   obtain rfl : bt = bs := by
    have h1 := HBS.out
    simp at hbt
    cases bt <;> cases bs <;> simp_all
   clear hbt
   go_wp2_with fail
   refine hK.out _ _ (fun k hk => bwq.block k (by simp at hk; omega)) ?_
   clear hK K
   try simp only [Act.put, List.setIfInBounds_toArray, List.set_cons_zero, List.set_cons_succ]
   have hzwq := bwq.size
   have Cwq := bthen Cw15 bwq
   have kbwq : KB [w2.heap.size, w2.heap.size + 1, g2] w15 wq := fun k hk => bwq.block k (by simp at hk; omega)
   replace q5 := fun W hW => q5 W (KB.trans kbwq hW)
   replace q6 := fun W hW => q6 W (KB.trans kbwq hW)
   replace q2 := fun W hW => q2 W (KB.trans kbwq hW)
   clear kbwq
   have Dwq := Lib.hid bwq
   clear bwq
   repeat (first | (refine sreadxP rfl rfl ?_; apply Exists.intro; apply And.intro; (· (intro W hW; go_simp; try (first | with_reducible rfl | (rw [if_neg (by omega)]; try with_reducible rfl)))); simp only [Act.put, List.setIfInBounds_toArray, List.set_cons_zero, List.set_cons_succ]) | (refine pskip rfl rfl ?_; simp only [Act.put, List.setIfInBounds_toArray, List.set_cons_zero, List.set_cons_succ]))
   refine pcall rfl rfl (fun K hK => ?_)
   go_simp
   refine (printExpr_any a GA.out.1.1 Aa ca 0 0 0 Sa wq (XA.out.keep fun k hk => Cwq.block k (SA.out k hk)) (fun k hk => by have := SA.out k hk; omega) (by omega) (by rw [HTA.out]; omega)).mono ?_; rintro e wr ⟨rfl, bwr⟩
   rw [HTA.out]
   go_wp2_with fail
   refine hK.out _ _ (fun k hk => bwr.block k (by simp at hk; omega)) ?_
   clear hK K
   try simp only [Act.put, List.setIfInBounds_toArray, List.set_cons_zero, List.set_cons_succ]
   have hzwr := bwr.size
   have Cwr := bthen Cwq bwr
   have kbwr : KB [w2.heap.size, w2.heap.size + 1, g2] wq wr := fun k hk => bwr.block k (by simp at hk; omega)
   replace q5 := fun W hW => q5 W (KB.trans kbwr hW)
   replace q6 := fun W hW => q6 W (KB.trans kbwr hW)
   replace q2 := fun W hW => q2 W (KB.trans kbwr hW)
   clear kbwr
   have Dwr := Lib.hid bwr
   clear bwr
   repeat (first | (refine sreadxP rfl rfl ?_; apply Exists.intro; apply And.intro; (· (intro W hW; go_simp; try (first | with_reducible rfl | (rw [if_neg (by omega)]; try with_reducible rfl)))); simp only [Act.put, List.setIfInBounds_toArray, List.set_cons_zero, List.set_cons_succ]) | (refine pskip rfl rfl ?_; simp only [Act.put, List.setIfInBounds_toArray, List.set_cons_zero, List.set_cons_succ]))
   refine pcall rfl rfl (fun K hK => ?_)
   go_simp
   refine (rpx_any a GA.out.1.1 0 (by rw [toksX_no (by omega)]; have := GA.out.2; omega) Aa ca 0 0 0 Sa wr (XA.out.keep fun k hk => Cwr.block k (SA.out k hk)) (fun k hk => by have := SA.out k hk; omega) wr (Below.refl _ _)).mono ?_; rintro e ws ⟨rfl, bws⟩
   have hsp : sp (toksX a 0) = ta ++ [32] := by rw [toksX_no (by omega), sp_text (toks0_ne a), HTA.out]
   rw [hsp]
   clear hsp
   go_wp2_with fail
   refine hK.out _ _ (fun k hk => bws.block k (by simp at hk; omega)) ?_
   clear hK K
   try simp only [Act.put, List.setIfInBounds_toArray, List.set_cons_zero, List.set_cons_succ]
   have hzws := bws.size
   have Cws := bthen Cwr bws
   have kbws : KB [w2.heap.size, w2.heap.size + 1, g2] wr ws := fun k hk => bws.block k (by simp at hk; omega)
   replace q5 := fun W hW => q5 W (KB.trans kbws hW)
   replace q6 := fun W hW => q6 W (KB.trans kbws hW)
   replace q2 := fun W hW => q2 W (KB.trans kbws hW)
   clear kbws
   have Dws := Lib.hid bws
   clear bws
   have hcat : ByteArray.mk ta.toArray ++ ByteArray.mk #[32] = ByteArray.mk (ta ++ [32]).toArray := by
    show ByteArray.mk ta.toArray ++ ByteArray.mk [32].toArray = _
    rw [ba_append]
   try rw [hcat]
   repeat (first | (refine sreadxP rfl rfl ?_; apply Exists.intro; apply And.intro; (· (intro W hW; go_simp; try (first | with_reducible rfl | (rw [if_neg (by omega)]; try with_reducible rfl)))); simp only [Act.put, List.setIfInBounds_toArray, List.set_cons_zero, List.set_cons_succ]) | (refine pskip rfl rfl ?_; simp only [Act.put, List.setIfInBounds_toArray, List.set_cons_zero, List.set_cons_succ]))
   refine pcall rfl rfl (fun K hK => ?_)
   go_simp
   refine (liveY_any ws).mono ?_; rintro e wu ⟨rfl, bwu⟩
   go_wp2_with fail
   refine hK.out _ _ (fun k hk => bwu.block k (by simp at hk; omega)) ?_
   clear hK K
   try simp only [Act.put, List.setIfInBounds_toArray, List.set_cons_zero, List.set_cons_succ]
   have hzwu := bwu.size
   have Cwu := bthen Cws bwu
   have kbwu : KB [w2.heap.size, w2.heap.size + 1, g2] ws wu := fun k hk => bwu.block k (by simp at hk; omega)
   replace q5 := fun W hW => q5 W (KB.trans kbwu hW)
   replace q6 := fun W hW => q6 W (KB.trans kbwu hW)
   replace q2 := fun W hW => q2 W (KB.trans kbwu hW)
   clear kbwu
   have Dwu := Lib.hid bwu
   clear bwu
   repeat (first | (refine sreadxP rfl rfl ?_; apply Exists.intro; apply And.intro; (· (intro W hW; go_simp; try (first | with_reducible rfl | (rw [if_neg (by omega)]; try with_reducible rfl)))); simp only [Act.put, List.setIfInBounds_toArray, List.set_cons_zero, List.set_cons_succ]) | (refine pskip rfl rfl ?_; simp only [Act.put, List.setIfInBounds_toArray, List.set_cons_zero, List.set_cons_succ]))
   refine pdone ?_
   go_wp2_with fail
   go_ret
   refine ⟨?_, bthen B7 Cwu⟩
   cases bt <;> rfl
  ·intro K hK
   go_simp
   refine hK.out _ _ (fun k hk => Below.heap_alloc _ _ _ (by simp at hk; omega)) ?_
   clear hK K
   try simp only [Act.put, List.setIfInBounds_toArray, List.set_cons_zero, List.set_cons_succ]
   obtain ⟨w14, hw⟩ : ∃ W, w13.alloc (exO (hdK b) (hdV b).k (hdV b).n (hdV b).s (hdN b) (hdC b) (hdO b : Nat) (.slice Ab (parts b).length cb) 0 0 0) = W := ⟨_, rfl⟩
   have bw14 : Below w13.heap.size w13 w14 := by rw [← hw]; exact one_new
   have hrw14 : w14.heap[w13.heap.size]? = some (exB (hdK b) (hdV b).k (hdV b).n (hdV b).s (hdN b) (hdC b) (hdO b : Nat) (.slice Ab (parts b).length cb) 0 0 0) := by rw [← hw]; exact alloc_at rfl
   have hzw14 : w13.heap.size < w14.heap.size := by rw [← hw]; simp
   rw [hw]
   clear hw
   have Cw14 := bthen Cw13 bw14
   have Rw14 : Hid (RX w14 (fun k => Sb k ∨ k = w13.heap.size) (some ⟨w13.heap.size, 0, none⟩) 1 [b]) := Lib.hid (RX.made (XB.out.keep fun k hk => Cw14.block k (SB.out k hk)) hrw14)
   have kbw14 : KB [w2.heap.size, w2.heap.size + 1, g2] w13 w14 := fun k hk => bw14.block k (by simp at hk; omega)
   replace q5 := fun W hW => q5 W (KB.trans kbw14 hW)
   replace q6 := fun W hW => q6 W (KB.trans kbw14 hW)
   replace q2 := fun W hW => q2 W (KB.trans kbw14 hW)
   clear kbw14
   have Dw14 := Lib.hid bw14
   clear hrw14 bw14
   refine pcall rfl rfl (fun K hK => ?_)
   go_simp
   refine hK.out _ _ (fun k hk => Below.heap_alloc _ _ _ (by simp at hk; omega)) ?_
   clear hK K
   try simp only [Act.put, List.setIfInBounds_toArray, List.set_cons_zero, List.set_cons_succ]
   obtain ⟨w15, hw⟩ : ∃ W, w14.alloc (exO (hdK a) (hdV a).k (hdV a).n (hdV a).s (hdN a) (hdC a) (hdO a : Nat) (.slice Aa (parts a).length ca) 0 0 0) = W := ⟨_, rfl⟩
   have bw15 : Below w14.heap.size w14 w15 := by rw [← hw]; exact one_new
   have hrw15 : w15.heap[w14.heap.size]? = some (exB (hdK a) (hdV a).k (hdV a).n (hdV a).s (hdN a) (hdC a) (hdO a : Nat) (.slice Aa (parts a).length ca) 0 0 0) := by rw [← hw]; exact alloc_at rfl
   have hzw15 : w14.heap.size < w15.heap.size := by rw [← hw]; simp
   rw [hw]
   clear hw
   have Cw15 := bthen Cw14 bw15
   have Rw15 : Hid (RX w15 (fun k => Sa k ∨ k = w14.heap.size) (some ⟨w14.heap.size, 0, none⟩) 1 [a]) := Lib.hid (RX.made (XA.out.keep fun k hk => Cw15.block k (SA.out k hk)) hrw15)
   have kbw15 : KB [w2.heap.size, w2.heap.size + 1, g2] w14 w15 := fun k hk => bw15.block k (by simp at hk; omega)
   replace q5 := fun W hW => q5 W (KB.trans kbw15 hW)
   replace q6 := fun W hW => q6 W (KB.trans kbw15 hW)
   replace q2 := fun W hW => q2 W (KB.trans kbw15 hW)
   clear kbw15
   have Dw15 := Lib.hid bw15
   clear hrw15 bw15
   refine pcall rfl rfl (fun K hK => ?_)
   go_simp
   refine (sameR_any [a] [b] _ _ 1 1 _ _ w15 (Rw15.out.keep fun k hk => ?_) (Rw14.out.keep fun k hk => ?_) (fun k hk => ?_) (fun k hk => ?_) (by simp) (by simp)).mono ?_
   ·rcases hk with hk | rfl
    ·exact (Below.refl w15.heap.size w15).block k (by have := SA.out k hk; omega)
    ·exact (Below.refl w15.heap.size w15).block _ (by omega)
   ·rcases hk with hk | rfl
    ·exact Dw15.out.block k (by have := SB.out k hk; omega)
    ·exact Dw15.out.block _ (by omega)
   ·rcases hk with hk | rfl
    ·have := SA.out k hk; omega
    ·omega
   ·rcases hk with hk | rfl
    ·have := SB.out k hk; omega
    ·omega
   rintro e wq ⟨⟨bt, rfl, hbt⟩, bwq⟩
   obtain rfl : bt = bs := by
    have h1 := HBS.out
    simp at hbt
    cases bt <;> cases bs <;> simp_all
   clear hbt
   go_wp2_with fail
   refine hK.out _ _ (fun k hk => bwq.block k (by simp at hk; omega)) ?_
   clear hK K
   try simp only [Act.put, List.setIfInBounds_toArray, List.set_cons_zero, List.set_cons_succ]
   have hzwq := bwq.size
   have Cwq := bthen Cw15 bwq
   have kbwq : KB [w2.heap.size, w2.heap.size + 1, g2] w15 wq := fun k hk => bwq.block k (by simp at hk; omega)
   replace q5 := fun W hW => q5 W (KB.trans kbwq hW)
   replace q6 := fun W hW => q6 W (KB.trans kbwq hW)
   replace q2 := fun W hW => q2 W (KB.trans kbwq hW)
   clear kbwq
   have Dwq := Lib.hid bwq
   clear bwq
   repeat (first | (refine sreadxP rfl rfl ?_; apply Exists.intro; apply And.intro; (· (intro W hW; go_simp; try (first | with_reducible rfl | (rw [if_neg (by omega)]; try with_reducible rfl)))); simp only [Act.put, List.setIfInBounds_toArray, List.set_cons_zero, List.set_cons_succ]) | (refine pskip rfl rfl ?_; simp only [Act.put, List.setIfInBounds_toArray, List.set_cons_zero, List.set_cons_succ]))
   refine pcall rfl rfl (fun K hK => ?_)
   go_simp
   refine (printExpr_any a GA.out.1.1 Aa ca 0 0 0 Sa wq (XA.out.keep fun k hk => Cwq.block k (SA.out k hk)) (fun k hk => by have := SA.out k hk; omega) (by omega) (by rw [HTA.out]; omega)).mono ?_; rintro e wr ⟨rfl, bwr⟩
   rw [HTA.out]
   go_wp2_with fail
   refine hK.out _ _ (fun k hk => bwr.block k (by simp at hk; omega)) ?_
   clear hK K
   try simp only [Act.put, List.setIfInBounds_toArray, List.set_cons_zero, List.set_cons_succ]
   have hzwr := bwr.size
   have Cwr := bthen Cwq bwr
   have kbwr : KB [w2.heap.size, w2.heap.size + 1, g2] wq wr := fun k hk => bwr.block k (by simp at hk; omega)
   replace q5 := fun W hW => q5 W (KB.trans kbwr hW)
   replace q6 := fun W hW => q6 W (KB.trans kbwr hW)
   replace q2 := fun W hW => q2 W (KB.trans kbwr hW)
   clear kbwr
   have Dwr := Lib.hid bwr
   clear bwr
   repeat (first | (refine sreadxP rfl rfl ?_; apply Exists.intro; apply And.intro; (· (intro W hW; go_simp; try (first | with_reducible rfl | (rw [if_neg (by omega)]; try with_reducible rfl)))); simp only [Act.put, List.setIfInBounds_toArray, List.set_cons_zero, List.set_cons_succ]) | (refine pskip rfl rfl ?_; simp only [Act.put, List.setIfInBounds_toArray, List.set_cons_zero, List.set_cons_succ]))
   refine pcall rfl rfl (fun K hK => ?_)
   go_simp
   refine (rpx_any a GA.out.1.1 0 (by rw [toksX_no (by omega)]; have := GA.out.2; omega) Aa ca 0 0 0 Sa wr (XA.out.keep fun k hk => Cwr.block k (SA.out k hk)) (fun k hk => by have := SA.out k hk; omega) wr (Below.refl _ _)).mono ?_; rintro e ws ⟨rfl, bws⟩
   have hsp : sp (toksX a 0) = ta ++ [32] := by rw [toksX_no (by omega), sp_text (toks0_ne a), HTA.out]
   rw [hsp]
   clear hsp
   go_wp2_with fail
   refine hK.out _ _ (fun k hk => bws.block k (by simp at hk; omega)) ?_
   clear hK K
   try simp only [Act.put, List.setIfInBounds_toArray, List.set_cons_zero, List.set_cons_succ]
   have hzws := bws.size
   have Cws := bthen Cwr bws
   have kbws : KB [w2.heap.size, w2.heap.size + 1, g2] wr ws := fun k hk => bws.block k (by simp at hk; omega)
   replace q5 := fun W hW => q5 W (KB.trans kbws hW)
   replace q6 := fun W hW => q6 W (KB.trans kbws hW)
   replace q2 := fun W hW => q2 W (KB.trans kbws hW)
   clear kbws
   have Dws := Lib.hid bws
   clear bws
   have hcat : ByteArray.mk ta.toArray ++ ByteArray.mk #[32] = ByteArray.mk (ta ++ [32]).toArray := by
    show ByteArray.mk ta.toArray ++ ByteArray.mk [32].toArray = _
    rw [ba_append]
   try rw [hcat]
   repeat (first | (refine sreadxP rfl rfl ?_; apply Exists.intro; apply And.intro; (· (intro W hW; go_simp; try (first | with_reducible rfl | (rw [if_neg (by omega)]; try with_reducible rfl)))); simp only [Act.put, List.setIfInBounds_toArray, List.set_cons_zero, List.set_cons_succ]) | (refine pskip rfl rfl ?_; simp only [Act.put, List.setIfInBounds_toArray, List.set_cons_zero, List.set_cons_succ]))
   refine pcall rfl rfl (fun K hK => ?_)
   go_simp
   refine (liveY_any ws).mono ?_; rintro e wu ⟨rfl, bwu⟩
   go_wp2_with fail
   refine hK.out _ _ (fun k hk => bwu.block k (by simp at hk; omega)) ?_
   clear hK K
   try simp only [Act.put, List.setIfInBounds_toArray, List.set_cons_zero, List.set_cons_succ]
   have hzwu := bwu.size
   have Cwu := bthen Cws bwu
   have kbwu : KB [w2.heap.size, w2.heap.size + 1, g2] ws wu := fun k hk => bwu.block k (by simp at hk; omega)
   replace q5 := fun W hW => q5 W (KB.trans kbwu hW)
   replace q6 := fun W hW => q6 W (KB.trans kbwu hW)
   replace q2 := fun W hW => q2 W (KB.trans kbwu hW)
   clear kbwu
   have Dwu := Lib.hid bwu
   clear bwu
   repeat (first | (refine sreadxP rfl rfl ?_; apply Exists.intro; apply And.intro; (· (intro W hW; go_simp; try (first | with_reducible rfl | (rw [if_neg (by omega)]; try with_reducible rfl)))); simp only [Act.put, List.setIfInBounds_toArray, List.set_cons_zero, List.set_cons_succ]) | (refine pskip rfl rfl ?_; simp only [Act.put, List.setIfInBounds_toArray, List.set_cons_zero, List.set_cons_succ]))
   refine pdone ?_
   go_wp2_with fail
   go_ret
   refine ⟨?_, bthen B7 Cwu⟩
   cases bt <;> rfl
 ·intro K hK
  go_simp
  refine hK.out _ _ (fun k hk => Below.heap_alloc _ _ _ (by simp at hk; omega)) ?_
  clear hK K
  try simp only [Act.put, List.setIfInBounds_toArray, List.set_cons_zero, List.set_cons_succ]
  obtain ⟨w13, hw⟩ : ∃ W, w12.alloc (exO (hdK a) (hdV a).k (hdV a).n (hdV a).s (hdN a) (hdC a) (hdO a : Nat) (.slice Aa (parts a).length ca) 0 0 0) = W := ⟨_, rfl⟩
  have bw13 : Below w12.heap.size w12 w13 := by rw [← hw]; exact one_new
  have hrw13 : w13.heap[w12.heap.size]? = some (exB (hdK a) (hdV a).k (hdV a).n (hdV a).s (hdN a) (hdC a) (hdO a : Nat) (.slice Aa (parts a).length ca) 0 0 0) := by rw [← hw]; exact alloc_at rfl
  have hzw13 : w12.heap.size < w13.heap.size := by rw [← hw]; simp
  rw [hw]
  clear hw
  have Cw13 := bthen Cw12 bw13
  have Rw13 : Hid (RX w13 (fun k => Sa k ∨ k = w12.heap.size) (some ⟨w12.heap.size, 0, none⟩) 1 [a]) := Lib.hid (RX.made (XA.out.keep fun k hk => Cw13.block k (SA.out k hk)) hrw13)
  have kbw13 : KB [w2.heap.size, w2.heap.size + 1, g2] w12 w13 := fun k hk => bw13.block k (by simp at hk; omega)
  replace q5 := fun W hW => q5 W (KB.trans kbw13 hW)
  replace q6 := fun W hW => q6 W (KB.trans kbw13 hW)
  replace q2 := fun W hW => q2 W (KB.trans kbw13 hW)
  clear kbw13
  have Dw13 := Lib.hid bw13
  clear hrw13 bw13
  refine ptwo rfl rfl rfl rfl ?_ ?_
  ·intro K hK
   go_simp
   refine (psame_any a b Aa Ab ca cb 0 0 0 0 0 0 Sa Sb _ (XA.out.keep fun k hk => Cw13.block k (SA.out k hk)) (XB.out.keep fun k hk => Cw13.block k (SB.out k hk)) (fun k hk => by have := SA.out k hk; omega) (fun k hk => by have := SB.out k hk; omega)).mono ?_; rintro e w14 ⟨⟨bs, rfl, hbs⟩, bw14⟩
   have HBS := Lib.hid hbs
   clear hbs
   go_wp2_with fail
   refine hK.out _ _ (fun k hk => bw14.block k (by simp at hk; omega)) ?_
   clear hK K
   try simp only [Act.put, List.setIfInBounds_toArray, List.set_cons_zero, List.set_cons_succ]
   have hzw14 := bw14.size
   have Cw14 := bthen Cw13 bw14
   have kbw14 : KB [w2.heap.size, w2.heap.size + 1, g2] w13 w14 := fun k hk => bw14.block k (by simp at hk; omega)
   replace q5 := fun W hW => q5 W (KB.trans kbw14 hW)
   replace q6 := fun W hW => q6 W (KB.trans kbw14 hW)
   replace q2 := fun W hW => q2 W (KB.trans kbw14 hW)
   clear kbw14
   have Dw14 := Lib.hid bw14
   clear bw14
   refine pcall rfl rfl (fun K hK => ?_)
   go_simp
   refine hK.out _ _ (fun k hk => Below.heap_alloc _ _ _ (by simp at hk; omega)) ?_
   clear hK K
   try simp only [Act.put, List.setIfInBounds_toArray, List.set_cons_zero, List.set_cons_succ]
   obtain ⟨w15, hw⟩ : ∃ W, w14.alloc (exO (hdK b) (hdV b).k (hdV b).n (hdV b).s (hdN b) (hdC b) (hdO b : Nat) (.slice Ab (parts b).length cb) 0 0 0) = W := ⟨_, rfl⟩
   have bw15 : Below w14.heap.size w14 w15 := by rw [← hw]; exact one_new
   have hrw15 : w15.heap[w14.heap.size]? = some (exB (hdK b) (hdV b).k (hdV b).n (hdV b).s (hdN b) (hdC b) (hdO b : Nat) (.slice Ab (parts b).length cb) 0 0 0) := by rw [← hw]; exact alloc_at rfl
   have hzw15 : w14.heap.size < w15.heap.size := by rw [← hw]; simp
   rw [hw]
   clear hw
   have Cw15 := bthen Cw14 bw15
   have Rw15 : Hid (RX w15 (fun k => Sb k ∨ k = w14.heap.size) (some ⟨w14.heap.size, 0, none⟩) 1 [b]) := Lib.hid (RX.made (XB.out.keep fun k hk => Cw15.block k (SB.out k hk)) hrw15)
   have kbw15 : KB [w2.heap.size, w2.heap.size + 1, g2] w14 w15 := fun k hk => bw15.block k (by simp at hk; omega)
   replace q5 := fun W hW => q5 W (KB.trans kbw15 hW)
   replace q6 := fun W hW => q6 W (KB.trans kbw15 hW)
   replace q2 := fun W hW => q2 W (KB.trans kbw15 hW)
   clear kbw15
   have Dw15 := Lib.hid bw15
   clear hrw15 bw15
   refine pcall rfl rfl (fun K hK => ?_)
   go_simp
   refine (sameR_any [a] [b] _ _ 1 1 _ _ w15 (Rw13.out.keep fun k hk => ?_) (Rw15.out.keep fun k hk => ?_) (fun k hk => ?_) (fun k hk => ?_) (by simp) (by simp)).mono ?_
   ·rcases hk with hk | rfl
    ·exact (bthen Dw14.out Dw15.out).block k (by have := SA.out k hk; omega)
    ·exact (bthen Dw14.out Dw15.out).block _ (by omega)
   ·rcases hk with hk | rfl
    ·exact (Below.refl w15.heap.size w15).block k (by have := SB.out k hk; omega)
    ·exact (Below.refl w15.heap.size w15).block _ (by omega)
   ·rcases hk with hk | rfl
    ·have := SA.out k hk; omega
    ·omega
   ·rcases hk with hk | rfl
    ·have := SB.out k hk; omega
    ·omega
   rintro e wq ⟨⟨bt, rfl, hbt⟩, bwq⟩
   obtain rfl : bt = bs := by
    have h1 := HBS.out
    simp at hbt
    cases bt <;> cases bs <;> simp_all
   clear hbt
   go_wp2_with fail
   refine hK.out _ _ (fun k hk => bwq.block k (by simp at hk; omega)) ?_
   clear hK K
   try simp only [Act.put, List.setIfInBounds_toArray, List.set_cons_zero, List.set_cons_succ]
   have hzwq := bwq.size
   have Cwq := bthen Cw15 bwq
   have kbwq : KB [w2.heap.size, w2.heap.size + 1, g2] w15 wq := fun k hk => bwq.block k (by simp at hk; omega)
   replace q5 := fun W hW => q5 W (KB.trans kbwq hW)
   replace q6 := fun W hW => q6 W (KB.trans kbwq hW)
   replace q2 := fun W hW => q2 W (KB.trans kbwq hW)
   clear kbwq
   have Dwq := Lib.hid bwq
   clear bwq
   repeat (first | (refine sreadxP rfl rfl ?_; apply Exists.intro; apply And.intro; (· (intro W hW; go_simp; try (first | with_reducible rfl | (rw [if_neg (by omega)]; try with_reducible rfl)))); simp only [Act.put, List.setIfInBounds_toArray, List.set_cons_zero, List.set_cons_succ]) | (refine pskip rfl rfl ?_; simp only [Act.put, List.setIfInBounds_toArray, List.set_cons_zero, List.set_cons_succ]))
   refine pcall rfl rfl (fun K hK => ?_)
   go_simp
   refine (printExpr_any a GA.out.1.1 Aa ca 0 0 0 Sa wq (XA.out.keep fun k hk => Cwq.block k (SA.out k hk)) (fun k hk => by have := SA.out k hk; omega) (by omega) (by rw [HTA.out]; omega)).mono ?_; rintro e wr ⟨rfl, bwr⟩
   rw [HTA.out]
   go_wp2_with fail
   refine hK.out _ _ (fun k hk => bwr.block k (by simp at hk; omega)) ?_
   clear hK K
   try simp only [Act.put, List.setIfInBounds_toArray, List.set_cons_zero, List.set_cons_succ]
   have hzwr := bwr.size
   have Cwr := bthen Cwq bwr
   have kbwr : KB [w2.heap.size, w2.heap.size + 1, g2] wq wr := fun k hk => bwr.block k (by simp at hk; omega)
   replace q5 := fun W hW => q5 W (KB.trans kbwr hW)
   replace q6 := fun W hW => q6 W (KB.trans kbwr hW)
   replace q2 := fun W hW => q2 W (KB.trans kbwr hW)
   clear kbwr
   have Dwr := Lib.hid bwr
   clear bwr
   repeat (first | (refine sreadxP rfl rfl ?_; apply Exists.intro; apply And.intro; (· (intro W hW; go_simp; try (first | with_reducible rfl | (rw [if_neg (by omega)]; try with_reducible rfl)))); simp only [Act.put, List.setIfInBounds_toArray, List.set_cons_zero, List.set_cons_succ]) | (refine pskip rfl rfl ?_; simp only [Act.put, List.setIfInBounds_toArray, List.set_cons_zero, List.set_cons_succ]))
   refine pcall rfl rfl (fun K hK => ?_)
   go_simp
   refine (rpx_any a GA.out.1.1 0 (by rw [toksX_no (by omega)]; have := GA.out.2; omega) Aa ca 0 0 0 Sa wr (XA.out.keep fun k hk => Cwr.block k (SA.out k hk)) (fun k hk => by have := SA.out k hk; omega) wr (Below.refl _ _)).mono ?_; rintro e ws ⟨rfl, bws⟩
   have hsp : sp (toksX a 0) = ta ++ [32] := by rw [toksX_no (by omega), sp_text (toks0_ne a), HTA.out]
   rw [hsp]
   clear hsp
   go_wp2_with fail
   refine hK.out _ _ (fun k hk => bws.block k (by simp at hk; omega)) ?_
   clear hK K
   try simp only [Act.put, List.setIfInBounds_toArray, List.set_cons_zero, List.set_cons_succ]
   have hzws := bws.size
   have Cws := bthen Cwr bws
   have kbws : KB [w2.heap.size, w2.heap.size + 1, g2] wr ws := fun k hk => bws.block k (by simp at hk; omega)
   replace q5 := fun W hW => q5 W (KB.trans kbws hW)
   replace q6 := fun W hW => q6 W (KB.trans kbws hW)
   replace q2 := fun W hW => q2 W (KB.trans kbws hW)
   clear kbws
   have Dws := Lib.hid bws
   clear bws
   have hcat : ByteArray.mk ta.toArray ++ ByteArray.mk #[32] = ByteArray.mk (ta ++ [32]).toArray := by
    show ByteArray.mk ta.toArray ++ ByteArray.mk [32].toArray = _
    rw [ba_append]
   try rw [hcat]
   repeat (first | (refine sreadxP rfl rfl ?_; apply Exists.intro; apply And.intro; (· (intro W hW; go_simp; try (first | with_reducible rfl | (rw [if_neg (by omega)]; try with_reducible rfl)))); simp only [Act.put, List.setIfInBounds_toArray, List.set_cons_zero, List.set_cons_succ]) | (refine pskip rfl rfl ?_; simp only [Act.put, List.setIfInBounds_toArray, List.set_cons_zero, List.set_cons_succ]))
   refine pcall rfl rfl (fun K hK => ?_)
   go_simp
   refine (liveY_any ws).mono ?_; rintro e wu ⟨rfl, bwu⟩
   go_wp2_with fail
   refine hK.out _ _ (fun k hk => bwu.block k (by simp at hk; omega)) ?_
   clear hK K
   try simp only [Act.put, List.setIfInBounds_toArray, List.set_cons_zero, List.set_cons_succ]
   have hzwu := bwu.size
   have Cwu := bthen Cws bwu
   have kbwu : KB [w2.heap.size, w2.heap.size + 1, g2] ws wu := fun k hk => bwu.block k (by simp at hk; omega)
   replace q5 := fun W hW => q5 W (KB.trans kbwu hW)
   replace q6 := fun W hW => q6 W (KB.trans kbwu hW)
   replace q2 := fun W hW => q2 W (KB.trans kbwu hW)
   clear kbwu
   have Dwu := Lib.hid bwu
   clear bwu
   repeat (first | (refine sreadxP rfl rfl ?_; apply Exists.intro; apply And.intro; (· (intro W hW; go_simp; try (first | with_reducible rfl | (rw [if_neg (by omega)]; try with_reducible rfl)))); simp only [Act.put, List.setIfInBounds_toArray, List.set_cons_zero, List.set_cons_succ]) | (refine pskip rfl rfl ?_; simp only [Act.put, List.setIfInBounds_toArray, List.set_cons_zero, List.set_cons_succ]))
   refine pdone ?_
   go_wp2_with fail
   go_ret
   refine ⟨?_, bthen B7 Cwu⟩
   cases bt <;> rfl
  ·intro K hK
   go_simp
   refine hK.out _ _ (fun k hk => Below.heap_alloc _ _ _ (by simp at hk; omega)) ?_
   clear hK K
   try simp only [Act.put, List.setIfInBounds_toArray, List.set_cons_zero, List.set_cons_succ]
   obtain ⟨w14, hw⟩ : ∃ W, w13.alloc (exO (hdK b) (hdV b).k (hdV b).n (hdV b).s (hdN b) (hdC b) (hdO b : Nat) (.slice Ab (parts b).length cb) 0 0 0) = W := ⟨_, rfl⟩
   have bw14 : Below w13.heap.size w13 w14 := by rw [← hw]; exact one_new
   have hrw14 : w14.heap[w13.heap.size]? = some (exB (hdK b) (hdV b).k (hdV b).n (hdV b).s (hdN b) (hdC b) (hdO b : Nat) (.slice Ab (parts b).length cb) 0 0 0) := by rw [← hw]; exact alloc_at rfl
   have hzw14 : w13.heap.size < w14.heap.size := by rw [← hw]; simp
   rw [hw]
   clear hw
   have Cw14 := bthen Cw13 bw14
   have Rw14 : Hid (RX w14 (fun k => Sb k ∨ k = w13.heap.size) (some ⟨w13.heap.size, 0, none⟩) 1 [b]) := Lib.hid (RX.made (XB.out.keep fun k hk => Cw14.block k (SB.out k hk)) hrw14)
   have kbw14 : KB [w2.heap.size, w2.heap.size + 1, g2] w13 w14 := fun k hk => bw14.block k (by simp at hk; omega)
   replace q5 := fun W hW => q5 W (KB.trans kbw14 hW)
   replace q6 := fun W hW => q6 W (KB.trans kbw14 hW)
   replace q2 := fun W hW => q2 W (KB.trans kbw14 hW)
   clear kbw14
   have Dw14 := Lib.hid bw14
   clear hrw14 bw14
   refine pcall rfl rfl (fun K hK => ?_)
   go_simp
   refine (psame_any a b Aa Ab ca cb 0 0 0 0 0 0 Sa Sb _ (XA.out.keep fun k hk => Cw14.block k (SA.out k hk)) (XB.out.keep fun k hk => Cw14.block k (SB.out k hk)) (fun k hk => by have := SA.out k hk; omega) (fun k hk => by have := SB.out k hk; omega)).mono ?_; rintro e w15 ⟨⟨bs, rfl, hbs⟩, bw15⟩
   have HBS := Lib.hid hbs
   clear hbs
   go_wp2_with fail
   refine hK.out _ _ (fun k hk => bw15.block k (by simp at hk; omega)) ?_
   clear hK K
   try simp only [Act.put, List.setIfInBounds_toArray, List.set_cons_zero, List.set_cons_succ]
   have hzw15 := bw15.size
   have Cw15 := bthen Cw14 bw15
   have kbw15 : KB [w2.heap.size, w2.heap.size + 1, g2] w14 w15 := fun k hk => bw15.block k (by simp at hk; omega)
   replace q5 := fun W hW => q5 W (KB.trans kbw15 hW)
   replace q6 := fun W hW => q6 W (KB.trans kbw15 hW)
   replace q2 := fun W hW => q2 W (KB.trans kbw15 hW)
   clear kbw15
   have Dw15 := Lib.hid bw15
   clear bw15
   refine pcall rfl rfl (fun K hK => ?_)
   go_simp
   refine (sameR_any [a] [b] _ _ 1 1 _ _ w15 (Rw13.out.keep fun k hk => ?_) (Rw14.out.keep fun k hk => ?_) (fun k hk => ?_) (fun k hk => ?_) (by simp) (by simp)).mono ?_
   ·rcases hk with hk | rfl
    ·exact (bthen Dw14.out Dw15.out).block k (by have := SA.out k hk; omega)
    ·exact (bthen Dw14.out Dw15.out).block _ (by omega)
   ·rcases hk with hk | rfl
    ·exact Dw15.out.block k (by have := SB.out k hk; omega)
    ·exact Dw15.out.block _ (by omega)
   ·rcases hk with hk | rfl
    ·have := SA.out k hk; omega
    ·omega
   ·rcases hk with hk | rfl
    ·have := SB.out k hk; omega
    ·omega
   rintro e wq ⟨⟨bt, rfl, hbt⟩, bwq⟩
   obtain rfl : bt = bs := by
    have h1 := HBS.out
    simp at hbt
    cases bt <;> cases bs <;> simp_all
   clear hbt
   go_wp2_with fail
   refine hK.out _ _ (fun k hk => bwq.block k (by simp at hk; omega)) ?_
   clear hK K
   try simp only [Act.put, List.setIfInBounds_toArray, List.set_cons_zero, List.set_cons_succ]
   have hzwq := bwq.size
   have Cwq := bthen Cw15 bwq
   have kbwq : KB [w2.heap.size, w2.heap.size + 1, g2] w15 wq := fun k hk => bwq.block k (by simp at hk; omega)
   replace q5 := fun W hW => q5 W (KB.trans kbwq hW)
   replace q6 := fun W hW => q6 W (KB.trans kbwq hW)
   replace q2 := fun W hW => q2 W (KB.trans kbwq hW)
   clear kbwq
   have Dwq := Lib.hid bwq
   clear bwq
   repeat (first | (refine sreadxP rfl rfl ?_; apply Exists.intro; apply And.intro; (· (intro W hW; go_simp; try (first | with_reducible rfl | (rw [if_neg (by omega)]; try with_reducible rfl)))); simp only [Act.put, List.setIfInBounds_toArray, List.set_cons_zero, List.set_cons_succ]) | (refine pskip rfl rfl ?_; simp only [Act.put, List.setIfInBounds_toArray, List.set_cons_zero, List.set_cons_succ]))
   refine pcall rfl rfl (fun K hK => ?_)
   go_simp
   refine (printExpr_any a GA.out.1.1 Aa ca 0 0 0 Sa wq (XA.out.keep fun k hk => Cwq.block k (SA.out k hk)) (fun k hk => by have := SA.out k hk; omega) (by omega) (by rw [HTA.out]; omega)).mono ?_; rintro e wr ⟨rfl, bwr⟩
   rw [HTA.out]
   go_wp2_with fail
   refine hK.out _ _ (fun k hk => bwr.block k (by simp at hk; omega)) ?_
   clear hK K
   try simp only [Act.put, List.setIfInBounds_toArray, List.set_cons_zero, List.set_cons_succ]
   have hzwr := bwr.size
   have Cwr := bthen Cwq bwr
   have kbwr : KB [w2.heap.size, w2.heap.size + 1, g2] wq wr := fun k hk => bwr.block k (by simp at hk; omega)
   replace q5 := fun W hW => q5 W (KB.trans kbwr hW)
   replace q6 := fun W hW => q6 W (KB.trans kbwr hW)
   replace q2 := fun W hW => q2 W (KB.trans kbwr hW)
   clear kbwr
   have Dwr := Lib.hid bwr
   clear bwr
   repeat (first | (refine sreadxP rfl rfl ?_; apply Exists.intro; apply And.intro; (· (intro W hW; go_simp; try (first | with_reducible rfl | (rw [if_neg (by omega)]; try with_reducible rfl)))); simp only [Act.put, List.setIfInBounds_toArray, List.set_cons_zero, List.set_cons_succ]) | (refine pskip rfl rfl ?_; simp only [Act.put, List.setIfInBounds_toArray, List.set_cons_zero, List.set_cons_succ]))
   refine pcall rfl rfl (fun K hK => ?_)
   go_simp
   refine (rpx_any a GA.out.1.1 0 (by rw [toksX_no (by omega)]; have := GA.out.2; omega) Aa ca 0 0 0 Sa wr (XA.out.keep fun k hk => Cwr.block k (SA.out k hk)) (fun k hk => by have := SA.out k hk; omega) wr (Below.refl _ _)).mono ?_; rintro e ws ⟨rfl, bws⟩
   have hsp : sp (toksX a 0) = ta ++ [32] := by rw [toksX_no (by omega), sp_text (toks0_ne a), HTA.out]
   rw [hsp]
   clear hsp
   go_wp2_with fail
   refine hK.out _ _ (fun k hk => bws.block k (by simp at hk; omega)) ?_
   clear hK K
   try simp only [Act.put, List.setIfInBounds_toArray, List.set_cons_zero, List.set_cons_succ]
   have hzws := bws.size
   have Cws := bthen Cwr bws
   have kbws : KB [w2.heap.size, w2.heap.size + 1, g2] wr ws := fun k hk => bws.block k (by simp at hk; omega)
   replace q5 := fun W hW => q5 W (KB.trans kbws hW)
   replace q6 := fun W hW => q6 W (KB.trans kbws hW)
   replace q2 := fun W hW => q2 W (KB.trans kbws hW)
   clear kbws
   have Dws := Lib.hid bws
   clear bws
   have hcat : ByteArray.mk ta.toArray ++ ByteArray.mk #[32] = ByteArray.mk (ta ++ [32]).toArray := by
    show ByteArray.mk ta.toArray ++ ByteArray.mk [32].toArray = _
    rw [ba_append]
   try rw [hcat]
   repeat (first | (refine sreadxP rfl rfl ?_; apply Exists.intro; apply And.intro; (· (intro W hW; go_simp; try (first | with_reducible rfl | (rw [if_neg (by omega)]; try with_reducible rfl)))); simp only [Act.put, List.setIfInBounds_toArray, List.set_cons_zero, List.set_cons_succ]) | (refine pskip rfl rfl ?_; simp only [Act.put, List.setIfInBounds_toArray, List.set_cons_zero, List.set_cons_succ]))
   refine pcall rfl rfl (fun K hK => ?_)
   go_simp
   refine (liveY_any ws).mono ?_; rintro e wu ⟨rfl, bwu⟩
   go_wp2_with fail
   refine hK.out _ _ (fun k hk => bwu.block k (by simp at hk; omega)) ?_
   clear hK K
   try simp only [Act.put, List.setIfInBounds_toArray, List.set_cons_zero, List.set_cons_succ]
   have hzwu := bwu.size
   have Cwu := bthen Cws bwu
   have kbwu : KB [w2.heap.size, w2.heap.size + 1, g2] ws wu := fun k hk => bwu.block k (by simp at hk; omega)
   replace q5 := fun W hW => q5 W (KB.trans kbwu hW)
   replace q6 := fun W hW => q6 W (KB.trans kbwu hW)
   replace q2 := fun W hW => q2 W (KB.trans kbwu hW)
   clear kbwu
   have Dwu := Lib.hid bwu
   clear bwu
   repeat (first | (refine sreadxP rfl rfl ?_; apply Exists.intro; apply And.intro; (· (intro W hW; go_simp; try (first | with_reducible rfl | (rw [if_neg (by omega)]; try with_reducible rfl)))); simp only [Act.put, List.setIfInBounds_toArray, List.set_cons_zero, List.set_cons_succ]) | (refine pskip rfl rfl ?_; simp only [Act.put, List.setIfInBounds_toArray, List.set_cons_zero, List.set_cons_succ]))
   refine pdone ?_
   go_wp2_with fail
   go_ret
   refine ⟨?_, bthen B7 Cwu⟩
   cases bt <;> rfl
 ·intro K hK
  go_simp
  refine hK.out _ _ (fun k hk => Below.heap_alloc _ _ _ (by simp at hk; omega)) ?_
  clear hK K
  try simp only [Act.put, List.setIfInBounds_toArray, List.set_cons_zero, List.set_cons_succ]
  obtain ⟨w13, hw⟩ : ∃ W, w12.alloc (exO (hdK b) (hdV b).k (hdV b).n (hdV b).s (hdN b) (hdC b) (hdO b : Nat) (.slice Ab (parts b).length cb) 0 0 0) = W := ⟨_, rfl⟩
  have bw13 : Below w12.heap.size w12 w13 := by rw [← hw]; exact one_new
  have hrw13 : w13.heap[w12.heap.size]? = some (exB (hdK b) (hdV b).k (hdV b).n (hdV b).s (hdN b) (hdC b) (hdO b : Nat) (.slice Ab (parts b).length cb) 0 0 0) := by rw [← hw]; exact alloc_at rfl
  have hzw13 : w12.heap.size < w13.heap.size := by rw [← hw]; simp
  rw [hw]
  clear hw
  have Cw13 := bthen Cw12 bw13
  have Rw13 : Hid (RX w13 (fun k => Sb k ∨ k = w12.heap.size) (some ⟨w12.heap.size, 0, none⟩) 1 [b]) := Lib.hid (RX.made (XB.out.keep fun k hk => Cw13.block k (SB.out k hk)) hrw13)
  have kbw13 : KB [w2.heap.size, w2.heap.size + 1, g2] w12 w13 := fun k hk => bw13.block k (by simp at hk; omega)
  replace q5 := fun W hW => q5 W (KB.trans kbw13 hW)
  replace q6 := fun W hW => q6 W (KB.trans kbw13 hW)
  replace q2 := fun W hW => q2 W (KB.trans kbw13 hW)
  clear kbw13
  have Dw13 := Lib.hid bw13
  clear hrw13 bw13
  refine ptwo rfl rfl rfl rfl ?_ ?_
  ·intro K hK
   go_simp
   refine (psame_any a b Aa Ab ca cb 0 0 0 0 0 0 Sa Sb _ (XA.out.keep fun k hk => Cw13.block k (SA.out k hk)) (XB.out.keep fun k hk => Cw13.block k (SB.out k hk)) (fun k hk => by have := SA.out k hk; omega) (fun k hk => by have := SB.out k hk; omega)).mono ?_; rintro e w14 ⟨⟨bs, rfl, hbs⟩, bw14⟩
   have HBS := Lib.hid hbs
   clear hbs
   go_wp2_with fail
   refine hK.out _ _ (fun k hk => bw14.block k (by simp at hk; omega)) ?_
   clear hK K
   try simp only [Act.put, List.setIfInBounds_toArray, List.set_cons_zero, List.set_cons_succ]
   have hzw14 := bw14.size
   have Cw14 := bthen Cw13 bw14
   have kbw14 : KB [w2.heap.size, w2.heap.size + 1, g2] w13 w14 := fun k hk => bw14.block k (by simp at hk; omega)
   replace q5 := fun W hW => q5 W (KB.trans kbw14 hW)
   replace q6 := fun W hW => q6 W (KB.trans kbw14 hW)
   replace q2 := fun W hW => q2 W (KB.trans kbw14 hW)
   clear kbw14
   have Dw14 := Lib.hid bw14
   clear bw14
   refine pcall rfl rfl (fun K hK => ?_)
   go_simp
   refine hK.out _ _ (fun k hk => Below.heap_alloc _ _ _ (by simp at hk; omega)) ?_
   clear hK K
   try simp only [Act.put, List.setIfInBounds_toArray, List.set_cons_zero, List.set_cons_succ]
   obtain ⟨w15, hw⟩ : ∃ W, w14.alloc (exO (hdK a) (hdV a).k (hdV a).n (hdV a).s (hdN a) (hdC a) (hdO a : Nat) (.slice Aa (parts a).length ca) 0 0 0) = W := ⟨_, rfl⟩
   have bw15 : Below w14.heap.size w14 w15 := by rw [← hw]; exact one_new
   have hrw15 : w15.heap[w14.heap.size]? = some (exB (hdK a) (hdV a).k (hdV a).n (hdV a).s (hdN a) (hdC a) (hdO a : Nat) (.slice Aa (parts a).length ca) 0 0 0) := by rw [← hw]; exact alloc_at rfl
   have hzw15 : w14.heap.size < w15.heap.size := by rw [← hw]; simp
   rw [hw]
   clear hw
   have Cw15 := bthen Cw14 bw15
   have Rw15 : Hid (RX w15 (fun k => Sa k ∨ k = w14.heap.size) (some ⟨w14.heap.size, 0, none⟩) 1 [a]) := Lib.hid (RX.made (XA.out.keep fun k hk => Cw15.block k (SA.out k hk)) hrw15)
   have kbw15 : KB [w2.heap.size, w2.heap.size + 1, g2] w14 w15 := fun k hk => bw15.block k (by simp at hk; omega)
   replace q5 := fun W hW => q5 W (KB.trans kbw15 hW)
   replace q6 := fun W hW => q6 W (KB.trans kbw15 hW)
   replace q2 := fun W hW => q2 W (KB.trans kbw15 hW)
   clear kbw15
   have Dw15 := Lib.hid bw15
   clear hrw15 bw15
   refine pcall rfl rfl (fun K hK => ?_)
   go_simp
   refine (sameR_any [a] [b] _ _ 1 1 _ _ w15 (Rw15.out.keep fun k hk => ?_) (Rw13.out.keep fun k hk => ?_) (fun k hk => ?_) (fun k hk => ?_) (by simp) (by simp)).mono ?_
   ·rcases hk with hk | rfl
    ·exact (Below.refl w15.heap.size w15).block k (by have := SA.out k hk; omega)
    ·exact (Below.refl w15.heap.size w15).block _ (by omega)
   ·rcases hk with hk | rfl
    ·exact (bthen Dw14.out Dw15.out).block k (by have := SB.out k hk; omega)
    ·exact (bthen Dw14.out Dw15.out).block _ (by omega)
   ·rcases hk with hk | rfl
    ·have := SA.out k hk; omega
    ·omega
   ·rcases hk with hk | rfl
    ·have := SB.out k hk; omega
    ·omega
   rintro e wq ⟨⟨bt, rfl, hbt⟩, bwq⟩
   obtain rfl : bt = bs := by
    have h1 := HBS.out
    simp at hbt
    cases bt <;> cases bs <;> simp_all
   clear hbt
   go_wp2_with fail
   refine hK.out _ _ (fun k hk => bwq.block k (by simp at hk; omega)) ?_
   clear hK K
   try simp only [Act.put, List.setIfInBounds_toArray, List.set_cons_zero, List.set_cons_succ]
   have hzwq := bwq.size
   have Cwq := bthen Cw15 bwq
   have kbwq : KB [w2.heap.size, w2.heap.size + 1, g2] w15 wq := fun k hk => bwq.block k (by simp at hk; omega)
   replace q5 := fun W hW => q5 W (KB.trans kbwq hW)
   replace q6 := fun W hW => q6 W (KB.trans kbwq hW)
   replace q2 := fun W hW => q2 W (KB.trans kbwq hW)
   clear kbwq
   have Dwq := Lib.hid bwq
   clear bwq
   repeat (first | (refine sreadxP rfl rfl ?_; apply Exists.intro; apply And.intro; (· (intro W hW; go_simp; try (first | with_reducible rfl | (rw [if_neg (by omega)]; try with_reducible rfl)))); simp only [Act.put, List.setIfInBounds_toArray, List.set_cons_zero, List.set_cons_succ]) | (refine pskip rfl rfl ?_; simp only [Act.put, List.setIfInBounds_toArray, List.set_cons_zero, List.set_cons_succ]))
   refine pcall rfl rfl (fun K hK => ?_)
   go_simp
   refine (printExpr_any a GA.out.1.1 Aa ca 0 0 0 Sa wq (XA.out.keep fun k hk => Cwq.block k (SA.out k hk)) (fun k hk => by have := SA.out k hk; omega) (by omega) (by rw [HTA.out]; omega)).mono ?_; rintro e wr ⟨rfl, bwr⟩
   rw [HTA.out]
   go_wp2_with fail
   refine hK.out _ _ (fun k hk => bwr.block k (by simp at hk; omega)) ?_
   clear hK K
   try simp only [Act.put, List.setIfInBounds_toArray, List.set_cons_zero, List.set_cons_succ]
   have hzwr := bwr.size
   have Cwr := bthen Cwq bwr
   have kbwr : KB [w2.heap.size, w2.heap.size + 1, g2] wq wr := fun k hk => bwr.block k (by simp at hk; omega)
   replace q5 := fun W hW => q5 W (KB.trans kbwr hW)
   replace q6 := fun W hW => q6 W (KB.trans kbwr hW)
   replace q2 := fun W hW => q2 W (KB.trans kbwr hW)
   clear kbwr
   have Dwr := Lib.hid bwr
   clear bwr
   repeat (first | (refine sreadxP rfl rfl ?_; apply Exists.intro; apply And.intro; (· (intro W hW; go_simp; try (first | with_reducible rfl | (rw [if_neg (by omega)]; try with_reducible rfl)))); simp only [Act.put, List.setIfInBounds_toArray, List.set_cons_zero, List.set_cons_succ]) | (refine pskip rfl rfl ?_; simp only [Act.put, List.setIfInBounds_toArray, List.set_cons_zero, List.set_cons_succ]))
   refine pcall rfl rfl (fun K hK => ?_)
   go_simp
   refine (rpx_any a GA.out.1.1 0 (by rw [toksX_no (by omega)]; have := GA.out.2; omega) Aa ca 0 0 0 Sa wr (XA.out.keep fun k hk => Cwr.block k (SA.out k hk)) (fun k hk => by have := SA.out k hk; omega) wr (Below.refl _ _)).mono ?_; rintro e ws ⟨rfl, bws⟩
   have hsp : sp (toksX a 0) = ta ++ [32] := by rw [toksX_no (by omega), sp_text (toks0_ne a), HTA.out]
   rw [hsp]
   clear hsp
   go_wp2_with fail
   refine hK.out _ _ (fun k hk => bws.block k (by simp at hk; omega)) ?_
   clear hK K
   try simp only [Act.put, List.setIfInBounds_toArray, List.set_cons_zero, List.set_cons_succ]
   have hzws := bws.size
   have Cws := bthen Cwr bws
   have kbws : KB [w2.heap.size, w2.heap.size + 1, g2] wr ws := fun k hk => bws.block k (by simp at hk; omega)
   replace q5 := fun W hW => q5 W (KB.trans kbws hW)
   replace q6 := fun W hW => q6 W (KB.trans kbws hW)
   replace q2 := fun W hW => q2 W (KB.trans kbws hW)
   clear kbws
   have Dws := Lib.hid bws
   clear bws
   have hcat : ByteArray.mk ta.toArray ++ ByteArray.mk #[32] = ByteArray.mk (ta ++ [32]).toArray := by
    show ByteArray.mk ta.toArray ++ ByteArray.mk [32].toArray = _
    rw [ba_append]
   try rw [hcat]
   repeat (first | (refine sreadxP rfl rfl ?_; apply Exists.intro; apply And.intro; (· (intro W hW; go_simp; try (first | with_reducible rfl | (rw [if_neg (by omega)]; try with_reducible rfl)))); simp only [Act.put, List.setIfInBounds_toArray, List.set_cons_zero, List.set_cons_succ]) | (refine pskip rfl rfl ?_; simp only [Act.put, List.setIfInBounds_toArray, List.set_cons_zero, List.set_cons_succ]))
   refine pcall rfl rfl (fun K hK => ?_)
   go_simp
   refine (liveY_any ws).mono ?_; rintro e wu ⟨rfl, bwu⟩
   go_wp2_with fail
   refine hK.out _ _ (fun k hk => bwu.block k (by simp at hk; omega)) ?_
   clear hK K
   try simp only [Act.put, List.setIfInBounds_toArray, List.set_cons_zero, List.set_cons_succ]
   have hzwu := bwu.size
   have Cwu := bthen Cws bwu
   have kbwu : KB [w2.heap.size, w2.heap.size + 1, g2] ws wu := fun k hk => bwu.block k (by simp at hk; omega)
   replace q5 := fun W hW => q5 W (KB.trans kbwu hW)
   replace q6 := fun W hW => q6 W (KB.trans kbwu hW)
   replace q2 := fun W hW => q2 W (KB.trans kbwu hW)
   clear kbwu
   have Dwu := Lib.hid bwu
   clear bwu
   repeat (first | (refine sreadxP rfl rfl ?_; apply Exists.intro; apply And.intro; (· (intro W hW; go_simp; try (first | with_reducible rfl | (rw [if_neg (by omega)]; try with_reducible rfl)))); simp only [Act.put, List.setIfInBounds_toArray, List.set_cons_zero, List.set_cons_succ]) | (refine pskip rfl rfl ?_; simp only [Act.put, List.setIfInBounds_toArray, List.set_cons_zero, List.set_cons_succ]))
   refine pdone ?_
   go_wp2_with fail
   go_ret
   refine ⟨?_, bthen B7 Cwu⟩
   cases bt <;> rfl
  ·intro K hK
   go_simp
   refine hK.out _ _ (fun k hk => Below.heap_alloc _ _ _ (by simp at hk; omega)) ?_
   clear hK K
   try simp only [Act.put, List.setIfInBounds_toArray, List.set_cons_zero, List.set_cons_succ]
   obtain ⟨w14, hw⟩ : ∃ W, w13.alloc (exO (hdK a) (hdV a).k (hdV a).n (hdV a).s (hdN a) (hdC a) (hdO a : Nat) (.slice Aa (parts a).length ca) 0 0 0) = W := ⟨_, rfl⟩
   have bw14 : Below w13.heap.size w13 w14 := by rw [← hw]; exact one_new
   have hrw14 : w14.heap[w13.heap.size]? = some (exB (hdK a) (hdV a).k (hdV a).n (hdV a).s (hdN a) (hdC a) (hdO a : Nat) (.slice Aa (parts a).length ca) 0 0 0) := by rw [← hw]; exact alloc_at rfl
   have hzw14 : w13.heap.size < w14.heap.size := by rw [← hw]; simp
   rw [hw]
   clear hw
   have Cw14 := bthen Cw13 bw14
   have Rw14 : Hid (RX w14 (fun k => Sa k ∨ k = w13.heap.size) (some ⟨w13.heap.size, 0, none⟩) 1 [a]) := Lib.hid (RX.made (XA.out.keep fun k hk => Cw14.block k (SA.out k hk)) hrw14)
   have kbw14 : KB [w2.heap.size, w2.heap.size + 1, g2] w13 w14 := fun k hk => bw14.block k (by simp at hk; omega)
   replace q5 := fun W hW => q5 W (KB.trans kbw14 hW)
   replace q6 := fun W hW => q6 W (KB.trans kbw14 hW)
   replace q2 := fun W hW => q2 W (KB.trans kbw14 hW)
   clear kbw14
   have Dw14 := Lib.hid bw14
   clear hrw14 bw14
   refine pcall rfl rfl (fun K hK => ?_)
   go_simp
   refine (psame_any a b Aa Ab ca cb 0 0 0 0 0 0 Sa Sb _ (XA.out.keep fun k hk => Cw14.block k (SA.out k hk)) (XB.out.keep fun k hk => Cw14.block k (SB.out k hk)) (fun k hk => by have := SA.out k hk; omega) (fun k hk => by have := SB.out k hk; omega)).mono ?_; rintro e w15 ⟨⟨bs, rfl, hbs⟩, bw15⟩
   have HBS := Lib.hid hbs
   clear hbs
   go_wp2_with fail
   refine hK.out _ _ (fun k hk => bw15.block k (by simp at hk; omega)) ?_
   clear hK K
   try simp only [Act.put, List.setIfInBounds_toArray, List.set_cons_zero, List.set_cons_succ]
   have hzw15 := bw15.size
   have Cw15 := bthen Cw14 bw15
   have kbw15 : KB [w2.heap.size, w2.heap.size + 1, g2] w14 w15 := fun k hk => bw15.block k (by simp at hk; omega)
   replace q5 := fun W hW => q5 W (KB.trans kbw15 hW)
   replace q6 := fun W hW => q6 W (KB.trans kbw15 hW)
   replace q2 := fun W hW => q2 W (KB.trans kbw15 hW)
   clear kbw15
   have Dw15 := Lib.hid bw15
   clear bw15
   refine pcall rfl rfl (fun K hK => ?_)
   go_simp
   refine (sameR_any [a] [b] _ _ 1 1 _ _ w15 (Rw14.out.keep fun k hk => ?_) (Rw13.out.keep fun k hk => ?_) (fun k hk => ?_) (fun k hk => ?_) (by simp) (by simp)).mono ?_
   ·rcases hk with hk | rfl
    ·exact Dw15.out.block k (by have := SA.out k hk; omega)
    ·exact Dw15.out.block _ (by omega)
   ·rcases hk with hk | rfl
    ·exact (bthen Dw14.out Dw15.out).block k (by have := SB.out k hk; omega)
    ·exact (bthen Dw14.out Dw15.out).block _ (by omega)
   ·rcases hk with hk | rfl
    ·have := SA.out k hk; omega
    ·omega
   ·rcases hk with hk | rfl
    ·have := SB.out k hk; omega
    ·omega
   rintro e wq ⟨⟨bt, rfl, hbt⟩, bwq⟩
   obtain rfl : bt = bs := by
    have h1 := HBS.out
    simp at hbt
    cases bt <;> cases bs <;> simp_all
   clear hbt
   go_wp2_with fail
   refine hK.out _ _ (fun k hk => bwq.block k (by simp at hk; omega)) ?_
   clear hK K
   try simp only [Act.put, List.setIfInBounds_toArray, List.set_cons_zero, List.set_cons_succ]
   have hzwq := bwq.size
   have Cwq := bthen Cw15 bwq
   have kbwq : KB [w2.heap.size, w2.heap.size + 1, g2] w15 wq := fun k hk => bwq.block k (by simp at hk; omega)
   replace q5 := fun W hW => q5 W (KB.trans kbwq hW)
   replace q6 := fun W hW => q6 W (KB.trans kbwq hW)
   replace q2 := fun W hW => q2 W (KB.trans kbwq hW)
   clear kbwq
   have Dwq := Lib.hid bwq
   clear bwq
   repeat (first | (refine sreadxP rfl rfl ?_; apply Exists.intro; apply And.intro; (· (intro W hW; go_simp; try (first | with_reducible rfl | (rw [if_neg (by omega)]; try with_reducible rfl)))); simp only [Act.put, List.setIfInBounds_toArray, List.set_cons_zero, List.set_cons_succ]) | (refine pskip rfl rfl ?_; simp only [Act.put, List.setIfInBounds_toArray, List.set_cons_zero, List.set_cons_succ]))
   refine pcall rfl rfl (fun K hK => ?_)
   go_simp
   refine (printExpr_any a GA.out.1.1 Aa ca 0 0 0 Sa wq (XA.out.keep fun k hk => Cwq.block k (SA.out k hk)) (fun k hk => by have := SA.out k hk; omega) (by omega) (by rw [HTA.out]; omega)).mono ?_; rintro e wr ⟨rfl, bwr⟩
   rw [HTA.out]
   go_wp2_with fail
   refine hK.out _ _ (fun k hk => bwr.block k (by simp at hk; omega)) ?_
   clear hK K
   try simp only [Act.put, List.setIfInBounds_toArray, List.set_cons_zero, List.set_cons_succ]
   have hzwr := bwr.size
   have Cwr := bthen Cwq bwr
   have kbwr : KB [w2.heap.size, w2.heap.size + 1, g2] wq wr := fun k hk => bwr.block k (by simp at hk; omega)
   replace q5 := fun W hW => q5 W (KB.trans kbwr hW)
   replace q6 := fun W hW => q6 W (KB.trans kbwr hW)
   replace q2 := fun W hW => q2 W (KB.trans kbwr hW)
   clear kbwr
   have Dwr := Lib.hid bwr
   clear bwr
   repeat (first | (refine sreadxP rfl rfl ?_; apply Exists.intro; apply And.intro; (· (intro W hW; go_simp; try (first | with_reducible rfl | (rw [if_neg (by omega)]; try with_reducible rfl)))); simp only [Act.put, List.setIfInBounds_toArray, List.set_cons_zero, List.set_cons_succ]) | (refine pskip rfl rfl ?_; simp only [Act.put, List.setIfInBounds_toArray, List.set_cons_zero, List.set_cons_succ]))
   refine pcall rfl rfl (fun K hK => ?_)
   go_simp
   refine (rpx_any a GA.out.1.1 0 (by rw [toksX_no (by omega)]; have := GA.out.2; omega) Aa ca 0 0 0 Sa wr (XA.out.keep fun k hk => Cwr.block k (SA.out k hk)) (fun k hk => by have := SA.out k hk; omega) wr (Below.refl _ _)).mono ?_; rintro e ws ⟨rfl, bws⟩
   have hsp : sp (toksX a 0) = ta ++ [32] := by rw [toksX_no (by omega), sp_text (toks0_ne a), HTA.out]
   rw [hsp]
   clear hsp
   go_wp2_with fail
   refine hK.out _ _ (fun k hk => bws.block k (by simp at hk; omega)) ?_
   clear hK K
   try simp only [Act.put, List.setIfInBounds_toArray, List.set_cons_zero, List.set_cons_succ]
   have hzws := bws.size
   have Cws := bthen Cwr bws
   have kbws : KB [w2.heap.size, w2.heap.size + 1, g2] wr ws := fun k hk => bws.block k (by simp at hk; omega)
   replace q5 := fun W hW => q5 W (KB.trans kbws hW)
   replace q6 := fun W hW => q6 W (KB.trans kbws hW)
   replace q2 := fun W hW => q2 W (KB.trans kbws hW)
   clear kbws
   have Dws := Lib.hid bws
   clear bws
   have hcat : ByteArray.mk ta.toArray ++ ByteArray.mk #[32] = ByteArray.mk (ta ++ [32]).toArray := by
    show ByteArray.mk ta.toArray ++ ByteArray.mk [32].toArray = _
    rw [ba_append]
   try rw [hcat]
   repeat (first | (refine sreadxP rfl rfl ?_; apply Exists.intro; apply And.intro; (· (intro W hW; go_simp; try (first | with_reducible rfl | (rw [if_neg (by omega)]; try with_reducible rfl)))); simp only [Act.put, List.setIfInBounds_toArray, List.set_cons_zero, List.set_cons_succ]) | (refine pskip rfl rfl ?_; simp only [Act.put, List.setIfInBounds_toArray, List.set_cons_zero, List.set_cons_succ]))
   refine pcall rfl rfl (fun K hK => ?_)
   go_simp
   refine (liveY_any ws).mono ?_; rintro e wu ⟨rfl, bwu⟩
   go_wp2_with fail
   refine hK.out _ _ (fun k hk => bwu.block k (by simp at hk; omega)) ?_
   clear hK K
   try simp only [Act.put, List.setIfInBounds_toArray, List.set_cons_zero, List.set_cons_succ]
   have hzwu := bwu.size
   have Cwu := bthen Cws bwu
   have kbwu : KB [w2.heap.size, w2.heap.size + 1, g2] ws wu := fun k hk => bwu.block k (by simp at hk; omega)
   replace q5 := fun W hW => q5 W (KB.trans kbwu hW)
   replace q6 := fun W hW => q6 W (KB.trans kbwu hW)
   replace q2 := fun W hW => q2 W (KB.trans kbwu hW)
   clear kbwu
   have Dwu := Lib.hid bwu
   clear bwu
   repeat (first | (refine sreadxP rfl rfl ?_; apply Exists.intro; apply And.intro; (· (intro W hW; go_simp; try (first | with_reducible rfl | (rw [if_neg (by omega)]; try with_reducible rfl)))); simp only [Act.put, List.setIfInBounds_toArray, List.set_cons_zero, List.set_cons_succ]) | (refine pskip rfl rfl ?_; simp only [Act.put, List.setIfInBounds_toArray, List.set_cons_zero, List.set_cons_succ]))
   refine pdone ?_
   go_wp2_with fail
   go_ret
   refine ⟨?_, bthen B7 Cwu⟩
   cases bt <;> rfl
end Go.Proofs.YtnbmpfdffoidaaaGreat.syntaxExprs
