/- The document's table and its text: billhooklaw06's Example, schema.Print at it, and the laws' lives. -/
import Derived.Test.YtpkoijlbbfffiaaSchFns
import Derived.Test.YtpkoijlbbfffiaaShelfStr
import Derived.Test.YtpkoijlbbfffiaaSchedB
import Derived.Test.YtpkoijlbbfffiaaReps
import Derived.Test.YtpkoijlbbfffiaaLaws2
import Derived.Test.YtpkoijlbbfffiaaValGet
namespace Go.Proofs.Ytpkoijlbbfffiaa.S
open Go.RowKit O V

abbrev strV (s : List UInt8) : Value := .string ⟨s.toArray⟩
theorem strE : Elem Try.prog 112 9 1 16 (.string ByteArray.empty) := by
  obtain ⟨i, hi, h1, h2, h3⟩ := info_parts (show (Try.prog.info? 9).map (fun i => (i.zero, i.size, i.bytes)) = some (some (.string ByteArray.empty), 1, 16) by kernel_rfl)
  exact ⟨Try.underlying112, i, hi, h1, h2, h3, rfl, by omega⟩
theorem own_cap {w : World} {base e size n c : Nat} {A : Option Addr} {xs : List Value} (h : w.ownsRow base e size (.slice A n c) n xs) : n ≤ c := by
  rcases h.2 with ⟨hv, h0⟩ | ⟨g, cap, cur, hv, _, _, hnc, _⟩
  · rw [h0]; exact Nat.zero_le _
  · injection hv with _ _ hc; rw [hc]; exact hnc
theorem join_rd {w : World} {A : Option Addr} {n c : Nat} (l : List (List UInt8)) (sep : List UInt8) (h : Rd w w.heap.size 1 A n (l.map strV)) (hn : 0 < n) (hnc : n ≤ c) (hN : n ≤ 140737488355328) (hlen : (Lib.join l sep).length ≤ 140737488355328) :
    Calls Try.prog 135 #[.slice A n c, .string ⟨sep.toArray⟩] w fun e w' => e = .returned (.string ⟨(Lib.join l sep).toArray⟩) ∧ Below w.heap.size w w' := by
  have hl : l.length = n := by have := h.1; simp at this; omega
  obtain ⟨b, off, rfl, hb, hc⟩ := h.pos hn
  have he : (l.map fun s => ByteArray.mk s.toArray).map (·.data.toList) = l := by rw [List.map_map]; exact List.map_id l
  have := Try.strings_Join b off c (l.map fun s => ⟨s.toArray⟩) ⟨sep.toArray⟩ w (fun j x hx => by
    have hj : j < l.length := by
      rcases Nat.lt_or_ge j l.length with h | h
      · exact h
      · rw [List.getElem?_eq_none (by simpa using h)] at hx; cases hx
    rw [hc j (by omega)]
    simp [hj] at hx
    subst hx
    simp [hj, strV]) hb (by rw [List.length_map]; omega) (by rw [List.length_map]; omega) (by rw [he]; exact hlen)
  rw [he, List.length_map, hl] at this
  exact this

def ExB (b : Nat) (w : World) : Prop := w.heap[b]? = some (.cells #[.string ⟨#[98, 97, 108]⟩, .int .i64 1, .int .i64 0, .string ⟨#[119, 104, 111]⟩, .int .i64 3, .int .i64 6] 131 (0, 0))
def RetEx (w : World) (e : Ending) (w' : World) : Prop := ∃ b, e = .returned (.agg #[.string ⟨#[97, 99, 99]⟩, .int .i64 8, .slice (some ⟨b, 0, none⟩) 2 2]) ∧ ExB b w' ∧ Below w.heap.size w w'
theorem example_any (w : World) : Calls Try.prog 90 #[] w (RetEx w) := by
  go_enter Try.func90, Try.ntmps90
  go_wp2_with fail
  refine bodyPost_ret (v := .agg #[.string ⟨#[97, 99, 99]⟩, .int .i64 8, .slice (some ⟨w.heap.size + 1, 0, none⟩) 2 2]) (by simp [results, Try.results90, go_sem]) rfl ?_
  refine ⟨_, rfl, ?_, ?_⟩
  · unfold ExB
    repeat (first | (refine alloc_at ?_; simp; done) | refine alloc_old' ?_ | refine row_other ?_ (by omega))
  · repeat (first | (with_reducible exact Below.refl _ _) | (with_reducible assumption) | refine Below.setCell ?_ (by simp <;> omega) _ | refine Below.alloc ?_ (by simp <;> omega) _ | refine Below.drew ?_)
def exText : List UInt8 := [116, 97, 98, 108, 101, 32, 97, 99, 99, 32, 114, 111, 119, 115, 32, 56, 32, 123, 32, 98, 97, 108, 32, 105, 110, 116, 59, 32, 119, 104, 111, 32, 116, 101, 120, 116, 32, 54, 59, 32, 125]
def exP0 : List (List UInt8) := [[116, 97, 98, 108, 101], [97, 99, 99], [114, 111, 119, 115], [56], [123]]
def exP1 : List (List UInt8) := exP0 ++ [[98, 97, 108], [105, 110, 116, 59]]
def exP2 : List (List UInt8) := exP1 ++ [[119, 104, 111], [116, 101, 120, 116, 32, 54, 59]]
def exP (k : Nat) : List (List UInt8) := if k = 0 then exP0 else if k = 1 then exP1 else exP2
theorem ex_join : Lib.join (exP 2 ++ [[125]]) [32] = exText := by decide +kernel
theorem ex_cells {b : Nat} {w : World} (h : ExB b w) : (w.cell? ⟨b, 0, none⟩ = some (.string ⟨#[98, 97, 108]⟩) ∧ w.cell? ⟨b, 1, none⟩ = some (.int .i64 1) ∧ w.cell? ⟨b, 2, none⟩ = some (.int .i64 0)) ∧
    w.cell? ⟨b, 3, none⟩ = some (.string ⟨#[119, 104, 111]⟩) ∧ w.cell? ⟨b, 4, none⟩ = some (.int .i64 3) ∧ w.cell? ⟨b, 5, none⟩ = some (.int .i64 6) := by
  refine ⟨⟨?_, ?_, ?_⟩, ?_, ?_, ?_⟩ <;> (rw [Lib.cell_of_heap h]; rfl)
set_option maxHeartbeats 2000000 in
set_option maxRecDepth 100000 in
theorem print_ex (b : Nat) (w : World) (hb : ExB b w) : Calls Try.prog 89 #[.agg #[.string ⟨#[97, 99, 99]⟩, .int .i64 8, .slice (some ⟨b, 0, none⟩) 2 2]] w fun e w' => e = .returned (.string ⟨exText.toArray⟩) ∧ Below w.heap.size w w' := by
  have hlt : b < w.heap.size := (Array.getElem?_eq_some_iff.1 hb).1
  have p8 : printV ⟨1, 8, []⟩ = [56] := by decide +kernel
  have t1 : printT 1 0 = [105, 110, 116] := by decide +kernel
  have t2 : printT 3 6 = [116, 101, 120, 116, 32, 54] := by decide +kernel
  have HB := Lib.hid hb
  clear hb
  have Hp8 := Lib.hid p8; clear p8
  have Ht1 := Lib.hid t1; clear t1
  have Ht2 := Lib.hid t2; clear t2
  have x0 : (w.alloc (.cells #[.string ⟨#[97, 99, 99]⟩, .int .i64 8, .slice (some ⟨b, 0, none⟩) 2 2] 61)).drew.heap[w.heap.size]? = some (.cells #[.string ⟨#[97, 99, 99]⟩, .int .i64 8, .slice (some ⟨b, 0, none⟩) 2 2] 61 (0, 0)) := alloc_at rfl
  have HX0 := Lib.hid x0; clear x0
  go_enter Try.func89, Try.ntmps89
  go_wp2_with fail
  refine wp_region_sched [(0, true), (1, true), (2, true), (3, true), (4, false), (5, false), (6, false), (7, true)] (by kernel_rfl) (by kernel_rfl) (fun _ _ d _ _ h => by cases d <;> exact h) ?_
  refine swith (fun W hW => (cells3 (box_next HX0.out hW.out))) (fun q => ?_)
  repeat (first | (refine sreadx rfl rfl ?_; apply Exists.intro; apply And.intro; (· (intro W hW; first | (go_simp; done) | (go_simp; with_reducible rfl) | (go_simp; rw [if_neg (by omega)]; done) | (go_simp; rw [if_neg (by omega)]; with_reducible rfl))); simp only [Act.put, List.setIfInBounds_toArray, List.set_cons_zero, List.set_cons_succ]) | (refine sskip rfl rfl ?_; simp only [Act.put, List.setIfInBounds_toArray, List.set_cons_zero, List.set_cons_succ]))
  refine scall rfl rfl (fun K hK => ?_)
  go_simp
  refine (int_any 8 _).mono ?_; rintro e w1 ⟨rfl, b1⟩
  go_wp2_with fail
  refine hK.out _ _ (by exact b1) ?_
  clear hK K
  try simp only [Act.put, List.setIfInBounds_toArray, List.set_cons_zero, List.set_cons_succ]
  replace q := fun (W : World) (hW : Grow w1 W) => q W (Grow.trans (b1) hW)
  refine scall rfl rfl (fun K hK => ?_)
  go_simp
  refine (print_any ⟨1, 8, []⟩ _ (by simp) (by decide) (by decide)).mono ?_; rintro e w2 ⟨rfl, b2⟩; rw [Hp8.out]
  go_wp2_with fail
  refine hK.out _ _ (by exact b2) ?_
  clear hK K
  try simp only [Act.put, List.setIfInBounds_toArray, List.set_cons_zero, List.set_cons_succ]
  replace q := fun (W : World) (hW : Grow w2 W) => q W (Grow.trans (b2) hW)
  repeat (first | (refine sreadx rfl rfl ?_; apply Exists.intro; apply And.intro; (· (intro W hW; first | (go_simp; done) | (go_simp; with_reducible rfl) | (go_simp; rw [if_neg (by omega)]; done) | (go_simp; rw [if_neg (by omega)]; with_reducible rfl))); simp only [Act.put, List.setIfInBounds_toArray, List.set_cons_zero, List.set_cons_succ]) | (refine sskip rfl rfl ?_; simp only [Act.put, List.setIfInBounds_toArray, List.set_cons_zero, List.set_cons_succ]))
  refine scall rfl rfl (fun K hK => ?_)
  go_simp
  refine hK.out _ _ ((Below.refl _ _).alloc (Nat.le_refl _) _) ?_
  clear hK K
  try simp only [Act.put, List.setIfInBounds_toArray, List.set_cons_zero, List.set_cons_succ]
  repeat (first | (refine sreadx rfl rfl ?_; apply Exists.intro; apply And.intro; (· (intro W hW; first | (go_simp; done) | (go_simp; with_reducible rfl) | (go_simp; rw [if_neg (by omega)]; done) | (go_simp; rw [if_neg (by omega)]; with_reducible rfl))); simp only [Act.put, List.setIfInBounds_toArray, List.set_cons_zero, List.set_cons_succ]) | (refine sskip rfl rfl ?_; simp only [Act.put, List.setIfInBounds_toArray, List.set_cons_zero, List.set_cons_succ]))
  refine sdone ?_
  clear q
  have B2 : Below w.heap.size w w2 := bthen (bthen (((Below.refl _ _).alloc (Nat.le_refl _) _).drew) b1) b2
  have x2 := box_next (box_next HX0.out b1) b2
  have B3 : Below w2.heap.size w2 (w2.alloc (.cells #[.string ⟨#[116, 97, 98, 108, 101]⟩, .string ⟨#[97, 99, 99]⟩, .string ⟨#[114, 111, 119, 115]⟩, .string ⟨#[56]⟩, .string ⟨#[123]⟩] 9)) := (Below.refl _ _).alloc (Nat.le_refl _) _
  have x3 := cells3 (box_next x2 B3)
  have o3 : (w2.alloc (.cells #[.string ⟨#[116, 97, 98, 108, 101]⟩, .string ⟨#[97, 99, 99]⟩, .string ⟨#[114, 111, 119, 115]⟩, .string ⟨#[56]⟩, .string ⟨#[123]⟩] 9)).ownsRow w.heap.size 9 1 (.slice (some ⟨w2.heap.size, 0, none⟩) 5 5) 5 ((exP 0).map strV) := own_lit (e := 9) (base := w.heap.size) w2 [strV [116, 97, 98, 108, 101], strV [97, 99, 99], strV [114, 111, 119, 115], strV [56], strV [123]] B2.size (by simp [maxLen])
  have HS : w.heap.size < w2.heap.size := (Array.getElem?_eq_some_iff.1 x2).1
  have B4 := bthen B2 B3
  have HO3 := Lib.hid o3
  have HB4 := Lib.hid B4
  clear o3 B4 B3 B2 b1 b2 x2 HX0
  obtain ⟨x30, x31, x32⟩ := x3
  go_wp2_with fail
  go_loopw [3, 5, 16] (fun v _ i wr => ∃ (k : Nat) (A : Option Addr) (n c : Nat), k ≤ 2 ∧ i = .int .i64 k ∧ v = .slice A n c ∧ wr.ownsRow w.heap.size 9 1 (.slice A n c) n ((exP k).map strV) ∧ Below w.heap.size w wr) (fun _ _ i _ => 2 - (intOf i).toNat)
  case atStart => exact ⟨0, _, _, _, by omega, rfl, rfl, HO3.out, HB4.out⟩
  case round =>
    obtain ⟨k, A, n, c, hk, rfl, rfl, ho, hbl⟩ := hrel
    clear HO3 HB4 x30 x31 x32 HS
    have hn : n = ((exP k).map strV).length := by have := ho.1; simp at this ⊢; omega
    obtain ⟨⟨e0, e1, e2⟩, e3, e4, e5⟩ := ex_cells (show ExB b wr from (hbl.block b hlt).trans HB.out)
    have HN := Lib.hid hn
    have HO := Lib.hid ho
    have HBl := Lib.hid hbl
    have hsz := hbl.size
    clear hn ho hbl
    obtain rfl | hk1 : k = 0 ∨ ¬ k = 0 := by omega
    · have hn5 : n = 5 := HN.out
      have x5 : (wr.alloc (.cells #[.string ⟨#[98, 97, 108]⟩, .int .i64 1, .int .i64 0] 131)).drew.heap[wr.heap.size]? = some (.cells #[.string ⟨#[98, 97, 108]⟩, .int .i64 1, .int .i64 0] 131 (0, 0)) := alloc_at rfl
      have HX5 := Lib.hid x5; clear x5
      subst hn5
      go_wp2_with fail
      refine wp_region_schedB [wr.heap.size] [(0, true), (1, true), (2, true), (3, true), (4, true), (5, false), (6, true), (7, false), (8, false), (9, true)] (by kernel_rfl) (by kernel_rfl) (fun _ _ d _ _ h => by cases d <;> exact h) ?_
      refine bwith (fun W hW => (cells3 (hW.one HX5.out))) (fun q => ?_)
      repeat (first | (refine sreadxB rfl rfl ?_; apply Exists.intro; apply And.intro; (· (intro W hW; first | (go_simp; done) | (go_simp; with_reducible rfl) | (go_simp; rw [if_neg (by omega)]; done) | (go_simp; rw [if_neg (by omega)]; with_reducible rfl))); simp only [Act.put, List.setIfInBounds_toArray, List.set_cons_zero, List.set_cons_succ]) | (refine bskip rfl rfl ?_; simp only [Act.put, List.setIfInBounds_toArray, List.set_cons_zero, List.set_cons_succ]))
      refine bcall rfl rfl (fun K hK => ?_)
      go_simp
      refine (printType_any 1 0 _).mono ?_; rintro e w2 ⟨rfl, b2⟩; rw [Ht1.out]
      go_wp2_with fail
      refine hK.out _ _ (by exact KB.of_below b2 (by simp)) ?_
      clear hK K
      try simp only [Act.put, List.setIfInBounds_toArray, List.set_cons_zero, List.set_cons_succ]
      repeat (first | (refine sreadxB rfl rfl ?_; apply Exists.intro; apply And.intro; (· (intro W hW; first | (go_simp; done) | (go_simp; with_reducible rfl) | (go_simp; rw [if_neg (by omega)]; done) | (go_simp; rw [if_neg (by omega)]; with_reducible rfl))); simp only [Act.put, List.setIfInBounds_toArray, List.set_cons_zero, List.set_cons_succ]) | (refine bskip rfl rfl ?_; simp only [Act.put, List.setIfInBounds_toArray, List.set_cons_zero, List.set_cons_succ]))
      refine bcall rfl rfl (fun K hK => ?_)
      go_simp
      refine hK.out _ _ (KB.of_below ((Below.refl _ _).alloc (Nat.le_refl _) _) (by simp; have := b2.size; simp at this; omega)) ?_
      clear hK K
      try simp only [Act.put, List.setIfInBounds_toArray, List.set_cons_zero, List.set_cons_succ]
      have B2 : Below w.heap.size w w2 := HBl.out.trans ((((Below.refl _ _).alloc (Nat.le_refl _) _).drew.trans (b2.mono (by simp))).mono hsz)
      have hg5 : wr.heap.size < w2.heap.size := Nat.lt_of_lt_of_le (by simp) b2.size
      have o2 := own_below ((HO.out.alloc _).drew) b2
      refine bcall rfl rfl (fun K hK => ?_)
      refine wp_app (.tmp 20) (.tmp 27) strE rfl w.heap.size _ rfl (o2.alloc _) rfl [strV [98, 97, 108], strV [105, 110, 116, 59]] (Rd.made _ [strV [98, 97, 108], strV [105, 110, 116, 59]] rfl rfl) (by simp [strV, Value.oneCell']) (by unfold maxLen; omega) (by omega) (by simp; omega) ?_
      intro A5 c5 w5 o5 g5
      have B5 : Below w.heap.size w w5 := below_app (B2.alloc (by omega) _) (o2.alloc _) g5 (by simp; omega)
      have K5 : KB [wr.heap.size] _ w5 := fun x hx => g5.block x (by simp at hx ⊢; omega) fun e => by
        have := (HO.out.lt x e.symm).2
        simp at hx
        omega
      refine hK.out _ _ K5 ?_
      clear hK K
      try simp only [Act.put, List.setIfInBounds_toArray, List.set_cons_zero, List.set_cons_succ]
      repeat (first | (refine sreadxB rfl rfl ?_; apply Exists.intro; apply And.intro; (· (intro W hW; first | (go_simp; done) | (go_simp; with_reducible rfl) | (go_simp; rw [if_neg (by omega)]; done) | (go_simp; rw [if_neg (by omega)]; with_reducible rfl))); simp only [Act.put, List.setIfInBounds_toArray, List.set_cons_zero, List.set_cons_succ]) | (refine bskip rfl rfl ?_; simp only [Act.put, List.setIfInBounds_toArray, List.set_cons_zero, List.set_cons_succ]))
      refine bdone ?_
      clear q
      have HO5 := Lib.hid o5
      have HB5 := Lib.hid B5
      clear o5 B5 g5 K5 B2 o2 b2
      go_wp2_with fail
      go_roundw
      case rel => exact ⟨1, A5, _, c5, by omega, by go_num, rfl, by have := HO5.out; simpa [exP, exP0, exP1, exP2] using this, HB5.out⟩
      case measure => simp [intOf]
    obtain rfl | hk2 : k = 1 ∨ k = 2 := by omega
    · have hn5 : n = 7 := HN.out
      have x5 : (wr.alloc (.cells #[.string ⟨#[119, 104, 111]⟩, .int .i64 3, .int .i64 6] 131)).drew.heap[wr.heap.size]? = some (.cells #[.string ⟨#[119, 104, 111]⟩, .int .i64 3, .int .i64 6] 131 (0, 0)) := alloc_at rfl
      have HX5 := Lib.hid x5; clear x5
      subst hn5
      go_wp2_with fail
      refine wp_region_schedB [wr.heap.size] [(0, true), (1, true), (2, true), (3, true), (4, true), (5, false), (6, true), (7, false), (8, false), (9, true)] (by kernel_rfl) (by kernel_rfl) (fun _ _ d _ _ h => by cases d <;> exact h) ?_
      refine bwith (fun W hW => (cells3 (hW.one HX5.out))) (fun q => ?_)
      repeat (first | (refine sreadxB rfl rfl ?_; apply Exists.intro; apply And.intro; (· (intro W hW; first | (go_simp; done) | (go_simp; with_reducible rfl) | (go_simp; rw [if_neg (by omega)]; done) | (go_simp; rw [if_neg (by omega)]; with_reducible rfl))); simp only [Act.put, List.setIfInBounds_toArray, List.set_cons_zero, List.set_cons_succ]) | (refine bskip rfl rfl ?_; simp only [Act.put, List.setIfInBounds_toArray, List.set_cons_zero, List.set_cons_succ]))
      refine bcall rfl rfl (fun K hK => ?_)
      go_simp
      refine (printType_any 3 6 _).mono ?_; rintro e w2 ⟨rfl, b2⟩; rw [Ht2.out]
      go_wp2_with fail
      refine hK.out _ _ (by exact KB.of_below b2 (by simp)) ?_
      clear hK K
      try simp only [Act.put, List.setIfInBounds_toArray, List.set_cons_zero, List.set_cons_succ]
      repeat (first | (refine sreadxB rfl rfl ?_; apply Exists.intro; apply And.intro; (· (intro W hW; first | (go_simp; done) | (go_simp; with_reducible rfl) | (go_simp; rw [if_neg (by omega)]; done) | (go_simp; rw [if_neg (by omega)]; with_reducible rfl))); simp only [Act.put, List.setIfInBounds_toArray, List.set_cons_zero, List.set_cons_succ]) | (refine bskip rfl rfl ?_; simp only [Act.put, List.setIfInBounds_toArray, List.set_cons_zero, List.set_cons_succ]))
      refine bcall rfl rfl (fun K hK => ?_)
      go_simp
      refine hK.out _ _ (KB.of_below ((Below.refl _ _).alloc (Nat.le_refl _) _) (by simp; have := b2.size; simp at this; omega)) ?_
      clear hK K
      try simp only [Act.put, List.setIfInBounds_toArray, List.set_cons_zero, List.set_cons_succ]
      have B2 : Below w.heap.size w w2 := HBl.out.trans ((((Below.refl _ _).alloc (Nat.le_refl _) _).drew.trans (b2.mono (by simp))).mono hsz)
      have hg5 : wr.heap.size < w2.heap.size := Nat.lt_of_lt_of_le (by simp) b2.size
      have o2 := own_below ((HO.out.alloc _).drew) b2
      refine bcall rfl rfl (fun K hK => ?_)
      refine wp_app (.tmp 20) (.tmp 27) strE rfl w.heap.size _ rfl (o2.alloc _) rfl [strV [119, 104, 111], strV [116, 101, 120, 116, 32, 54, 59]] (Rd.made _ [strV [119, 104, 111], strV [116, 101, 120, 116, 32, 54, 59]] rfl rfl) (by simp [strV, Value.oneCell']) (by unfold maxLen; omega) (by omega) (by simp; omega) ?_
      intro A5 c5 w5 o5 g5
      have B5 : Below w.heap.size w w5 := below_app (B2.alloc (by omega) _) (o2.alloc _) g5 (by simp; omega)
      have K5 : KB [wr.heap.size] _ w5 := fun x hx => g5.block x (by simp at hx ⊢; omega) fun e => by
        have := (HO.out.lt x e.symm).2
        simp at hx
        omega
      refine hK.out _ _ K5 ?_
      clear hK K
      try simp only [Act.put, List.setIfInBounds_toArray, List.set_cons_zero, List.set_cons_succ]
      repeat (first | (refine sreadxB rfl rfl ?_; apply Exists.intro; apply And.intro; (· (intro W hW; first | (go_simp; done) | (go_simp; with_reducible rfl) | (go_simp; rw [if_neg (by omega)]; done) | (go_simp; rw [if_neg (by omega)]; with_reducible rfl))); simp only [Act.put, List.setIfInBounds_toArray, List.set_cons_zero, List.set_cons_succ]) | (refine bskip rfl rfl ?_; simp only [Act.put, List.setIfInBounds_toArray, List.set_cons_zero, List.set_cons_succ]))
      refine bdone ?_
      clear q
      have HO5 := Lib.hid o5
      have HB5 := Lib.hid B5
      clear o5 B5 g5 K5 B2 o2 b2
      go_wp2_with fail
      go_roundw
      case rel => exact ⟨2, A5, _, c5, by omega, by go_num, rfl, by have := HO5.out; simpa [exP, exP0, exP1, exP2] using this, HB5.out⟩
      case measure => simp [intOf]
    · subst hk2
      have hn9 : n = 9 := HN.out
      subst hn9
      go_wp2_with (at_builtin; refine wpList_app rfl (.tmp 30) (.tmp 31) strE rfl w.heap.size _ rfl (HO.out.alloc _) rfl [strV [125]] (Rd.made _ [strV [125]] rfl rfl) (by simp [strV, Value.oneCell']) (by unfold maxLen; omega) (by omega) (by simp; omega) ?_; intro A5 c5 w5 o5 g5 _)
      have B5 := below_app (HBl.out.alloc hsz _) (HO.out.alloc _) g5 (by simp; omega)
      have r5 : Rd w5 w5.heap.size 1 A5 10 ((exP 2 ++ [[125]]).map strV) := by have := Rd.of_own o5; simpa [exP, exP0, exP1, exP2] using this
      have hc5 := own_cap o5
      have hj := join_rd (c := c5) (exP 2 ++ [[125]]) [32] r5 (by omega) hc5 (by omega) (by rw [ex_join]; decide)
      rw [ex_join] at hj
      refine hj.mono ?_
      rintro e w6 ⟨rfl, b6⟩
      go_wp2_with fail
      go_ret
      exact ⟨rfl, B5.trans (b6.mono B5.size)⟩
theorem lives_any (w : World) : Calls Try.prog 31 #[] w fun e w' => e = .returned (.bool true) ∧ Below w.heap.size w w' := by
  have n1 : isNameL [97, 99, 99] = true := by decide +kernel
  have n2 : isNameL [108, 101, 116] = false := by decide +kernel
  have ht : exText = [116, 97, 98, 108, 101, 32, 97, 99, 99, 32, 114, 111, 119, 115, 32, 56, 32, 123, 32, 98, 97, 108, 32, 105, 110, 116, 59, 32, 119, 104, 111, 32, 116, 101, 120, 116, 32, 54, 59, 32, 125] := rfl
  have Hn1 := Lib.hid n1; clear n1
  have Hn2 := Lib.hid n2; clear n2
  have Hht := Lib.hid ht; clear ht
  go_enter Try.func31, Try.ntmps31
  go_wp2_with fail
  refine (example_any _).mono ?_; rintro e w1 ⟨b, rfl, x1, b1⟩
  go_wp2_with fail
  refine (print_ex b _ x1).mono ?_; rintro e w2 ⟨rfl, b2⟩
  rw [Hht.out]
  go_wp2_with fail
  refine (isName_any [97, 99, 99] _ (by simp)).mono ?_; rintro e w3 ⟨rfl, rfl⟩
  rw [Hn1.out]
  go_wp2_with fail
  refine (isName_any [108, 101, 116] _ (by simp)).mono ?_; rintro e w3 ⟨rfl, rfl⟩
  rw [Hn2.out]
  go_wp2_with fail
  go_ret
  exact ⟨rfl, bthen b1 b2⟩
end Go.Proofs.Ytpkoijlbbfffiaa.S
