/- The contracts of value.Get and of the reference's Get. -/
import Derived.Test.YtpkoijlbbfffiaaValPut
import Derived.Test.YtpkoijlbbfffiaaOctGet2
import Derived.Test.YtpkoijlbbfffiaaOctRef2
namespace Go.Proofs.Ytpkoijlbbfffiaa.V
open Go.RowKit O

def resV (o : Option (Val × Nat)) (x : Int) : Value := match o with
  | none => .tuple #[vv ⟨0, 0, []⟩, .int .i64 0, .bool false]
  | some (v, k) => .tuple #[vv v, .int .i64 (x + k), .bool true]
def resRV (o : Option (Val × Nat)) : Value := match o with
  | none => .tuple #[vv ⟨0, 0, []⟩, .int .i64 0]
  | some (v, k) => .tuple #[vv v, .int .i64 k]
theorem row_set {w : World} {b j : Nat} {cs : Array Value} {u : Value} {t : TypeId} (h : w.heap[b]? = some (.cells cs t (0, 0))) : (w.setCell ⟨b, j, none⟩ u).heap[b]? = some (.cells (cs.set! j u) t (0, 0)) := by
  simp [World.setCell, Array.getElem?_modify, h]
theorem row_other {w : World} {b c j : Nat} {u : Value} {o : Obj} (h : w.heap[b]? = some o) (hne : b ≠ c) : (w.setCell ⟨c, j, none⟩ u).heap[b]? = some o :=
  (Below.heap_setCell _ _ _ _ hne).trans h
theorem getV_out {l : List UInt8} {x : Int} (h : ¬ (0 ≤ x ∧ x < l.length)) : getV l x = none := by unfold getV; rw [if_neg h]
theorem getV_k {l : List UInt8} {m : Nat} (h : m < l.length) (k : Nat) (hk : l[m].toNat = k) : getV l (m : Int) =
    if k = 1 then (match getUAt l ((m : Int) + 1) with | none => none | some (u, k) => some (⟨1, zag u, []⟩, k + 1))
    else if k = 2 then (if ((m : Int) + 1 < l.length) ∧ (l.getD (m + 1) 0).toNat ≤ 1 then some (⟨2, (l.getD (m + 1) 0).toNat, []⟩, 2) else none)
    else if k = 3 then (match getTAt l ((m : Int) + 1) 32 with | none => none | some (s, k) => if plainL s then some (⟨3, 0, s⟩, k + 1) else none)
    else none := by
  unfold getV
  rw [if_pos ⟨by omega, by omega⟩, Int.toNat_natCast, show l.getD m 0 = l[m] by simp [List.getD, h], hk]
  rfl
theorem getTAt_len {l : List UInt8} {x m : Int} {s : List UInt8} {k : Nat} (h : getTAt l x m = some (s, k)) : (s.length : Int) ≤ m ∧ x + k ≤ l.length ∧ 0 < k := by
  unfold getTAt at h
  split at h
  · cases h
  · rename_i n j hu
    have hlt := getUAt_lt hu
    split at h
    · cases h
    · cases h
      simp
      omega

set_option maxRecDepth 100000 in
set_option maxHeartbeats 4000000 in
theorem get_any (A : Option Addr) (n c : Nat) (x : Int) (l : List UInt8) (w : World) (h : Rd w w.heap.size 1 A n (bv l)) (hnc : n ≤ c) (hn : n ≤ 1000000000000000000) (hc : c ≤ 9223372036854775807) :
    Calls Try.prog 39 #[.slice A n c, .int .i64 x] w fun e w' => e = .returned (resV (getV l x) x) ∧ Below w.heap.size w w' := by
  have hl : l.length = n := by have := h.1; simp at this; omega
  have hl1 : l.length ≤ n := by omega
  have hl2 : n ≤ l.length := by omega
  by_cases hin : 0 ≤ x ∧ x < l.length
  · obtain ⟨m, rfl⟩ : ∃ m : Nat, x = (m : Int) := ⟨x.toNat, by omega⟩
    have hm : m < l.length := by omega
    obtain ⟨hk, hE⟩ : ∃ k, l[m].toNat = k := ⟨_, rfl⟩
    have HG := Lib.hid (getV_k hm hk hE)
    have hk2 : hk < 256 := by rw [← hE]; exact l[m].toNat_lt
    obtain ⟨b, off, rfl, hbB⟩ := h.some_ (k := m) (by omega)
    have hb0 := h.byte (k := m) hm
    rw [hE] at hb0
    have R0 := Lib.hid h
    have R1 := Lib.hid (fun W (hW : Below w.heap.size w W) => (h.next hW).byte (k := m) hm)
    have HI := Lib.hid (fun W (hW : Below w.heap.size w W) => getInt_any (some ⟨b, off, none⟩) n c ((m : Int) + 1) l W (h.next hW) hnc hn hc)
    have HT := Lib.hid (fun W (hW : Below w.heap.size w W) => getText_any (some ⟨b, off, none⟩) n c ((m : Int) + 1) 32 l W (h.next hW) hnc hn hc (by omega) (by omega))
    have R2 := Lib.hid (fun W (hW : Below w.heap.size w W) (hm2 : m + 1 < l.length) => (h.next hW).byte (k := m + 1) hm2)
    clear h hl
    have hb1 := R1.out (w.alloc (.cells #[.int .i64 0, .int .i64 0, .string ⟨#[]⟩] 23)) (by repeat (first | (with_reducible exact Below.refl _ _) | refine Below.setCell ?_ (by simp <;> omega) _ | refine Below.alloc ?_ (by simp <;> omega) _ | refine Below.drew ?_))
    rw [hE] at hb1
    by_cases h1 : hk = 1
    · subst h1
      cases hu : getUAt l ((m : Int) + 1) with
      | none =>
        have HGn : Hid (getV l (m : Int) = none) := Lib.hid (by rw [HG.out]; simp [hu])
        rw [hu] at HI
        simp only [resI] at HI
        clear HG hu
        go_enter Try.func39, Try.ntmps39
        go_wp2_with fail
        refine (HI.out _ (by repeat (first | (with_reducible exact Below.refl _ _) | refine Below.setCell ?_ (by simp <;> omega) _ | refine Below.alloc ?_ (by simp <;> omega) _ | refine Below.drew ?_))).mono ?_; rintro e w1 ⟨rfl, rfl⟩
        go_wp2_with fail
        refine bodyPost_ret (v := .tuple #[vv ⟨0, 0, []⟩, .int .i64 0, .bool false]) (by simp [results, Try.results39, go_sem, vv]) rfl ?_
        refine ⟨by rw [HGn.out]; rfl, ?_⟩
        repeat (first | (with_reducible exact Below.refl _ _) | (with_reducible assumption) | refine Below.setCell ?_ (by simp <;> omega) _ | refine Below.alloc ?_ (by simp <;> omega) _ | refine Below.drew ?_)
      | some p =>
        obtain ⟨u, k⟩ := p
        have hlt := getUAt_lt hu
        have hzb := zag_bounds u hlt.1
        have HGn : Hid (getV l (m : Int) = some (⟨1, zag u, []⟩, k + 1)) := Lib.hid (by rw [HG.out]; simp [hu])
        rw [hu] at HI
        simp only [resI] at HI
        clear HG hu
        generalize zag u = z at *
        go_enter Try.func39, Try.ntmps39
        go_wp2_with fail
        refine (HI.out _ (by repeat (first | (with_reducible exact Below.refl _ _) | refine Below.setCell ?_ (by simp <;> omega) _ | refine Below.alloc ?_ (by simp <;> omega) _ | refine Below.drew ?_))).mono ?_; rintro e w1 ⟨rfl, rfl⟩
        go_wp2_with fail
        refine (right_any ⟨1, z, []⟩ _ (by simp)).mono ?_; rintro e w2 ⟨rfl, b2⟩
        rw [show right ⟨1, z, []⟩ = true by simp [right]]
        have x : w2.heap[w.heap.size]? = some (.cells #[.int .i64 1, .int .i64 z, .string ⟨#[]⟩] 23 (0, 0)) := box_next (by repeat (first | (refine alloc_at ?_; simp; done) | refine alloc_old' ?_)) b2
        have xc0 : w2.cell? ⟨w.heap.size, 0, none⟩ = some (.int .i64 1) := by rw [Lib.cell_of_heap x]; rfl
        have xf0 : w2.frozen? ⟨w.heap.size, 0, none⟩ = false := Lib.frozen_of_heap x 0
        have xc1 : w2.cell? ⟨w.heap.size, 1, none⟩ = some (.int .i64 z) := by rw [Lib.cell_of_heap x]; rfl
        have xf1 : w2.frozen? ⟨w.heap.size, 1, none⟩ = false := Lib.frozen_of_heap x 1
        have xc2 : w2.cell? ⟨w.heap.size, 2, none⟩ = some (.string ⟨#[]⟩) := by rw [Lib.cell_of_heap x]; rfl
        have xf2 : w2.frozen? ⟨w.heap.size, 2, none⟩ = false := Lib.frozen_of_heap x 2
        have B2 : Below w.heap.size w w2 := bthen (by repeat (first | exact Below.refl _ _ | refine Below.alloc ?_ (by simp <;> omega) _)) b2
        go_wp2_with fail
        refine bodyPost_ret (v := .tuple #[vv ⟨1, z, []⟩, .int .i64 ((m : Int) + 1 + (k : Int)), .bool true]) (by simp [results, Try.results39, go_sem, vv, xc0, xc1, xc2]) rfl ?_
        refine ⟨by rw [HGn.out]; simp only [resV]; rw [show ((m : Int) + 1 + (k : Int) = (m : Int) + ((k + 1 : Nat) : Int)) from by omega], ?_⟩
        repeat (first | (with_reducible exact Below.refl _ _) | (with_reducible assumption) | refine Below.setCell ?_ (by simp <;> omega) _ | refine Below.alloc ?_ (by simp <;> omega) _ | refine Below.drew ?_)
    · by_cases h2 : hk = 2
      · subst h2
        by_cases hm2 : m + 1 < l.length
        · obtain ⟨j, hj⟩ : ∃ j, l[m + 1].toNat = j := ⟨_, rfl⟩
          have hj2 : j < 256 := by rw [← hj]; exact l[m + 1].toNat_lt
          have hgd : (l.getD (m + 1) 0).toNat = j := by rw [← hj]; simp [List.getD, hm2]
          have hgd2 : (l[m + 1]?.getD 0).toNat = j := by rw [← hj]; simp [hm2]
          have hd : decide ((m : Int) + 1 < (n : Int)) = true := by simp; omega
          have hb3 := R2.out (w.alloc (.cells #[.int .i64 2, .int .i64 0, .string ⟨#[]⟩] 23)) (by repeat (first | (with_reducible exact Below.refl _ _) | refine Below.setCell ?_ (by simp <;> omega) _ | refine Below.alloc ?_ (by simp <;> omega) _ | refine Below.drew ?_)) hm2
          rw [hj] at hb3
          have hcell := fun W hW => (R2.out W hW hm2).trans (by rw [hj])
          clear hcell
          by_cases hj1 : j ≤ 1
          · have HGn : Hid (getV l (m : Int) = some (⟨2, (j : Nat), []⟩, 2)) := Lib.hid (by rw [HG.out]; simp [hgd2]; omega)
            clear HG hj hgd
            go_enter Try.func39, Try.ntmps39
            go_wp2_with fail
            go_wp2_with fail
            refine (right_any ⟨2, (j : Nat), []⟩ _ (by simp)).mono ?_; rintro e w2 ⟨rfl, b2⟩
            rw [show right ⟨2, (j : Nat), []⟩ = true by simp [right]; omega]
            have x : w2.heap[w.heap.size]? = some (.cells #[.int .i64 2, .int .i64 (j : Nat), .string ⟨#[]⟩] 23 (0, 0)) := box_next (by repeat (first | (refine alloc_at ?_; simp; done) | refine alloc_old' ?_)) b2
            have xc0 : w2.cell? ⟨w.heap.size, 0, none⟩ = some (.int .i64 2) := by rw [Lib.cell_of_heap x]; rfl
            have xf0 : w2.frozen? ⟨w.heap.size, 0, none⟩ = false := Lib.frozen_of_heap x 0
            have xc1 : w2.cell? ⟨w.heap.size, 1, none⟩ = some (.int .i64 (j : Nat)) := by rw [Lib.cell_of_heap x]; rfl
            have xf1 : w2.frozen? ⟨w.heap.size, 1, none⟩ = false := Lib.frozen_of_heap x 1
            have xc2 : w2.cell? ⟨w.heap.size, 2, none⟩ = some (.string ⟨#[]⟩) := by rw [Lib.cell_of_heap x]; rfl
            have xf2 : w2.frozen? ⟨w.heap.size, 2, none⟩ = false := Lib.frozen_of_heap x 2
            have B2 : Below w.heap.size w w2 := bthen (by repeat (first | exact Below.refl _ _ | refine Below.alloc ?_ (by simp <;> omega) _)) b2
            go_wp2_with fail
            refine bodyPost_ret (v := .tuple #[vv ⟨2, (j : Nat), []⟩, .int .i64 ((m : Int) + 1 + 1), .bool true]) (by simp [results, Try.results39, go_sem, vv, xc0, xc1, xc2]) rfl ?_
            refine ⟨by rw [HGn.out]; simp only [resV]; rw [show ((m : Int) + 1 + 1 = (m : Int) + ((2 : Nat) : Int)) from by omega], ?_⟩
            repeat (first | (with_reducible exact Below.refl _ _) | (with_reducible assumption) | refine Below.setCell ?_ (by simp <;> omega) _ | refine Below.alloc ?_ (by simp <;> omega) _ | refine Below.drew ?_)
          · have HGn : Hid (getV l (m : Int) = none) := Lib.hid (by rw [HG.out]; simp [hgd2]; omega)
            clear HG hj hgd
            go_enter Try.func39, Try.ntmps39
            go_wp2_with fail
            go_wp2_with fail
            refine (right_any ⟨2, (j : Nat), []⟩ _ (by simp)).mono ?_; rintro e w2 ⟨rfl, b2⟩
            rw [show right ⟨2, (j : Nat), []⟩ = false by simp [right]; omega]
            have x : w2.heap[w.heap.size]? = some (.cells #[.int .i64 2, .int .i64 (j : Nat), .string ⟨#[]⟩] 23 (0, 0)) := box_next (by repeat (first | (refine alloc_at ?_; simp; done) | refine alloc_old' ?_)) b2
            have xc0 : w2.cell? ⟨w.heap.size, 0, none⟩ = some (.int .i64 2) := by rw [Lib.cell_of_heap x]; rfl
            have xf0 : w2.frozen? ⟨w.heap.size, 0, none⟩ = false := Lib.frozen_of_heap x 0
            have xc1 : w2.cell? ⟨w.heap.size, 1, none⟩ = some (.int .i64 (j : Nat)) := by rw [Lib.cell_of_heap x]; rfl
            have xf1 : w2.frozen? ⟨w.heap.size, 1, none⟩ = false := Lib.frozen_of_heap x 1
            have xc2 : w2.cell? ⟨w.heap.size, 2, none⟩ = some (.string ⟨#[]⟩) := by rw [Lib.cell_of_heap x]; rfl
            have xf2 : w2.frozen? ⟨w.heap.size, 2, none⟩ = false := Lib.frozen_of_heap x 2
            have B2 : Below w.heap.size w w2 := bthen (by repeat (first | exact Below.refl _ _ | refine Below.alloc ?_ (by simp <;> omega) _)) b2
            go_wp2_with fail
            refine bodyPost_ret (v := .tuple #[vv ⟨0, 0, []⟩, .int .i64 0, .bool false]) (by simp [results, Try.results39, go_sem, vv, xc0, xc1, xc2]) rfl ?_
            refine ⟨by rw [HGn.out]; rfl, ?_⟩
            repeat (first | (with_reducible exact Below.refl _ _) | (with_reducible assumption) | refine Below.setCell ?_ (by simp <;> omega) _ | refine Below.alloc ?_ (by simp <;> omega) _ | refine Below.drew ?_)
        · have hd : decide ((m : Int) + 1 < (n : Int)) = false := by simp; omega
          have HGn : Hid (getV l (m : Int) = none) := Lib.hid (by rw [HG.out]; simp; omega)
          clear HG
          go_enter Try.func39, Try.ntmps39
          go_wp2_with fail
          refine bodyPost_ret (v := .tuple #[vv ⟨0, 0, []⟩, .int .i64 0, .bool false]) (by simp [results, Try.results39, go_sem, vv]) rfl ?_
          refine ⟨by rw [HGn.out]; rfl, ?_⟩
          repeat (first | (with_reducible exact Below.refl _ _) | (with_reducible assumption) | refine Below.setCell ?_ (by simp <;> omega) _ | refine Below.alloc ?_ (by simp <;> omega) _ | refine Below.drew ?_)
      · by_cases h3 : hk = 3
        · subst h3
          cases hu : getTAt l ((m : Int) + 1) 32 with
          | none =>
            have HGn : Hid (getV l (m : Int) = none) := Lib.hid (by rw [HG.out]; simp [hu])
            rw [hu] at HT
            simp only [resT] at HT
            clear HG hu
            go_enter Try.func39, Try.ntmps39
            go_wp2_with fail
            refine (HT.out _ (by repeat (first | (with_reducible exact Below.refl _ _) | refine Below.setCell ?_ (by simp <;> omega) _ | refine Below.alloc ?_ (by simp <;> omega) _ | refine Below.drew ?_))).mono ?_; rintro e w1 ⟨rfl, rfl⟩
            go_wp2_with fail
            refine bodyPost_ret (v := .tuple #[vv ⟨0, 0, []⟩, .int .i64 0, .bool false]) (by simp [results, Try.results39, go_sem, vv]) rfl ?_
            refine ⟨by rw [HGn.out]; rfl, ?_⟩
            repeat (first | (with_reducible exact Below.refl _ _) | (with_reducible assumption) | refine Below.setCell ?_ (by simp <;> omega) _ | refine Below.alloc ?_ (by simp <;> omega) _ | refine Below.drew ?_)
          | some p =>
            obtain ⟨s, k⟩ := p
            have hlt := getTAt_len hu
            cases hp : plainL s
            · have HGn : Hid (getV l (m : Int) = none) := Lib.hid (by rw [HG.out]; simp [hu, hp])
              rw [hu] at HT
              simp only [resT] at HT
              clear HG hu
              go_enter Try.func39, Try.ntmps39
              go_wp2_with fail
              refine (HT.out _ (by repeat (first | (with_reducible exact Below.refl _ _) | refine Below.setCell ?_ (by simp <;> omega) _ | refine Below.alloc ?_ (by simp <;> omega) _ | refine Below.drew ?_))).mono ?_; rintro e w1 ⟨rfl, rfl⟩
              go_wp2_with fail
              refine (right_any ⟨3, 0, s⟩ _ (by simp; omega)).mono ?_; rintro e w2 ⟨rfl, b2⟩
              rw [show right ⟨3, 0, s⟩ = false by simp [right, hp]]
              have x : w2.heap[w.heap.size]? = some (.cells #[.int .i64 3, .int .i64 0, .string ⟨s.toArray⟩] 23 (0, 0)) := box_next (by repeat (first | (refine alloc_at ?_; simp; done) | refine alloc_old' ?_)) b2
              have xc0 : w2.cell? ⟨w.heap.size, 0, none⟩ = some (.int .i64 3) := by rw [Lib.cell_of_heap x]; rfl
              have xf0 : w2.frozen? ⟨w.heap.size, 0, none⟩ = false := Lib.frozen_of_heap x 0
              have xc1 : w2.cell? ⟨w.heap.size, 1, none⟩ = some (.int .i64 0) := by rw [Lib.cell_of_heap x]; rfl
              have xf1 : w2.frozen? ⟨w.heap.size, 1, none⟩ = false := Lib.frozen_of_heap x 1
              have xc2 : w2.cell? ⟨w.heap.size, 2, none⟩ = some (.string ⟨s.toArray⟩) := by rw [Lib.cell_of_heap x]; rfl
              have xf2 : w2.frozen? ⟨w.heap.size, 2, none⟩ = false := Lib.frozen_of_heap x 2
              have B2 : Below w.heap.size w w2 := bthen (by repeat (first | exact Below.refl _ _ | refine Below.alloc ?_ (by simp <;> omega) _)) b2
              go_wp2_with fail
              refine bodyPost_ret (v := .tuple #[vv ⟨0, 0, []⟩, .int .i64 0, .bool false]) (by simp [results, Try.results39, go_sem, vv, xc0, xc1, xc2]) rfl ?_
              refine ⟨by rw [HGn.out]; rfl, ?_⟩
              repeat (first | (with_reducible exact Below.refl _ _) | (with_reducible assumption) | refine Below.setCell ?_ (by simp <;> omega) _ | refine Below.alloc ?_ (by simp <;> omega) _ | refine Below.drew ?_)
            · have HGn : Hid (getV l (m : Int) = some (⟨3, 0, s⟩, k + 1)) := Lib.hid (by rw [HG.out]; simp [hu, hp])
              rw [hu] at HT
              simp only [resT] at HT
              clear HG hu
              go_enter Try.func39, Try.ntmps39
              go_wp2_with fail
              refine (HT.out _ (by repeat (first | (with_reducible exact Below.refl _ _) | refine Below.setCell ?_ (by simp <;> omega) _ | refine Below.alloc ?_ (by simp <;> omega) _ | refine Below.drew ?_))).mono ?_; rintro e w1 ⟨rfl, rfl⟩
              go_wp2_with fail
              refine (right_any ⟨3, 0, s⟩ _ (by simp; omega)).mono ?_; rintro e w2 ⟨rfl, b2⟩
              rw [show right ⟨3, 0, s⟩ = true by simp [right, hp]]
              have x : w2.heap[w.heap.size]? = some (.cells #[.int .i64 3, .int .i64 0, .string ⟨s.toArray⟩] 23 (0, 0)) := box_next (by repeat (first | (refine alloc_at ?_; simp; done) | refine alloc_old' ?_)) b2
              have xc0 : w2.cell? ⟨w.heap.size, 0, none⟩ = some (.int .i64 3) := by rw [Lib.cell_of_heap x]; rfl
              have xf0 : w2.frozen? ⟨w.heap.size, 0, none⟩ = false := Lib.frozen_of_heap x 0
              have xc1 : w2.cell? ⟨w.heap.size, 1, none⟩ = some (.int .i64 0) := by rw [Lib.cell_of_heap x]; rfl
              have xf1 : w2.frozen? ⟨w.heap.size, 1, none⟩ = false := Lib.frozen_of_heap x 1
              have xc2 : w2.cell? ⟨w.heap.size, 2, none⟩ = some (.string ⟨s.toArray⟩) := by rw [Lib.cell_of_heap x]; rfl
              have xf2 : w2.frozen? ⟨w.heap.size, 2, none⟩ = false := Lib.frozen_of_heap x 2
              have B2 : Below w.heap.size w w2 := bthen (by repeat (first | exact Below.refl _ _ | refine Below.alloc ?_ (by simp <;> omega) _)) b2
              go_wp2_with fail
              refine bodyPost_ret (v := .tuple #[vv ⟨3, 0, s⟩, .int .i64 ((m : Int) + 1 + (k : Int)), .bool true]) (by simp [results, Try.results39, go_sem, vv, xc0, xc1, xc2]) rfl ?_
              refine ⟨by rw [HGn.out]; simp only [resV]; rw [show ((m : Int) + 1 + (k : Int) = (m : Int) + ((k + 1 : Nat) : Int)) from by omega], ?_⟩
              repeat (first | (with_reducible exact Below.refl _ _) | (with_reducible assumption) | refine Below.setCell ?_ (by simp <;> omega) _ | refine Below.alloc ?_ (by simp <;> omega) _ | refine Below.drew ?_)
        · have HGn : Hid (getV l (m : Int) = none) := Lib.hid (by rw [HG.out]; simp [h1, h2, h3])
          clear HG
          have g1 : ((hk : Int) == 1) = false := by simp; omega
          have g2 : ((hk : Int) == 2) = false := by simp; omega
          have g3 : ((hk : Int) == 3) = false := by simp; omega
          go_enter Try.func39, Try.ntmps39
          go_wp2_with fail
          refine bodyPost_ret (v := .tuple #[vv ⟨0, 0, []⟩, .int .i64 0, .bool false]) (by simp [results, Try.results39, go_sem, vv]) rfl ?_
          refine ⟨by rw [HGn.out]; rfl, ?_⟩
          repeat (first | (with_reducible exact Below.refl _ _) | (with_reducible assumption) | refine Below.setCell ?_ (by simp <;> omega) _ | refine Below.alloc ?_ (by simp <;> omega) _ | refine Below.drew ?_)
  · have HGn := Lib.hid (getV_out hin)
    rcases (show x < 0 ∨ (n : Int) ≤ x by omega) with hx | hx
    · have hx' : decide (x < 0) = true := by simpa using hx
      go_enter Try.func39, Try.ntmps39
      go_wp2_with fail
      refine bodyPost_ret (v := .tuple #[vv ⟨0, 0, []⟩, .int .i64 0, .bool false]) (by simp [results, Try.results39, go_sem, vv]) rfl ?_
      refine ⟨by rw [HGn.out]; rfl, ?_⟩
      repeat (first | (with_reducible exact Below.refl _ _) | (with_reducible assumption) | refine Below.setCell ?_ (by simp <;> omega) _ | refine Below.alloc ?_ (by simp <;> omega) _ | refine Below.drew ?_)
    · have hx' : decide (x ≥ (n : Int)) = true := by simpa using hx
      have hx2 : decide (x < 0) = false := by simp; omega
      go_enter Try.func39, Try.ntmps39
      go_wp2_with fail
      refine bodyPost_ret (v := .tuple #[vv ⟨0, 0, []⟩, .int .i64 0, .bool false]) (by simp [results, Try.results39, go_sem, vv]) rfl ?_
      refine ⟨by rw [HGn.out]; rfl, ?_⟩
      repeat (first | (with_reducible exact Below.refl _ _) | (with_reducible assumption) | refine Below.setCell ?_ (by simp <;> omega) _ | refine Below.alloc ?_ (by simp <;> omega) _ | refine Below.drew ?_)
set_option maxRecDepth 100000 in
set_option maxHeartbeats 4000000 in
theorem rget_any (A : Option Addr) (n c : Nat) (x : Int) (l : List UInt8) (w : World) (h : Rd w w.heap.size 1 A n (bv l)) (hnc : n ≤ c) (hn : n ≤ 1000000000000000000) (hc : c ≤ 9223372036854775807) :
    Calls Try.prog 40 #[.slice A n c, .int .i64 x] w fun e w' => e = .returned (resRV (getV l x)) ∧ Below w.heap.size w w' := by
  have hl : l.length = n := by have := h.1; simp at this; omega
  have hl1 : l.length ≤ n := by omega
  have hl2 : n ≤ l.length := by omega
  by_cases hin : 0 ≤ x ∧ x < l.length
  · obtain ⟨m, rfl⟩ : ∃ m : Nat, x = (m : Int) := ⟨x.toNat, by omega⟩
    have hm : m < l.length := by omega
    obtain ⟨hk, hE⟩ : ∃ k, l[m].toNat = k := ⟨_, rfl⟩
    have HG := Lib.hid (getV_k hm hk hE)
    have hk2 : hk < 256 := by rw [← hE]; exact l[m].toNat_lt
    obtain ⟨b, off, rfl, hbB⟩ := h.some_ (k := m) (by omega)
    have hb0 := h.byte (k := m) hm
    rw [hE] at hb0
    have R0 := Lib.hid h
    have R1 := Lib.hid (fun W (hW : Below w.heap.size w W) => (h.next hW).byte (k := m) hm)
    have HI := Lib.hid (fun W (hW : Below w.heap.size w W) => refGetInt_any (some ⟨b, off, none⟩) n c ((m : Int) + 1) l W (h.next hW) hnc hn hc)
    have HT := Lib.hid (fun W (hW : Below w.heap.size w W) => refGetText_any (some ⟨b, off, none⟩) n c ((m : Int) + 1) 32 l W (h.next hW) hnc hn hc (by omega) (by omega))
    have R2 := Lib.hid (fun W (hW : Below w.heap.size w W) (hm2 : m + 1 < l.length) => (h.next hW).byte (k := m + 1) hm2)
    clear h hl
    have hb1 := R1.out ((w.alloc (.cells #[.int .i64 0, .int .i64 0, .string ⟨#[]⟩] 23)).alloc (.cells #[.int .i64 0, .int .i64 0, .string ⟨#[]⟩] 23)) (by repeat (first | (with_reducible exact Below.refl _ _) | refine Below.setCell ?_ (by simp <;> omega) _ | refine Below.alloc ?_ (by simp <;> omega) _ | refine Below.drew ?_))
    rw [hE] at hb1
    by_cases h1 : hk = 1
    · subst h1
      cases hu : getUAt l ((m : Int) + 1) with
      | none =>
        have HGn : Hid (getV l (m : Int) = none) := Lib.hid (by rw [HG.out]; simp [hu])
        rw [hu] at HI
        simp only [resRI] at HI
        clear HG hu
        go_enter Try.func40, Try.ntmps40
        go_wp2_with fail
        refine (HI.out _ (by repeat (first | (with_reducible exact Below.refl _ _) | refine Below.setCell ?_ (by simp <;> omega) _ | refine Below.alloc ?_ (by simp <;> omega) _ | refine Below.drew ?_))).mono ?_; rintro e w1 ⟨rfl, b1⟩
        have r : w1.heap[w.heap.size]? = some (.cells #[.int .i64 0, .int .i64 0, .string ⟨#[]⟩] 23 (0, 0)) := box_next (by repeat (first | (refine alloc_at ?_; simp; done) | refine alloc_old' ?_)) b1
        have rc0 : w1.cell? ⟨w.heap.size, 0, none⟩ = some (.int .i64 0) := by rw [Lib.cell_of_heap r]; rfl
        have rf0 : w1.frozen? ⟨w.heap.size, 0, none⟩ = false := Lib.frozen_of_heap r 0
        have rc1 : w1.cell? ⟨w.heap.size, 1, none⟩ = some (.int .i64 0) := by rw [Lib.cell_of_heap r]; rfl
        have rf1 : w1.frozen? ⟨w.heap.size, 1, none⟩ = false := Lib.frozen_of_heap r 1
        have rc2 : w1.cell? ⟨w.heap.size, 2, none⟩ = some (.string ⟨#[]⟩) := by rw [Lib.cell_of_heap r]; rfl
        have rf2 : w1.frozen? ⟨w.heap.size, 2, none⟩ = false := Lib.frozen_of_heap r 2
        have v : w1.heap[(w.heap.size + 1)]? = some (.cells #[.int .i64 0, .int .i64 0, .string ⟨#[]⟩] 23 (0, 0)) := box_next (by repeat (first | (refine alloc_at ?_; simp; done) | refine alloc_old' ?_)) b1
        have vc0 : w1.cell? ⟨(w.heap.size + 1), 0, none⟩ = some (.int .i64 0) := by rw [Lib.cell_of_heap v]; rfl
        have vf0 : w1.frozen? ⟨(w.heap.size + 1), 0, none⟩ = false := Lib.frozen_of_heap v 0
        have vc1 : w1.cell? ⟨(w.heap.size + 1), 1, none⟩ = some (.int .i64 0) := by rw [Lib.cell_of_heap v]; rfl
        have vf1 : w1.frozen? ⟨(w.heap.size + 1), 1, none⟩ = false := Lib.frozen_of_heap v 1
        have vc2 : w1.cell? ⟨(w.heap.size + 1), 2, none⟩ = some (.string ⟨#[]⟩) := by rw [Lib.cell_of_heap v]; rfl
        have vf2 : w1.frozen? ⟨(w.heap.size + 1), 2, none⟩ = false := Lib.frozen_of_heap v 2
        have B1 : Below w.heap.size w w1 := bthen (by repeat (first | exact Below.refl _ _ | refine Below.alloc ?_ (by simp <;> omega) _)) b1
        have hb2 := R1.out w1 (by repeat (first | (with_reducible exact Below.refl _ _) | (with_reducible assumption) | refine Below.setCell ?_ (by simp <;> omega) _ | refine Below.alloc ?_ (by simp <;> omega) _))
        rw [hE] at hb2
        go_wp2_with fail
        refine bodyPost_ret (v := .tuple #[vv ⟨0, 0, []⟩, .int .i64 0]) (by simp [results, Try.results40, go_sem, vv, rc0, rc1, rc2]) rfl ?_
        refine ⟨by rw [HGn.out]; rfl, ?_⟩
        repeat (first | (with_reducible exact Below.refl _ _) | (with_reducible assumption) | refine Below.setCell ?_ (by simp <;> omega) _ | refine Below.alloc ?_ (by simp <;> omega) _ | refine Below.drew ?_)
      | some p =>
        obtain ⟨u, k⟩ := p
        have hlt := getUAt_lt hu
        have hzb := zag_bounds u hlt.1
        have HGn : Hid (getV l (m : Int) = some (⟨1, zag u, []⟩, k + 1)) := Lib.hid (by rw [HG.out]; simp [hu])
        rw [hu] at HI
        simp only [resRI] at HI
        clear HG hu
        generalize zag u = z at *
        go_enter Try.func40, Try.ntmps40
        go_wp2_with fail
        refine (HI.out _ (by repeat (first | (with_reducible exact Below.refl _ _) | refine Below.setCell ?_ (by simp <;> omega) _ | refine Below.alloc ?_ (by simp <;> omega) _ | refine Below.drew ?_))).mono ?_; rintro e w1 ⟨rfl, b1⟩
        have r : w1.heap[w.heap.size]? = some (.cells #[.int .i64 0, .int .i64 0, .string ⟨#[]⟩] 23 (0, 0)) := box_next (by repeat (first | (refine alloc_at ?_; simp; done) | refine alloc_old' ?_)) b1
        have rc0 : w1.cell? ⟨w.heap.size, 0, none⟩ = some (.int .i64 0) := by rw [Lib.cell_of_heap r]; rfl
        have rf0 : w1.frozen? ⟨w.heap.size, 0, none⟩ = false := Lib.frozen_of_heap r 0
        have rc1 : w1.cell? ⟨w.heap.size, 1, none⟩ = some (.int .i64 0) := by rw [Lib.cell_of_heap r]; rfl
        have rf1 : w1.frozen? ⟨w.heap.size, 1, none⟩ = false := Lib.frozen_of_heap r 1
        have rc2 : w1.cell? ⟨w.heap.size, 2, none⟩ = some (.string ⟨#[]⟩) := by rw [Lib.cell_of_heap r]; rfl
        have rf2 : w1.frozen? ⟨w.heap.size, 2, none⟩ = false := Lib.frozen_of_heap r 2
        have v : w1.heap[(w.heap.size + 1)]? = some (.cells #[.int .i64 0, .int .i64 0, .string ⟨#[]⟩] 23 (0, 0)) := box_next (by repeat (first | (refine alloc_at ?_; simp; done) | refine alloc_old' ?_)) b1
        have vc0 : w1.cell? ⟨(w.heap.size + 1), 0, none⟩ = some (.int .i64 0) := by rw [Lib.cell_of_heap v]; rfl
        have vf0 : w1.frozen? ⟨(w.heap.size + 1), 0, none⟩ = false := Lib.frozen_of_heap v 0
        have vc1 : w1.cell? ⟨(w.heap.size + 1), 1, none⟩ = some (.int .i64 0) := by rw [Lib.cell_of_heap v]; rfl
        have vf1 : w1.frozen? ⟨(w.heap.size + 1), 1, none⟩ = false := Lib.frozen_of_heap v 1
        have vc2 : w1.cell? ⟨(w.heap.size + 1), 2, none⟩ = some (.string ⟨#[]⟩) := by rw [Lib.cell_of_heap v]; rfl
        have vf2 : w1.frozen? ⟨(w.heap.size + 1), 2, none⟩ = false := Lib.frozen_of_heap v 2
        have B1 : Below w.heap.size w w1 := bthen (by repeat (first | exact Below.refl _ _ | refine Below.alloc ?_ (by simp <;> omega) _)) b1
        have hb2 := R1.out (w1.setCell ⟨w.heap.size + 1, 1, none⟩ (.int .i64 z)) (by repeat (first | (with_reducible exact Below.refl _ _) | (with_reducible assumption) | refine Below.setCell ?_ (by simp <;> omega) _ | refine Below.alloc ?_ (by simp <;> omega) _))
        rw [hE] at hb2
        have hk0 : ((k : Int) == 0) = false := by simp; omega
        go_wp2_with fail
        refine (rright_any ⟨1, z, []⟩ _ (by simp)).mono ?_; rintro e w2 ⟨rfl, b2⟩
        rw [show right ⟨1, z, []⟩ = true by simp [right]]
        have X2 : w2.heap[w.heap.size + 1]? = some (.cells #[.int .i64 1, .int .i64 z, .string ⟨#[]⟩] 23 (0, 0)) := box_next (by first | exact row_set (row_set v) | exact row_set v | exact row_set (row_set (alloc_at (by simp))) | (refine alloc_at ?_; simp; done)) b2
        have Y2 : w2.heap[w.heap.size]? = some (.cells #[.int .i64 0, .int .i64 0, .string ⟨#[]⟩] 23 (0, 0)) := box_next (by first | exact row_other (row_other r (by omega)) (by omega) | exact row_other r (by omega) | exact row_other (row_other (alloc_old' (alloc_at rfl)) (by omega)) (by omega) | exact alloc_old' (alloc_at rfl)) b2
        have B2 : Below w.heap.size w w2 := bthen (by repeat (first | (with_reducible exact Below.refl _ _) | (with_reducible assumption) | refine Below.setCell ?_ (by simp <;> omega) _ | refine Below.alloc ?_ (by simp <;> omega) _)) b2
        have xc0 : w2.cell? ⟨w.heap.size + 1, 0, none⟩ = some (.int .i64 1) := by rw [Lib.cell_of_heap X2]; rfl
        have xf0 : w2.frozen? ⟨w.heap.size + 1, 0, none⟩ = false := Lib.frozen_of_heap X2 0
        have xc1 : w2.cell? ⟨w.heap.size + 1, 1, none⟩ = some (.int .i64 z) := by rw [Lib.cell_of_heap X2]; rfl
        have xf1 : w2.frozen? ⟨w.heap.size + 1, 1, none⟩ = false := Lib.frozen_of_heap X2 1
        have xc2 : w2.cell? ⟨w.heap.size + 1, 2, none⟩ = some (.string ⟨#[]⟩) := by rw [Lib.cell_of_heap X2]; rfl
        have xf2 : w2.frozen? ⟨w.heap.size + 1, 2, none⟩ = false := Lib.frozen_of_heap X2 2
        have yc0 : w2.cell? ⟨w.heap.size, 0, none⟩ = some (.int .i64 0) := by rw [Lib.cell_of_heap Y2]; rfl
        have yf0 : w2.frozen? ⟨w.heap.size, 0, none⟩ = false := Lib.frozen_of_heap Y2 0
        have yc1 : w2.cell? ⟨w.heap.size, 1, none⟩ = some (.int .i64 0) := by rw [Lib.cell_of_heap Y2]; rfl
        have yf1 : w2.frozen? ⟨w.heap.size, 1, none⟩ = false := Lib.frozen_of_heap Y2 1
        have yc2 : w2.cell? ⟨w.heap.size, 2, none⟩ = some (.string ⟨#[]⟩) := by rw [Lib.cell_of_heap Y2]; rfl
        have yf2 : w2.frozen? ⟨w.heap.size, 2, none⟩ = false := Lib.frozen_of_heap Y2 2
        clear X2 Y2 b2
        go_wp2_with fail
        refine bodyPost_ret (v := .tuple #[vv ⟨1, z, []⟩, .int .i64 ((k : Int) + 1)]) (by simp [results, Try.results40, go_sem, vv, xc0, xc1, xc2, yc0, yc1, yc2]) rfl ?_
        refine ⟨by rw [HGn.out]; simp only [resRV]; rw [show ((k : Int) + 1 = ((k + 1 : Nat) : Int)) from by omega], ?_⟩
        repeat (first | (with_reducible exact Below.refl _ _) | (with_reducible assumption) | refine Below.setCell ?_ (by simp <;> omega) _ | refine Below.alloc ?_ (by simp <;> omega) _ | refine Below.drew ?_)
    · by_cases h2 : hk = 2
      · subst h2
        by_cases hm2 : m + 1 < l.length
        · obtain ⟨j, hj⟩ : ∃ j, l[m + 1].toNat = j := ⟨_, rfl⟩
          have hj2 : j < 256 := by rw [← hj]; exact l[m + 1].toNat_lt
          have hgd : (l.getD (m + 1) 0).toNat = j := by rw [← hj]; simp [List.getD, hm2]
          have hgd2 : (l[m + 1]?.getD 0).toNat = j := by rw [← hj]; simp [hm2]
          have hd : decide ((m : Int) + 1 < (n : Int)) = true := by simp; omega
          have hb3 := R2.out ((w.alloc (.cells #[.int .i64 0, .int .i64 0, .string ⟨#[]⟩] 23)).alloc (.cells #[.int .i64 0, .int .i64 0, .string ⟨#[]⟩] 23)) (by repeat (first | (with_reducible exact Below.refl _ _) | refine Below.setCell ?_ (by simp <;> omega) _ | refine Below.alloc ?_ (by simp <;> omega) _ | refine Below.drew ?_)) hm2
          rw [hj] at hb3
          have hcell := fun W hW => (R2.out W hW hm2).trans (by rw [hj])
          clear hcell
          by_cases hj1 : j ≤ 1
          · have HGn : Hid (getV l (m : Int) = some (⟨2, (j : Nat), []⟩, 2)) := Lib.hid (by rw [HG.out]; simp [hgd2]; omega)
            clear HG hj hgd
            go_enter Try.func40, Try.ntmps40
            go_wp2_with fail
            try (have hb4 := R1.out (w.alloc (.cells #[.int .i64 0, .int .i64 0, .string ⟨#[]⟩] 23)) (by repeat (first | (with_reducible exact Below.refl _ _) | refine Below.setCell ?_ (by simp <;> omega) _ | refine Below.alloc ?_ (by simp <;> omega) _ | refine Below.drew ?_)))
            go_wp2_with fail
            refine (rright_any ⟨2, (j : Nat), []⟩ _ (by simp)).mono ?_; rintro e w2 ⟨rfl, b2⟩
            rw [show right ⟨2, (j : Nat), []⟩ = true by simp [right]; omega]
            have X2 : w2.heap[w.heap.size + 1]? = some (.cells #[.int .i64 2, .int .i64 (j : Nat), .string ⟨#[]⟩] 23 (0, 0)) := box_next (by first | exact row_set (row_set v) | exact row_set v | exact row_set (row_set (alloc_at (by simp))) | (refine alloc_at ?_; simp; done)) b2
            have Y2 : w2.heap[w.heap.size]? = some (.cells #[.int .i64 0, .int .i64 0, .string ⟨#[]⟩] 23 (0, 0)) := box_next (by first | exact row_other (row_other r (by omega)) (by omega) | exact row_other r (by omega) | exact row_other (row_other (alloc_old' (alloc_at rfl)) (by omega)) (by omega) | exact alloc_old' (alloc_at rfl)) b2
            have B2 : Below w.heap.size w w2 := bthen (by repeat (first | (with_reducible exact Below.refl _ _) | (with_reducible assumption) | refine Below.setCell ?_ (by simp <;> omega) _ | refine Below.alloc ?_ (by simp <;> omega) _)) b2
            have xc0 : w2.cell? ⟨w.heap.size + 1, 0, none⟩ = some (.int .i64 2) := by rw [Lib.cell_of_heap X2]; rfl
            have xf0 : w2.frozen? ⟨w.heap.size + 1, 0, none⟩ = false := Lib.frozen_of_heap X2 0
            have xc1 : w2.cell? ⟨w.heap.size + 1, 1, none⟩ = some (.int .i64 (j : Nat)) := by rw [Lib.cell_of_heap X2]; rfl
            have xf1 : w2.frozen? ⟨w.heap.size + 1, 1, none⟩ = false := Lib.frozen_of_heap X2 1
            have xc2 : w2.cell? ⟨w.heap.size + 1, 2, none⟩ = some (.string ⟨#[]⟩) := by rw [Lib.cell_of_heap X2]; rfl
            have xf2 : w2.frozen? ⟨w.heap.size + 1, 2, none⟩ = false := Lib.frozen_of_heap X2 2
            have yc0 : w2.cell? ⟨w.heap.size, 0, none⟩ = some (.int .i64 0) := by rw [Lib.cell_of_heap Y2]; rfl
            have yf0 : w2.frozen? ⟨w.heap.size, 0, none⟩ = false := Lib.frozen_of_heap Y2 0
            have yc1 : w2.cell? ⟨w.heap.size, 1, none⟩ = some (.int .i64 0) := by rw [Lib.cell_of_heap Y2]; rfl
            have yf1 : w2.frozen? ⟨w.heap.size, 1, none⟩ = false := Lib.frozen_of_heap Y2 1
            have yc2 : w2.cell? ⟨w.heap.size, 2, none⟩ = some (.string ⟨#[]⟩) := by rw [Lib.cell_of_heap Y2]; rfl
            have yf2 : w2.frozen? ⟨w.heap.size, 2, none⟩ = false := Lib.frozen_of_heap Y2 2
            clear X2 Y2 b2
            go_wp2_with fail
            refine bodyPost_ret (v := .tuple #[vv ⟨2, (j : Nat), []⟩, .int .i64 ((1 : Int) + 1)]) (by simp [results, Try.results40, go_sem, vv, xc0, xc1, xc2, yc0, yc1, yc2]) rfl ?_
            refine ⟨by rw [HGn.out]; simp only [resRV]; rw [show ((1 : Int) + 1 = ((2 : Nat) : Int)) from by omega], ?_⟩
            repeat (first | (with_reducible exact Below.refl _ _) | (with_reducible assumption) | refine Below.setCell ?_ (by simp <;> omega) _ | refine Below.alloc ?_ (by simp <;> omega) _ | refine Below.drew ?_)
          · have HGn : Hid (getV l (m : Int) = none) := Lib.hid (by rw [HG.out]; simp [hgd2]; omega)
            clear HG hj hgd
            go_enter Try.func40, Try.ntmps40
            go_wp2_with fail
            try (have hb4 := R1.out (w.alloc (.cells #[.int .i64 0, .int .i64 0, .string ⟨#[]⟩] 23)) (by repeat (first | (with_reducible exact Below.refl _ _) | refine Below.setCell ?_ (by simp <;> omega) _ | refine Below.alloc ?_ (by simp <;> omega) _ | refine Below.drew ?_)))
            go_wp2_with fail
            refine (rright_any ⟨2, (j : Nat), []⟩ _ (by simp)).mono ?_; rintro e w2 ⟨rfl, b2⟩
            rw [show right ⟨2, (j : Nat), []⟩ = false by simp [right]; omega]
            have X2 : w2.heap[w.heap.size + 1]? = some (.cells #[.int .i64 2, .int .i64 (j : Nat), .string ⟨#[]⟩] 23 (0, 0)) := box_next (by first | exact row_set (row_set v) | exact row_set v | exact row_set (row_set (alloc_at (by simp))) | (refine alloc_at ?_; simp; done)) b2
            have Y2 : w2.heap[w.heap.size]? = some (.cells #[.int .i64 0, .int .i64 0, .string ⟨#[]⟩] 23 (0, 0)) := box_next (by first | exact row_other (row_other r (by omega)) (by omega) | exact row_other r (by omega) | exact row_other (row_other (alloc_old' (alloc_at rfl)) (by omega)) (by omega) | exact alloc_old' (alloc_at rfl)) b2
            have B2 : Below w.heap.size w w2 := bthen (by repeat (first | (with_reducible exact Below.refl _ _) | (with_reducible assumption) | refine Below.setCell ?_ (by simp <;> omega) _ | refine Below.alloc ?_ (by simp <;> omega) _)) b2
            have xc0 : w2.cell? ⟨w.heap.size + 1, 0, none⟩ = some (.int .i64 2) := by rw [Lib.cell_of_heap X2]; rfl
            have xf0 : w2.frozen? ⟨w.heap.size + 1, 0, none⟩ = false := Lib.frozen_of_heap X2 0
            have xc1 : w2.cell? ⟨w.heap.size + 1, 1, none⟩ = some (.int .i64 (j : Nat)) := by rw [Lib.cell_of_heap X2]; rfl
            have xf1 : w2.frozen? ⟨w.heap.size + 1, 1, none⟩ = false := Lib.frozen_of_heap X2 1
            have xc2 : w2.cell? ⟨w.heap.size + 1, 2, none⟩ = some (.string ⟨#[]⟩) := by rw [Lib.cell_of_heap X2]; rfl
            have xf2 : w2.frozen? ⟨w.heap.size + 1, 2, none⟩ = false := Lib.frozen_of_heap X2 2
            have yc0 : w2.cell? ⟨w.heap.size, 0, none⟩ = some (.int .i64 0) := by rw [Lib.cell_of_heap Y2]; rfl
            have yf0 : w2.frozen? ⟨w.heap.size, 0, none⟩ = false := Lib.frozen_of_heap Y2 0
            have yc1 : w2.cell? ⟨w.heap.size, 1, none⟩ = some (.int .i64 0) := by rw [Lib.cell_of_heap Y2]; rfl
            have yf1 : w2.frozen? ⟨w.heap.size, 1, none⟩ = false := Lib.frozen_of_heap Y2 1
            have yc2 : w2.cell? ⟨w.heap.size, 2, none⟩ = some (.string ⟨#[]⟩) := by rw [Lib.cell_of_heap Y2]; rfl
            have yf2 : w2.frozen? ⟨w.heap.size, 2, none⟩ = false := Lib.frozen_of_heap Y2 2
            clear X2 Y2 b2
            go_wp2_with fail
            refine bodyPost_ret (v := .tuple #[vv ⟨0, 0, []⟩, .int .i64 0]) (by simp [results, Try.results40, go_sem, vv, xc0, xc1, xc2, yc0, yc1, yc2]) rfl ?_
            refine ⟨by rw [HGn.out]; rfl, ?_⟩
            repeat (first | (with_reducible exact Below.refl _ _) | (with_reducible assumption) | refine Below.setCell ?_ (by simp <;> omega) _ | refine Below.alloc ?_ (by simp <;> omega) _ | refine Below.drew ?_)
        · have hd : decide ((m : Int) + 1 < (n : Int)) = false := by simp; omega
          have HGn : Hid (getV l (m : Int) = none) := Lib.hid (by rw [HG.out]; simp; omega)
          clear HG
          go_enter Try.func40, Try.ntmps40
          go_wp2_with fail
          refine bodyPost_ret (v := .tuple #[vv ⟨0, 0, []⟩, .int .i64 0]) (by simp [results, Try.results40, go_sem, vv]) rfl ?_
          refine ⟨by rw [HGn.out]; rfl, ?_⟩
          repeat (first | (with_reducible exact Below.refl _ _) | (with_reducible assumption) | refine Below.setCell ?_ (by simp <;> omega) _ | refine Below.alloc ?_ (by simp <;> omega) _ | refine Below.drew ?_)
      · by_cases h3 : hk = 3
        · subst h3
          cases hu : getTAt l ((m : Int) + 1) 32 with
          | none =>
            have HGn : Hid (getV l (m : Int) = none) := Lib.hid (by rw [HG.out]; simp [hu])
            rw [hu] at HT
            simp only [resRT] at HT
            clear HG hu
            go_enter Try.func40, Try.ntmps40
            go_wp2_with fail
            refine (HT.out _ (by repeat (first | (with_reducible exact Below.refl _ _) | refine Below.setCell ?_ (by simp <;> omega) _ | refine Below.alloc ?_ (by simp <;> omega) _ | refine Below.drew ?_))).mono ?_; rintro e w1 ⟨rfl, b1⟩
            have r : w1.heap[w.heap.size]? = some (.cells #[.int .i64 0, .int .i64 0, .string ⟨#[]⟩] 23 (0, 0)) := box_next (by repeat (first | (refine alloc_at ?_; simp; done) | refine alloc_old' ?_)) b1
            have rc0 : w1.cell? ⟨w.heap.size, 0, none⟩ = some (.int .i64 0) := by rw [Lib.cell_of_heap r]; rfl
            have rf0 : w1.frozen? ⟨w.heap.size, 0, none⟩ = false := Lib.frozen_of_heap r 0
            have rc1 : w1.cell? ⟨w.heap.size, 1, none⟩ = some (.int .i64 0) := by rw [Lib.cell_of_heap r]; rfl
            have rf1 : w1.frozen? ⟨w.heap.size, 1, none⟩ = false := Lib.frozen_of_heap r 1
            have rc2 : w1.cell? ⟨w.heap.size, 2, none⟩ = some (.string ⟨#[]⟩) := by rw [Lib.cell_of_heap r]; rfl
            have rf2 : w1.frozen? ⟨w.heap.size, 2, none⟩ = false := Lib.frozen_of_heap r 2
            have v : w1.heap[(w.heap.size + 1)]? = some (.cells #[.int .i64 0, .int .i64 0, .string ⟨#[]⟩] 23 (0, 0)) := box_next (by repeat (first | (refine alloc_at ?_; simp; done) | refine alloc_old' ?_)) b1
            have vc0 : w1.cell? ⟨(w.heap.size + 1), 0, none⟩ = some (.int .i64 0) := by rw [Lib.cell_of_heap v]; rfl
            have vf0 : w1.frozen? ⟨(w.heap.size + 1), 0, none⟩ = false := Lib.frozen_of_heap v 0
            have vc1 : w1.cell? ⟨(w.heap.size + 1), 1, none⟩ = some (.int .i64 0) := by rw [Lib.cell_of_heap v]; rfl
            have vf1 : w1.frozen? ⟨(w.heap.size + 1), 1, none⟩ = false := Lib.frozen_of_heap v 1
            have vc2 : w1.cell? ⟨(w.heap.size + 1), 2, none⟩ = some (.string ⟨#[]⟩) := by rw [Lib.cell_of_heap v]; rfl
            have vf2 : w1.frozen? ⟨(w.heap.size + 1), 2, none⟩ = false := Lib.frozen_of_heap v 2
            have B1 : Below w.heap.size w w1 := bthen (by repeat (first | exact Below.refl _ _ | refine Below.alloc ?_ (by simp <;> omega) _)) b1
            have hb2 := R1.out w1 (by repeat (first | (with_reducible exact Below.refl _ _) | (with_reducible assumption) | refine Below.setCell ?_ (by simp <;> omega) _ | refine Below.alloc ?_ (by simp <;> omega) _))
            rw [hE] at hb2
            go_wp2_with fail
            refine bodyPost_ret (v := .tuple #[vv ⟨0, 0, []⟩, .int .i64 0]) (by simp [results, Try.results40, go_sem, vv, rc0, rc1, rc2]) rfl ?_
            refine ⟨by rw [HGn.out]; rfl, ?_⟩
            repeat (first | (with_reducible exact Below.refl _ _) | (with_reducible assumption) | refine Below.setCell ?_ (by simp <;> omega) _ | refine Below.alloc ?_ (by simp <;> omega) _ | refine Below.drew ?_)
          | some p =>
            obtain ⟨s, k⟩ := p
            have hlt := getTAt_len hu
            cases hp : plainL s
            · have HGn : Hid (getV l (m : Int) = none) := Lib.hid (by rw [HG.out]; simp [hu, hp])
              rw [hu] at HT
              simp only [resRT] at HT
              clear HG hu
              go_enter Try.func40, Try.ntmps40
              go_wp2_with fail
              refine (HT.out _ (by repeat (first | (with_reducible exact Below.refl _ _) | refine Below.setCell ?_ (by simp <;> omega) _ | refine Below.alloc ?_ (by simp <;> omega) _ | refine Below.drew ?_))).mono ?_; rintro e w1 ⟨rfl, b1⟩
              have r : w1.heap[w.heap.size]? = some (.cells #[.int .i64 0, .int .i64 0, .string ⟨#[]⟩] 23 (0, 0)) := box_next (by repeat (first | (refine alloc_at ?_; simp; done) | refine alloc_old' ?_)) b1
              have rc0 : w1.cell? ⟨w.heap.size, 0, none⟩ = some (.int .i64 0) := by rw [Lib.cell_of_heap r]; rfl
              have rf0 : w1.frozen? ⟨w.heap.size, 0, none⟩ = false := Lib.frozen_of_heap r 0
              have rc1 : w1.cell? ⟨w.heap.size, 1, none⟩ = some (.int .i64 0) := by rw [Lib.cell_of_heap r]; rfl
              have rf1 : w1.frozen? ⟨w.heap.size, 1, none⟩ = false := Lib.frozen_of_heap r 1
              have rc2 : w1.cell? ⟨w.heap.size, 2, none⟩ = some (.string ⟨#[]⟩) := by rw [Lib.cell_of_heap r]; rfl
              have rf2 : w1.frozen? ⟨w.heap.size, 2, none⟩ = false := Lib.frozen_of_heap r 2
              have v : w1.heap[(w.heap.size + 1)]? = some (.cells #[.int .i64 0, .int .i64 0, .string ⟨#[]⟩] 23 (0, 0)) := box_next (by repeat (first | (refine alloc_at ?_; simp; done) | refine alloc_old' ?_)) b1
              have vc0 : w1.cell? ⟨(w.heap.size + 1), 0, none⟩ = some (.int .i64 0) := by rw [Lib.cell_of_heap v]; rfl
              have vf0 : w1.frozen? ⟨(w.heap.size + 1), 0, none⟩ = false := Lib.frozen_of_heap v 0
              have vc1 : w1.cell? ⟨(w.heap.size + 1), 1, none⟩ = some (.int .i64 0) := by rw [Lib.cell_of_heap v]; rfl
              have vf1 : w1.frozen? ⟨(w.heap.size + 1), 1, none⟩ = false := Lib.frozen_of_heap v 1
              have vc2 : w1.cell? ⟨(w.heap.size + 1), 2, none⟩ = some (.string ⟨#[]⟩) := by rw [Lib.cell_of_heap v]; rfl
              have vf2 : w1.frozen? ⟨(w.heap.size + 1), 2, none⟩ = false := Lib.frozen_of_heap v 2
              have B1 : Below w.heap.size w w1 := bthen (by repeat (first | exact Below.refl _ _ | refine Below.alloc ?_ (by simp <;> omega) _)) b1
              have hb2 := R1.out (w1.setCell ⟨w.heap.size + 1, 2, none⟩ (.string ⟨s.toArray⟩)) (by repeat (first | (with_reducible exact Below.refl _ _) | (with_reducible assumption) | refine Below.setCell ?_ (by simp <;> omega) _ | refine Below.alloc ?_ (by simp <;> omega) _))
              rw [hE] at hb2
              have hk0 : ((k : Int) == 0) = false := by simp; omega
              go_wp2_with fail
              refine (rright_any ⟨3, 0, s⟩ _ (by simp; omega)).mono ?_; rintro e w2 ⟨rfl, b2⟩
              rw [show right ⟨3, 0, s⟩ = false by simp [right, hp]]
              have X2 : w2.heap[w.heap.size + 1]? = some (.cells #[.int .i64 3, .int .i64 0, .string ⟨s.toArray⟩] 23 (0, 0)) := box_next (by first | exact row_set (row_set v) | exact row_set v | exact row_set (row_set (alloc_at (by simp))) | (refine alloc_at ?_; simp; done)) b2
              have Y2 : w2.heap[w.heap.size]? = some (.cells #[.int .i64 0, .int .i64 0, .string ⟨#[]⟩] 23 (0, 0)) := box_next (by first | exact row_other (row_other r (by omega)) (by omega) | exact row_other r (by omega) | exact row_other (row_other (alloc_old' (alloc_at rfl)) (by omega)) (by omega) | exact alloc_old' (alloc_at rfl)) b2
              have B2 : Below w.heap.size w w2 := bthen (by repeat (first | (with_reducible exact Below.refl _ _) | (with_reducible assumption) | refine Below.setCell ?_ (by simp <;> omega) _ | refine Below.alloc ?_ (by simp <;> omega) _)) b2
              have xc0 : w2.cell? ⟨w.heap.size + 1, 0, none⟩ = some (.int .i64 3) := by rw [Lib.cell_of_heap X2]; rfl
              have xf0 : w2.frozen? ⟨w.heap.size + 1, 0, none⟩ = false := Lib.frozen_of_heap X2 0
              have xc1 : w2.cell? ⟨w.heap.size + 1, 1, none⟩ = some (.int .i64 0) := by rw [Lib.cell_of_heap X2]; rfl
              have xf1 : w2.frozen? ⟨w.heap.size + 1, 1, none⟩ = false := Lib.frozen_of_heap X2 1
              have xc2 : w2.cell? ⟨w.heap.size + 1, 2, none⟩ = some (.string ⟨s.toArray⟩) := by rw [Lib.cell_of_heap X2]; rfl
              have xf2 : w2.frozen? ⟨w.heap.size + 1, 2, none⟩ = false := Lib.frozen_of_heap X2 2
              have yc0 : w2.cell? ⟨w.heap.size, 0, none⟩ = some (.int .i64 0) := by rw [Lib.cell_of_heap Y2]; rfl
              have yf0 : w2.frozen? ⟨w.heap.size, 0, none⟩ = false := Lib.frozen_of_heap Y2 0
              have yc1 : w2.cell? ⟨w.heap.size, 1, none⟩ = some (.int .i64 0) := by rw [Lib.cell_of_heap Y2]; rfl
              have yf1 : w2.frozen? ⟨w.heap.size, 1, none⟩ = false := Lib.frozen_of_heap Y2 1
              have yc2 : w2.cell? ⟨w.heap.size, 2, none⟩ = some (.string ⟨#[]⟩) := by rw [Lib.cell_of_heap Y2]; rfl
              have yf2 : w2.frozen? ⟨w.heap.size, 2, none⟩ = false := Lib.frozen_of_heap Y2 2
              clear X2 Y2 b2
              go_wp2_with fail
              refine bodyPost_ret (v := .tuple #[vv ⟨0, 0, []⟩, .int .i64 0]) (by simp [results, Try.results40, go_sem, vv, xc0, xc1, xc2, yc0, yc1, yc2]) rfl ?_
              refine ⟨by rw [HGn.out]; rfl, ?_⟩
              repeat (first | (with_reducible exact Below.refl _ _) | (with_reducible assumption) | refine Below.setCell ?_ (by simp <;> omega) _ | refine Below.alloc ?_ (by simp <;> omega) _ | refine Below.drew ?_)
            · have HGn : Hid (getV l (m : Int) = some (⟨3, 0, s⟩, k + 1)) := Lib.hid (by rw [HG.out]; simp [hu, hp])
              rw [hu] at HT
              simp only [resRT] at HT
              clear HG hu
              go_enter Try.func40, Try.ntmps40
              go_wp2_with fail
              refine (HT.out _ (by repeat (first | (with_reducible exact Below.refl _ _) | refine Below.setCell ?_ (by simp <;> omega) _ | refine Below.alloc ?_ (by simp <;> omega) _ | refine Below.drew ?_))).mono ?_; rintro e w1 ⟨rfl, b1⟩
              have r : w1.heap[w.heap.size]? = some (.cells #[.int .i64 0, .int .i64 0, .string ⟨#[]⟩] 23 (0, 0)) := box_next (by repeat (first | (refine alloc_at ?_; simp; done) | refine alloc_old' ?_)) b1
              have rc0 : w1.cell? ⟨w.heap.size, 0, none⟩ = some (.int .i64 0) := by rw [Lib.cell_of_heap r]; rfl
              have rf0 : w1.frozen? ⟨w.heap.size, 0, none⟩ = false := Lib.frozen_of_heap r 0
              have rc1 : w1.cell? ⟨w.heap.size, 1, none⟩ = some (.int .i64 0) := by rw [Lib.cell_of_heap r]; rfl
              have rf1 : w1.frozen? ⟨w.heap.size, 1, none⟩ = false := Lib.frozen_of_heap r 1
              have rc2 : w1.cell? ⟨w.heap.size, 2, none⟩ = some (.string ⟨#[]⟩) := by rw [Lib.cell_of_heap r]; rfl
              have rf2 : w1.frozen? ⟨w.heap.size, 2, none⟩ = false := Lib.frozen_of_heap r 2
              have v : w1.heap[(w.heap.size + 1)]? = some (.cells #[.int .i64 0, .int .i64 0, .string ⟨#[]⟩] 23 (0, 0)) := box_next (by repeat (first | (refine alloc_at ?_; simp; done) | refine alloc_old' ?_)) b1
              have vc0 : w1.cell? ⟨(w.heap.size + 1), 0, none⟩ = some (.int .i64 0) := by rw [Lib.cell_of_heap v]; rfl
              have vf0 : w1.frozen? ⟨(w.heap.size + 1), 0, none⟩ = false := Lib.frozen_of_heap v 0
              have vc1 : w1.cell? ⟨(w.heap.size + 1), 1, none⟩ = some (.int .i64 0) := by rw [Lib.cell_of_heap v]; rfl
              have vf1 : w1.frozen? ⟨(w.heap.size + 1), 1, none⟩ = false := Lib.frozen_of_heap v 1
              have vc2 : w1.cell? ⟨(w.heap.size + 1), 2, none⟩ = some (.string ⟨#[]⟩) := by rw [Lib.cell_of_heap v]; rfl
              have vf2 : w1.frozen? ⟨(w.heap.size + 1), 2, none⟩ = false := Lib.frozen_of_heap v 2
              have B1 : Below w.heap.size w w1 := bthen (by repeat (first | exact Below.refl _ _ | refine Below.alloc ?_ (by simp <;> omega) _)) b1
              have hb2 := R1.out (w1.setCell ⟨w.heap.size + 1, 2, none⟩ (.string ⟨s.toArray⟩)) (by repeat (first | (with_reducible exact Below.refl _ _) | (with_reducible assumption) | refine Below.setCell ?_ (by simp <;> omega) _ | refine Below.alloc ?_ (by simp <;> omega) _))
              rw [hE] at hb2
              have hk0 : ((k : Int) == 0) = false := by simp; omega
              go_wp2_with fail
              refine (rright_any ⟨3, 0, s⟩ _ (by simp; omega)).mono ?_; rintro e w2 ⟨rfl, b2⟩
              rw [show right ⟨3, 0, s⟩ = true by simp [right, hp]]
              have X2 : w2.heap[w.heap.size + 1]? = some (.cells #[.int .i64 3, .int .i64 0, .string ⟨s.toArray⟩] 23 (0, 0)) := box_next (by first | exact row_set (row_set v) | exact row_set v | exact row_set (row_set (alloc_at (by simp))) | (refine alloc_at ?_; simp; done)) b2
              have Y2 : w2.heap[w.heap.size]? = some (.cells #[.int .i64 0, .int .i64 0, .string ⟨#[]⟩] 23 (0, 0)) := box_next (by first | exact row_other (row_other r (by omega)) (by omega) | exact row_other r (by omega) | exact row_other (row_other (alloc_old' (alloc_at rfl)) (by omega)) (by omega) | exact alloc_old' (alloc_at rfl)) b2
              have B2 : Below w.heap.size w w2 := bthen (by repeat (first | (with_reducible exact Below.refl _ _) | (with_reducible assumption) | refine Below.setCell ?_ (by simp <;> omega) _ | refine Below.alloc ?_ (by simp <;> omega) _)) b2
              have xc0 : w2.cell? ⟨w.heap.size + 1, 0, none⟩ = some (.int .i64 3) := by rw [Lib.cell_of_heap X2]; rfl
              have xf0 : w2.frozen? ⟨w.heap.size + 1, 0, none⟩ = false := Lib.frozen_of_heap X2 0
              have xc1 : w2.cell? ⟨w.heap.size + 1, 1, none⟩ = some (.int .i64 0) := by rw [Lib.cell_of_heap X2]; rfl
              have xf1 : w2.frozen? ⟨w.heap.size + 1, 1, none⟩ = false := Lib.frozen_of_heap X2 1
              have xc2 : w2.cell? ⟨w.heap.size + 1, 2, none⟩ = some (.string ⟨s.toArray⟩) := by rw [Lib.cell_of_heap X2]; rfl
              have xf2 : w2.frozen? ⟨w.heap.size + 1, 2, none⟩ = false := Lib.frozen_of_heap X2 2
              have yc0 : w2.cell? ⟨w.heap.size, 0, none⟩ = some (.int .i64 0) := by rw [Lib.cell_of_heap Y2]; rfl
              have yf0 : w2.frozen? ⟨w.heap.size, 0, none⟩ = false := Lib.frozen_of_heap Y2 0
              have yc1 : w2.cell? ⟨w.heap.size, 1, none⟩ = some (.int .i64 0) := by rw [Lib.cell_of_heap Y2]; rfl
              have yf1 : w2.frozen? ⟨w.heap.size, 1, none⟩ = false := Lib.frozen_of_heap Y2 1
              have yc2 : w2.cell? ⟨w.heap.size, 2, none⟩ = some (.string ⟨#[]⟩) := by rw [Lib.cell_of_heap Y2]; rfl
              have yf2 : w2.frozen? ⟨w.heap.size, 2, none⟩ = false := Lib.frozen_of_heap Y2 2
              clear X2 Y2 b2
              go_wp2_with fail
              refine bodyPost_ret (v := .tuple #[vv ⟨3, 0, s⟩, .int .i64 ((k : Int) + 1)]) (by simp [results, Try.results40, go_sem, vv, xc0, xc1, xc2, yc0, yc1, yc2]) rfl ?_
              refine ⟨by rw [HGn.out]; simp only [resRV]; rw [show ((k : Int) + 1 = ((k + 1 : Nat) : Int)) from by omega], ?_⟩
              repeat (first | (with_reducible exact Below.refl _ _) | (with_reducible assumption) | refine Below.setCell ?_ (by simp <;> omega) _ | refine Below.alloc ?_ (by simp <;> omega) _ | refine Below.drew ?_)
        · have HGn : Hid (getV l (m : Int) = none) := Lib.hid (by rw [HG.out]; simp [h1, h2, h3])
          clear HG
          have g1 : ((hk : Int) == 1) = false := by simp; omega
          have g2 : ((hk : Int) == 2) = false := by simp; omega
          have g3 : ((hk : Int) == 3) = false := by simp; omega
          go_enter Try.func40, Try.ntmps40
          go_wp2_with fail
          refine bodyPost_ret (v := .tuple #[vv ⟨0, 0, []⟩, .int .i64 0]) (by simp [results, Try.results40, go_sem, vv]) rfl ?_
          refine ⟨by rw [HGn.out]; rfl, ?_⟩
          repeat (first | (with_reducible exact Below.refl _ _) | (with_reducible assumption) | refine Below.setCell ?_ (by simp <;> omega) _ | refine Below.alloc ?_ (by simp <;> omega) _ | refine Below.drew ?_)
  · have HGn := Lib.hid (getV_out hin)
    rcases (show x < 0 ∨ (n : Int) ≤ x by omega) with hx | hx
    · have hx' : decide (x < 0) = true := by simpa using hx
      go_enter Try.func40, Try.ntmps40
      go_wp2_with fail
      refine bodyPost_ret (v := .tuple #[vv ⟨0, 0, []⟩, .int .i64 0]) (by simp [results, Try.results40, go_sem, vv]) rfl ?_
      refine ⟨by rw [HGn.out]; rfl, ?_⟩
      repeat (first | (with_reducible exact Below.refl _ _) | (with_reducible assumption) | refine Below.setCell ?_ (by simp <;> omega) _ | refine Below.alloc ?_ (by simp <;> omega) _ | refine Below.drew ?_)
    · have hx' : decide (x ≥ (n : Int)) = true := by simpa using hx
      have hx2 : decide (x < 0) = false := by simp; omega
      go_enter Try.func40, Try.ntmps40
      go_wp2_with fail
      refine bodyPost_ret (v := .tuple #[vv ⟨0, 0, []⟩, .int .i64 0]) (by simp [results, Try.results40, go_sem, vv]) rfl ?_
      refine ⟨by rw [HGn.out]; rfl, ?_⟩
      repeat (first | (with_reducible exact Below.refl _ _) | (with_reducible assumption) | refine Below.setCell ?_ (by simp <;> omega) _ | refine Below.alloc ?_ (by simp <;> omega) _ | refine Below.drew ?_)
end Go.Proofs.Ytpkoijlbbfffiaa.V
