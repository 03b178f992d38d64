/- WalScans' walk. -/
import Derived.Test.YtkcehoejcklmfaaWalRef3
namespace Go.Proofs.Ytkcehoejcklmfaa.walScans
open Go.RowKit O L K

set_option maxRecDepth 100000 in
set_option maxHeartbeats 4000000 in
theorem walk (A : Option Addr) (n c : Nat) (l : List UInt8) (x : Int) (w : World) (h1 : IsB w A n c l) (hx : (Lit.int .u32 x).wf = true) :
    Calls Try.prog 9 #[.slice A n c, .int .u32 x] w fun e w' => e = .returned (.bool true) ∧ Below w.heap.size w w' := by
  obtain ⟨x1, x2⟩ := bounds_u32 hx
  obtain ⟨g, rfl⟩ := Int.eq_ofNat_of_zero_le x1
  have hg : g < 4294967296 := by omega
  have hcc := h1.2.2
  unfold maxLen at hcc
  clear hx x1 x2
  have H1 := Lib.hid h1; clear h1
  go_enter Try.func9, Try.ntmps9
  go_wp2_with fail
  refine (L.cut_any A n c l w H1.out).mono ?_; rintro e w1 ⟨y, rfl, hx300, hxc, hr, rfl⟩
  generalize hl' : l.take 300 = l' at hr
  clear hl'
  have hxl : l'.length = y := by have := hr.1; simp at this; omega
  have hll : l'.length ≤ 300 := by omega
  have Hhxl := Lib.hid hxl; clear hxl
  have Hhr := Lib.hid hr; clear hr
  go_wp2_with fail
  refine (scan_any A y c g l' _ Hhr.out hxc (by omega) (by omega) hg).mono ?_; rintro e w2 ⟨A2, n2, c2, xs2, rfl, o2, r2, b2⟩
  have q2 := O.strq (c := c) (Hhr.out.next b2)
  have hn2 : (scanFrom l' g 0).1.length = n2 := (Rd.of_own o2).len_of SlU.size r2 (by omega)
  have hrl := scan_rows l' g (by omega)
  have Ho2 := Lib.hid o2; clear o2
  have Hr2 := Lib.hid r2; clear r2
  have Hb2 := Lib.hid b2; clear b2
  go_wp2_with fail
  clear q2
  refine (rscan_any l' g _ (by omega) hg).mono ?_; rintro e w3 ⟨A3, n3, c3, rfl, o3, b3⟩
  generalize scanFrom l' g 0 = R at *
  have hRn : R.1.length ≤ 300 := by omega
  have hnn : n2 ≤ 300 := by omega
  clear hn2 hrl
  have Ho3 := Lib.hid o3; clear o3
  have Hb3 := Lib.hid b3; clear b3
  go_wp2_with fail
  refine (rsame_any A2 n2 c2 A3 n3 c3 R.1 xs2 _ ((Rd.of_own Ho2.out).next Hb3.out) (Hr2.out.imp (SlU.keep (KeepU.of_below Hb3.out))) (Rd.of_own Ho3.out) (by omega)).mono ?_; rintro e w4 ⟨rfl, b4⟩
  go_wp2_with fail
  refine (L.lives_any _).mono ?_; rintro e w5 ⟨rfl, b5⟩
  go_wp2_with fail
  go_ret
  exact ⟨rfl, bthen Hb2.out (bthen Hb3.out (bthen b4 b5))⟩
end Go.Proofs.Ytkcehoejcklmfaa.walScans
