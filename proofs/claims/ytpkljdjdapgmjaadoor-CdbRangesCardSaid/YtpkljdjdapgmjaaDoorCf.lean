/- The law's known. -/
import Derived.Test.YtpkljdjdapgmjaaDoorCe
namespace Go.Proofs.YtpkljdjdapgmjaaDoor
open Go.RowKit
set_option linter.unusedVariables false
set_option linter.unusedSimpArgs false

def kn0 : List UInt8 := [40, 0, 0, 0, 0, 5, 0, 0, 2, 0, 0, 0, 0, 0, 0, 0]
def kn1 : List UInt8 := [40, 1, 0, 0, 0, 5, 0, 0, 2, 0, 0, 0, 0, 0, 0, 0]
theorem kn0_p : parseB kn0 = (0, ⟨40, 0, 0, false, 0, 5, 2⟩) := by kernel_rfl
theorem kn1_p : parseB kn1 = (11, zeroCmd) := by kernel_rfl
set_option maxHeartbeats 1000000 in
theorem known_c (w : World) (hT : Tab w) :
    Calls Tryd.prog 11 #[] w fun e w' => e = .returned (.bool true) ∧ Upd [] w w' := by
  have HT := Lib.hid hT
  clear hT
  go_enter Tryd.func11, Tryd.ntmps11
  go_wp2_with fail
  have b0 := Blk.new w (kn0.map bv) 5
  have r0 := RB.of_blk b0 0 16 16 kn0 rfl (by decide) (by decide) (by decide)
  refine (parse_c _ kn0 _ r0 (HT.out.upd0 ((Upd.refl _ _).alloc _))).mono ?_
  rintro e w1 ⟨rfl, hU⟩
  rw [kn0_p]
  have hb := b0.upd0 hU
  have HU := Lib.hid (((Upd.refl [] w).alloc (.cells (kn0.map bv).toArray 5)).trans hU)
  have HB := Lib.hid hb
  clear b0 r0 hU
  unfold Cmd.val
  dsimp only
  have c1 : ∀ o, (w1.alloc o).cell? ⟨w.heap.size, 1, none⟩ = some (.int .u8 0) := fun o => (HB.out.alloc o).cell 1 _ rfl
  have f1 : ∀ o, (w1.alloc o).frozen? ⟨w.heap.size, 1, none⟩ = false := fun o => (HB.out.alloc o).free 1
  clear hb
  go_wp2_with fail
  have hlt := HB.out.lt
  have hd : w1.heap.size ≠ w.heap.size := by omega
  have q0 := (Blk.new w1 [.int .i64 40, .int .i64 0, .int .i64 0, .bool false, .int .i64 0, .int .u64 5, .int .i64 2] 30).set_other ⟨w.heap.size, 1, none⟩ (.int .u8 1) hd
  have b1 : Blk ((w1.alloc (.cells #[.int .i64 40, .int .i64 0, .int .i64 0, .bool false, .int .i64 0, .int .u64 5, .int .i64 2] 30)).setCell ⟨w.heap.size, 1, none⟩ (.int .u8 1)) w.heap.size (kn1.map bv) 5 := (HB.out.alloc _).set 1 (.int .u8 1)
  have u1 : Upd [] w ((w1.alloc (.cells #[.int .i64 40, .int .i64 0, .int .i64 0, .bool false, .int .i64 0, .int .u64 5, .int .i64 2] 30)).setCell ⟨w.heap.size, 1, none⟩ (.int .u8 1)) := (HU.out.alloc _).setCell (.inr (Nat.le_refl _)) _
  refine (parse_c _ kn1 _ (RB.of_blk b1 0 16 16 kn1 rfl (by decide) (by decide) (by decide)) (HT.out.upd0 u1)).mono ?_
  rintro e w2 ⟨rfl, h2⟩
  rw [kn1_p]
  have q1 := q0.upd0 h2
  have HQ := Lib.hid q1
  have HU2 := Lib.hid (u1.trans h2)
  clear q0 b1 u1 h2 c1 f1 q1 HU HB
  unfold Cmd.val
  dsimp only
  have y0 := fun o => (HQ.out.alloc o).cell 0 _ rfl
  have y1 := fun o => (HQ.out.alloc o).cell 1 _ rfl
  have y2 := fun o => (HQ.out.alloc o).cell 2 _ rfl
  have y3 := fun o => (HQ.out.alloc o).cell 3 _ rfl
  have y4 := fun o => (HQ.out.alloc o).cell 4 _ rfl
  have y5 := fun o => (HQ.out.alloc o).cell 5 _ rfl
  have y6 := fun o => (HQ.out.alloc o).cell 6 _ rfl
  go_wp2_with fail
  refine (in_c ⟨40, 0, 0, false, 0, 5, 2⟩ _).mono ?_
  rintro e w3 ⟨rfl, h3⟩
  have hi : inB ⟨40, 0, 0, false, 0, 5, 2⟩ = 128 := by decide
  rw [hi]
  have HU3 := Lib.hid ((HU2.out.alloc (.cells #[.int .i64 0, .int .i64 0, .int .i64 0, .bool false, .int .i64 0, .int .u64 0, .int .i64 0] 30)).trans h3)
  clear h3 y0 y1 y2 y3 y4 y5 y6
  go_wp2_with fail
  go_ret
  exact ⟨rfl, HU3.out⟩
end Go.Proofs.YtpkljdjdapgmjaaDoor
