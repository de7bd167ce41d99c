/- The walk of CdbLong. Printed by a program (wip/printlong.py). -/
import Derived.Test.YtpkljdjdapgmjaaDoorCh
import Derived.Deep.RegionHeld3
namespace Go.Proofs.YtpkljdjdapgmjaaDoor
open Go.RowKit
set_option linter.unusedVariables false

theorem in_blk (op : Int) (lba n : Nat) (w : World) : Calls Tryd.prog 13 #[.agg #[.int .i64 op, .int .i64 0, .int .i64 0, .bool false, .int .i64 0, .int .u64 (lba : Int), .int .i64 (n : Int)]] w fun e w' => e = .returned (.int .i64 (inB (blk op lba n))) ∧ Upd [] w w' := in_c (blk op lba n) w
theorem out_blk (op : Int) (lba n : Nat) (w : World) : Calls Tryd.prog 14 #[.agg #[.int .i64 op, .int .i64 0, .int .i64 0, .bool false, .int .i64 0, .int .u64 (lba : Int), .int .i64 (n : Int)]] w fun e w' => e = .returned (.int .i64 (outB (blk op lba n))) ∧ Upd [] w w' := out_c (blk op lba n) w

set_option maxRecDepth 20000 in
set_option maxHeartbeats 4000000 in
theorem long_cfalse (lba n : Nat) (hl : lba < 4294967296) (hn : n < 65536) (w : World) (hT : Tab w) :
    Calls Tryd.prog 4 #[.bool false, .int .u32 (lba : Int), .int .u16 (n : Int)] w fun e w' => e = .returned (.bool true) ∧ Upd [] w w' := by
  have HT := Lib.hid hT
  clear hT
  have i40 : inB (blk 40 lba n) = 64 * (n : Int) := bytes64 hn
  have i136 : inB (blk 136 lba n) = 64 * (n : Int) := bytes64 hn
  have o40 : outB (blk 40 lba n) = 0 := rfl
  have o136 : outB (blk 136 lba n) = 0 := rfl
  have ka : blk 40 lba n = ⟨40, 0, 0, false, 0, lba, (n : Int)⟩ := rfl
  have kb : blk 136 lba n = ⟨136, 0, 0, false, 0, lba, (n : Int)⟩ := rfl
  have HI := Lib.hid (And.intro i40 (And.intro i136 (And.intro o40 o136)))
  clear i40 i136 o40 o136
  have hA := (Blk.new w [.int .i64 40, .int .i64 0, .int .i64 0, .bool false, .int .i64 0, .int .u64 (lba : Int), .int .i64 (n : Int)] 30).alloc (.cells ([.int .i64 136, .int .i64 0, .int .i64 0, .bool false, .int .i64 0, .int .u64 (lba : Int), .int .i64 (n : Int)] : List Value).toArray 30)
  have hB := Blk.new (w.alloc (.cells ([.int .i64 40, .int .i64 0, .int .i64 0, .bool false, .int .i64 0, .int .u64 (lba : Int), .int .i64 (n : Int)] : List Value).toArray 30)) [.int .i64 136, .int .i64 0, .int .i64 0, .bool false, .int .i64 0, .int .u64 (lba : Int), .int .i64 (n : Int)] 30
  have hU0 := ((Upd.refl [] w).alloc (.cells ([.int .i64 40, .int .i64 0, .int .i64 0, .bool false, .int .i64 0, .int .u64 (lba : Int), .int .i64 (n : Int)] : List Value).toArray 30)).alloc (.cells ([.int .i64 136, .int .i64 0, .int .i64 0, .bool false, .int .i64 0, .int .u64 (lba : Int), .int .i64 (n : Int)] : List Value).toArray 30)
  have hsz : (w.alloc (.cells ([.int .i64 40, .int .i64 0, .int .i64 0, .bool false, .int .i64 0, .int .u64 (lba : Int), .int .i64 (n : Int)] : List Value).toArray 30)).heap.size = w.heap.size + 1 := by simp
  rw [hsz] at hB
  have HA := Lib.hid hA
  have HB := Lib.hid hB
  have HU0 := Lib.hid hU0
  clear hA hB hU0 hsz
  have e1 : IntKind.u64.wrap (lba : Int) = (lba : Int) := by rw [IntKind.wrap_u64]; omega
  go_enter Tryd.func4, Tryd.ntmps4
  go_wp2_with fail
  refine (build_c (blk 40 lba n) (blk_ok (by omega) hl hn) _ (HT.out.upd0 HU0.out)).mono ?_
  rintro e w1 ⟨r, rfl, v, rfl, hO, hU⟩
  rw [blk_build40 hl hn] at hO ⊢
  dsimp only at hO ⊢
  obtain ⟨x, hx⟩ : ∃ x, x = blkB 40 4 7 2 lba n := ⟨_, rfl⟩
  rw [← hx] at hO
  have hxl : x.length = 16 := by rw [hx]; rfl
  have hx0 : x[0]? = some 40 := by rw [hx]; rfl
  have hxp : parseB x = (0, blk 40 lba n) := by rw [hx]; exact blk_parse40 hl hn
  have HXP := Lib.hid hxp
  clear hx hxp
  have HA1 := Lib.hid (HA.out.upd0 hU)
  have HB1 := Lib.hid (HB.out.upd0 hU)
  have HU1 := Lib.hid (HU0.out.trans hU)
  clear HA HB HU0 hU
  obtain ⟨gx, ox, cx, rfl, _, hxm, hxc⟩ := hO.rb.open_pos (by omega)
  have cx0 := hxc 0 (by omega)
  rw [List.getElem?_eq_getElem (by omega)] at hx0
  injection hx0 with hx0
  rw [hx0] at cx0
  rw [hxl]
  have HOX := Lib.hid hO
  have HXL := Lib.hid hxl
  clear hxc hx0 hO hxl
  have d0 := HB1.out.cell 0 _ rfl
  have d1 := HB1.out.cell 1 _ rfl
  have d2 := HB1.out.cell 2 _ rfl
  have d3 := HB1.out.cell 3 _ rfl
  have d4 := HB1.out.cell 4 _ rfl
  have d5 := HB1.out.cell 5 _ rfl
  have d6 := HB1.out.cell 6 _ rfl
  go_wp2_with fail
  clear d0 d1 d2 d3 d4 d5 d6
  refine (build_c (blk 136 lba n) (blk_ok (by omega) hl hn) _ (HT.out.upd0 HU1.out)).mono ?_
  rintro e w2 ⟨r, rfl, v, rfl, hO, hU⟩
  rw [blk_build136 hl hn] at hO ⊢
  dsimp only at hO ⊢
  obtain ⟨y, hy⟩ : ∃ y, y = blkB 136 8 10 4 lba n := ⟨_, rfl⟩
  rw [← hy] at hO
  have hyl : y.length = 16 := by rw [hy]; rfl
  have hy0 : y[0]? = some 136 := by rw [hy]; rfl
  have hyp : parseB y = (0, blk 136 lba n) := by rw [hy]; exact blk_parse136 hl hn
  have HYP := Lib.hid hyp
  clear hy hyp
  have HA2 := Lib.hid (HA1.out.upd0 hU)
  have HB2 := Lib.hid (HB1.out.upd0 hU)
  have HU2 := Lib.hid (HU1.out.trans hU)
  have hox2 := HOX.out.rb.upd hU
  have cx2 := hU.cell_ cx0
  clear HA1 HB1 HU1 hU cx0
  obtain ⟨gy, oy, cy, rfl, _, hym, hyc⟩ := hO.rb.open_pos (by omega)
  have cy0 := hyc 0 (by omega)
  rw [List.getElem?_eq_getElem (by omega)] at hy0
  injection hy0 with hy0
  rw [hy0] at cy0
  rw [hyl]
  rw [HXL.out] at hox2
  have HOX2 := Lib.hid hox2
  have hoy := hO.rb
  rw [hyl] at hoy
  have HOY := Lib.hid hoy
  have HYL := Lib.hid hyl
  clear hyc hy0 hO hyl hoy hox2
  simp only [Nat.add_zero] at cx2 cy0
  have cx2' : w2.cell? ⟨gx, ox, none⟩ = some (.int .u8 40) := cx2
  have cy0' : w2.cell? ⟨gy, oy, none⟩ = some (.int .u8 136) := cy0
  clear cx2 cy0
  go_wp2_with fail
  refine (parse_c _ x _ HOX2.out (HT.out.upd0 HU2.out)).mono ?_
  rintro e w3 ⟨rfl, hU⟩
  rw [HXP.out, ka]
  unfold Cmd.val
  dsimp only
  have HC3 := Lib.hid (Blk.new w3 [.int .i64 40, .int .i64 0, .int .i64 0, .bool false, .int .i64 0, .int .u64 (lba : Int), .int .i64 (n : Int)] 30)
  have HA3 := Lib.hid ((HA2.out.upd0 hU).alloc (.cells ([.int .i64 40, .int .i64 0, .int .i64 0, .bool false, .int .i64 0, .int .u64 (lba : Int), .int .i64 (n : Int)] : List Value).toArray 30))
  have HB3 := Lib.hid ((HB2.out.upd0 hU).alloc (.cells ([.int .i64 40, .int .i64 0, .int .i64 0, .bool false, .int .i64 0, .int .u64 (lba : Int), .int .i64 (n : Int)] : List Value).toArray 30))
  have HU3 := Lib.hid ((HU2.out.trans hU).alloc (.cells ([.int .i64 40, .int .i64 0, .int .i64 0, .bool false, .int .i64 0, .int .u64 (lba : Int), .int .i64 (n : Int)] : List Value).toArray 30))
  have HOY3 := Lib.hid ((HOY.out.upd hU).alloc (.cells ([.int .i64 40, .int .i64 0, .int .i64 0, .bool false, .int .i64 0, .int .u64 (lba : Int), .int .i64 (n : Int)] : List Value).toArray 30))
  clear hU HA2 HB2 HU2 cx2' cy0'
  go_wp2_with fail
  refine (parse_c _ y _ HOY3.out (HT.out.upd0 HU3.out)).mono ?_
  rintro e w4 ⟨rfl, hU⟩
  rw [HYP.out, kb]
  unfold Cmd.val
  dsimp only
  have HC4 := Lib.hid ((HC3.out.upd0 hU).alloc (.cells ([.int .i64 136, .int .i64 0, .int .i64 0, .bool false, .int .i64 0, .int .u64 (lba : Int), .int .i64 (n : Int)] : List Value).toArray 30))
  have HD4 := Lib.hid (Blk.new w4 [.int .i64 136, .int .i64 0, .int .i64 0, .bool false, .int .i64 0, .int .u64 (lba : Int), .int .i64 (n : Int)] 30)
  have HA4 := Lib.hid ((HA3.out.upd0 hU).alloc (.cells ([.int .i64 136, .int .i64 0, .int .i64 0, .bool false, .int .i64 0, .int .u64 (lba : Int), .int .i64 (n : Int)] : List Value).toArray 30))
  have HB4 := Lib.hid ((HB3.out.upd0 hU).alloc (.cells ([.int .i64 136, .int .i64 0, .int .i64 0, .bool false, .int .i64 0, .int .u64 (lba : Int), .int .i64 (n : Int)] : List Value).toArray 30))
  have HU4 := Lib.hid ((HU3.out.trans hU).alloc (.cells ([.int .i64 136, .int .i64 0, .int .i64 0, .bool false, .int .i64 0, .int .u64 (lba : Int), .int .i64 (n : Int)] : List Value).toArray 30))
  clear hU HA3 HB3 HU3 HC3 HOY3 HOY HYP HXP
  go_wp2_with fail
  obtain ⟨W, hW⟩ : ∃ W, W = w4.alloc (.cells ([.int .i64 136, .int .i64 0, .int .i64 0, .bool false, .int .i64 0, .int .u64 (lba : Int), .int .i64 (n : Int)] : List Value).toArray 30) := ⟨_, rfl⟩
  rw [← hW] at HA4 HB4 HC4 HD4 HU4
  simp only [← hW]
  clear hW
  have wn : IntKind.i64.wrap (n : Int) = (n : Int) := by rw [IntKind.wrap_i64]; omega
  have wm : IntKind.i64.wrap (64 * (n : Int)) = 64 * (n : Int) := by rw [IntKind.wrap_i64]; omega
  have K : ∀ w', Upd [] W w' → (w'.cell? ⟨w.heap.size, 0, none⟩ = some (.int .i64 40) ∧ w'.cell? ⟨w.heap.size, 1, none⟩ = some (.int .i64 0) ∧ w'.cell? ⟨w.heap.size, 2, none⟩ = some (.int .i64 0) ∧ w'.cell? ⟨w.heap.size, 3, none⟩ = some (.bool false) ∧ w'.cell? ⟨w.heap.size, 4, none⟩ = some (.int .i64 0) ∧ w'.cell? ⟨w.heap.size, 5, none⟩ = some (.int .u64 (lba : Int)) ∧ w'.cell? ⟨w.heap.size, 6, none⟩ = some (.int .i64 (n : Int)) ∧ w'.cell? ⟨w.heap.size + 1, 0, none⟩ = some (.int .i64 136) ∧ w'.cell? ⟨w.heap.size + 1, 1, none⟩ = some (.int .i64 0) ∧ w'.cell? ⟨w.heap.size + 1, 2, none⟩ = some (.int .i64 0) ∧ w'.cell? ⟨w.heap.size + 1, 3, none⟩ = some (.bool false) ∧ w'.cell? ⟨w.heap.size + 1, 4, none⟩ = some (.int .i64 0) ∧ w'.cell? ⟨w.heap.size + 1, 5, none⟩ = some (.int .u64 (lba : Int)) ∧ w'.cell? ⟨w.heap.size + 1, 6, none⟩ = some (.int .i64 (n : Int)) ∧ w'.cell? ⟨w3.heap.size, 5, none⟩ = some (.int .u64 (lba : Int)) ∧ w'.cell? ⟨w3.heap.size, 6, none⟩ = some (.int .i64 (n : Int)) ∧ w'.cell? ⟨w4.heap.size, 5, none⟩ = some (.int .u64 (lba : Int)) ∧ w'.cell? ⟨w4.heap.size, 6, none⟩ = some (.int .i64 (n : Int)) ∧ Upd [] W w') := fun w' h => ⟨h.cell_ (HA4.out.cell 0 _ rfl), h.cell_ (HA4.out.cell 1 _ rfl), h.cell_ (HA4.out.cell 2 _ rfl), h.cell_ (HA4.out.cell 3 _ rfl), h.cell_ (HA4.out.cell 4 _ rfl), h.cell_ (HA4.out.cell 5 _ rfl), h.cell_ (HA4.out.cell 6 _ rfl), h.cell_ (HB4.out.cell 0 _ rfl), h.cell_ (HB4.out.cell 1 _ rfl), h.cell_ (HB4.out.cell 2 _ rfl), h.cell_ (HB4.out.cell 3 _ rfl), h.cell_ (HB4.out.cell 4 _ rfl), h.cell_ (HB4.out.cell 5 _ rfl), h.cell_ (HB4.out.cell 6 _ rfl), h.cell_ (HC4.out.cell 5 _ rfl), h.cell_ (HC4.out.cell 6 _ rfl), h.cell_ (HD4.out.cell 5 _ rfl), h.cell_ (HD4.out.cell 6 _ rfl), h⟩
  go_region_held3 (fun w' => w'.cell? ⟨w.heap.size, 0, none⟩ = some (.int .i64 40) ∧ w'.cell? ⟨w.heap.size, 1, none⟩ = some (.int .i64 0) ∧ w'.cell? ⟨w.heap.size, 2, none⟩ = some (.int .i64 0) ∧ w'.cell? ⟨w.heap.size, 3, none⟩ = some (.bool false) ∧ w'.cell? ⟨w.heap.size, 4, none⟩ = some (.int .i64 0) ∧ w'.cell? ⟨w.heap.size, 5, none⟩ = some (.int .u64 (lba : Int)) ∧ w'.cell? ⟨w.heap.size, 6, none⟩ = some (.int .i64 (n : Int)) ∧ w'.cell? ⟨w.heap.size + 1, 0, none⟩ = some (.int .i64 136) ∧ w'.cell? ⟨w.heap.size + 1, 1, none⟩ = some (.int .i64 0) ∧ w'.cell? ⟨w.heap.size + 1, 2, none⟩ = some (.int .i64 0) ∧ w'.cell? ⟨w.heap.size + 1, 3, none⟩ = some (.bool false) ∧ w'.cell? ⟨w.heap.size + 1, 4, none⟩ = some (.int .i64 0) ∧ w'.cell? ⟨w.heap.size + 1, 5, none⟩ = some (.int .u64 (lba : Int)) ∧ w'.cell? ⟨w.heap.size + 1, 6, none⟩ = some (.int .i64 (n : Int)) ∧ w'.cell? ⟨w3.heap.size, 5, none⟩ = some (.int .u64 (lba : Int)) ∧ w'.cell? ⟨w3.heap.size, 6, none⟩ = some (.int .i64 (n : Int)) ∧ w'.cell? ⟨w4.heap.size, 5, none⟩ = some (.int .u64 (lba : Int)) ∧ w'.cell? ⟨w4.heap.size, 6, none⟩ = some (.int .i64 (n : Int)) ∧ Upd [] W w')
    (first | exact K _ (Upd.refl _ _).drew | (refine K _ (Upd.trans ?_ hUc); go_split_ands; assumption))
    (first | (go_at_call 13; with_reducible refine (in_blk _ lba n _).mono ?_; rintro e w5 ⟨rfl, hUc⟩; (first | rw [HI.out.1] | rw [HI.out.2.1])) | (go_at_call 14; with_reducible refine (out_blk _ lba n _).mono ?_; rintro e w5 ⟨rfl, hUc⟩; (first | rw [HI.out.2.2.1] | rw [HI.out.2.2.2])) | (go_at_call 11; refine (known_c _ (by go_split_ands; exact HT.out.upd0 (HU4.out.trans (by assumption)))).mono ?_; rintro e w5 ⟨rfl, hUc⟩))
  go_wp2_with fail
  go_ret
  exact ⟨rfl, by go_split_ands; exact HU4.out.trans (by assumption)⟩

set_option maxRecDepth 20000 in
set_option maxHeartbeats 4000000 in
theorem long_ctrue (lba n : Nat) (hl : lba < 4294967296) (hn : n < 65536) (w : World) (hT : Tab w) :
    Calls Tryd.prog 4 #[.bool true, .int .u32 (lba : Int), .int .u16 (n : Int)] w fun e w' => e = .returned (.bool true) ∧ Upd [] w w' := by
  have HT := Lib.hid hT
  clear hT
  have i42 : inB (blk 42 lba n) = 0 := rfl
  have i138 : inB (blk 138 lba n) = 0 := rfl
  have o42 : outB (blk 42 lba n) = 64 * (n : Int) := bytes64 hn
  have o138 : outB (blk 138 lba n) = 64 * (n : Int) := bytes64 hn
  have ka : blk 42 lba n = ⟨42, 0, 0, false, 0, lba, (n : Int)⟩ := rfl
  have kb : blk 138 lba n = ⟨138, 0, 0, false, 0, lba, (n : Int)⟩ := rfl
  have HI := Lib.hid (And.intro i42 (And.intro i138 (And.intro o42 o138)))
  clear i42 i138 o42 o138
  have hA := (Blk.new w [.int .i64 42, .int .i64 0, .int .i64 0, .bool false, .int .i64 0, .int .u64 (lba : Int), .int .i64 (n : Int)] 30).alloc (.cells ([.int .i64 138, .int .i64 0, .int .i64 0, .bool false, .int .i64 0, .int .u64 (lba : Int), .int .i64 (n : Int)] : List Value).toArray 30)
  have hB := Blk.new (w.alloc (.cells ([.int .i64 42, .int .i64 0, .int .i64 0, .bool false, .int .i64 0, .int .u64 (lba : Int), .int .i64 (n : Int)] : List Value).toArray 30)) [.int .i64 138, .int .i64 0, .int .i64 0, .bool false, .int .i64 0, .int .u64 (lba : Int), .int .i64 (n : Int)] 30
  have hU0 := ((Upd.refl [] w).alloc (.cells ([.int .i64 42, .int .i64 0, .int .i64 0, .bool false, .int .i64 0, .int .u64 (lba : Int), .int .i64 (n : Int)] : List Value).toArray 30)).alloc (.cells ([.int .i64 138, .int .i64 0, .int .i64 0, .bool false, .int .i64 0, .int .u64 (lba : Int), .int .i64 (n : Int)] : List Value).toArray 30)
  have hsz : (w.alloc (.cells ([.int .i64 42, .int .i64 0, .int .i64 0, .bool false, .int .i64 0, .int .u64 (lba : Int), .int .i64 (n : Int)] : List Value).toArray 30)).heap.size = w.heap.size + 1 := by simp
  rw [hsz] at hB
  have HA := Lib.hid hA
  have HB := Lib.hid hB
  have HU0 := Lib.hid hU0
  clear hA hB hU0 hsz
  have e1 : IntKind.u64.wrap (lba : Int) = (lba : Int) := by rw [IntKind.wrap_u64]; omega
  go_enter Tryd.func4, Tryd.ntmps4
  go_wp2_with fail
  refine (build_c (blk 42 lba n) (blk_ok (by omega) hl hn) _ (HT.out.upd0 HU0.out)).mono ?_
  rintro e w1 ⟨r, rfl, v, rfl, hO, hU⟩
  rw [blk_build42 hl hn] at hO ⊢
  dsimp only at hO ⊢
  obtain ⟨x, hx⟩ : ∃ x, x = blkB 42 4 7 2 lba n := ⟨_, rfl⟩
  rw [← hx] at hO
  have hxl : x.length = 16 := by rw [hx]; rfl
  have hx0 : x[0]? = some 42 := by rw [hx]; rfl
  have hxp : parseB x = (0, blk 42 lba n) := by rw [hx]; exact blk_parse42 hl hn
  have HXP := Lib.hid hxp
  clear hx hxp
  have HA1 := Lib.hid (HA.out.upd0 hU)
  have HB1 := Lib.hid (HB.out.upd0 hU)
  have HU1 := Lib.hid (HU0.out.trans hU)
  clear HA HB HU0 hU
  obtain ⟨gx, ox, cx, rfl, _, hxm, hxc⟩ := hO.rb.open_pos (by omega)
  have cx0 := hxc 0 (by omega)
  rw [List.getElem?_eq_getElem (by omega)] at hx0
  injection hx0 with hx0
  rw [hx0] at cx0
  rw [hxl]
  have HOX := Lib.hid hO
  have HXL := Lib.hid hxl
  clear hxc hx0 hO hxl
  have d0 := HB1.out.cell 0 _ rfl
  have d1 := HB1.out.cell 1 _ rfl
  have d2 := HB1.out.cell 2 _ rfl
  have d3 := HB1.out.cell 3 _ rfl
  have d4 := HB1.out.cell 4 _ rfl
  have d5 := HB1.out.cell 5 _ rfl
  have d6 := HB1.out.cell 6 _ rfl
  go_wp2_with fail
  clear d0 d1 d2 d3 d4 d5 d6
  refine (build_c (blk 138 lba n) (blk_ok (by omega) hl hn) _ (HT.out.upd0 HU1.out)).mono ?_
  rintro e w2 ⟨r, rfl, v, rfl, hO, hU⟩
  rw [blk_build138 hl hn] at hO ⊢
  dsimp only at hO ⊢
  obtain ⟨y, hy⟩ : ∃ y, y = blkB 138 8 10 4 lba n := ⟨_, rfl⟩
  rw [← hy] at hO
  have hyl : y.length = 16 := by rw [hy]; rfl
  have hy0 : y[0]? = some 138 := by rw [hy]; rfl
  have hyp : parseB y = (0, blk 138 lba n) := by rw [hy]; exact blk_parse138 hl hn
  have HYP := Lib.hid hyp
  clear hy hyp
  have HA2 := Lib.hid (HA1.out.upd0 hU)
  have HB2 := Lib.hid (HB1.out.upd0 hU)
  have HU2 := Lib.hid (HU1.out.trans hU)
  have hox2 := HOX.out.rb.upd hU
  have cx2 := hU.cell_ cx0
  clear HA1 HB1 HU1 hU cx0
  obtain ⟨gy, oy, cy, rfl, _, hym, hyc⟩ := hO.rb.open_pos (by omega)
  have cy0 := hyc 0 (by omega)
  rw [List.getElem?_eq_getElem (by omega)] at hy0
  injection hy0 with hy0
  rw [hy0] at cy0
  rw [hyl]
  rw [HXL.out] at hox2
  have HOX2 := Lib.hid hox2
  have hoy := hO.rb
  rw [hyl] at hoy
  have HOY := Lib.hid hoy
  have HYL := Lib.hid hyl
  clear hyc hy0 hO hyl hoy hox2
  simp only [Nat.add_zero] at cx2 cy0
  have cx2' : w2.cell? ⟨gx, ox, none⟩ = some (.int .u8 42) := cx2
  have cy0' : w2.cell? ⟨gy, oy, none⟩ = some (.int .u8 138) := cy0
  clear cx2 cy0
  go_wp2_with fail
  refine (parse_c _ x _ HOX2.out (HT.out.upd0 HU2.out)).mono ?_
  rintro e w3 ⟨rfl, hU⟩
  rw [HXP.out, ka]
  unfold Cmd.val
  dsimp only
  have HC3 := Lib.hid (Blk.new w3 [.int .i64 42, .int .i64 0, .int .i64 0, .bool false, .int .i64 0, .int .u64 (lba : Int), .int .i64 (n : Int)] 30)
  have HA3 := Lib.hid ((HA2.out.upd0 hU).alloc (.cells ([.int .i64 42, .int .i64 0, .int .i64 0, .bool false, .int .i64 0, .int .u64 (lba : Int), .int .i64 (n : Int)] : List Value).toArray 30))
  have HB3 := Lib.hid ((HB2.out.upd0 hU).alloc (.cells ([.int .i64 42, .int .i64 0, .int .i64 0, .bool false, .int .i64 0, .int .u64 (lba : Int), .int .i64 (n : Int)] : List Value).toArray 30))
  have HU3 := Lib.hid ((HU2.out.trans hU).alloc (.cells ([.int .i64 42, .int .i64 0, .int .i64 0, .bool false, .int .i64 0, .int .u64 (lba : Int), .int .i64 (n : Int)] : List Value).toArray 30))
  have HOY3 := Lib.hid ((HOY.out.upd hU).alloc (.cells ([.int .i64 42, .int .i64 0, .int .i64 0, .bool false, .int .i64 0, .int .u64 (lba : Int), .int .i64 (n : Int)] : List Value).toArray 30))
  clear hU HA2 HB2 HU2 cx2' cy0'
  go_wp2_with fail
  refine (parse_c _ y _ HOY3.out (HT.out.upd0 HU3.out)).mono ?_
  rintro e w4 ⟨rfl, hU⟩
  rw [HYP.out, kb]
  unfold Cmd.val
  dsimp only
  have HC4 := Lib.hid ((HC3.out.upd0 hU).alloc (.cells ([.int .i64 138, .int .i64 0, .int .i64 0, .bool false, .int .i64 0, .int .u64 (lba : Int), .int .i64 (n : Int)] : List Value).toArray 30))
  have HD4 := Lib.hid (Blk.new w4 [.int .i64 138, .int .i64 0, .int .i64 0, .bool false, .int .i64 0, .int .u64 (lba : Int), .int .i64 (n : Int)] 30)
  have HA4 := Lib.hid ((HA3.out.upd0 hU).alloc (.cells ([.int .i64 138, .int .i64 0, .int .i64 0, .bool false, .int .i64 0, .int .u64 (lba : Int), .int .i64 (n : Int)] : List Value).toArray 30))
  have HB4 := Lib.hid ((HB3.out.upd0 hU).alloc (.cells ([.int .i64 138, .int .i64 0, .int .i64 0, .bool false, .int .i64 0, .int .u64 (lba : Int), .int .i64 (n : Int)] : List Value).toArray 30))
  have HU4 := Lib.hid ((HU3.out.trans hU).alloc (.cells ([.int .i64 138, .int .i64 0, .int .i64 0, .bool false, .int .i64 0, .int .u64 (lba : Int), .int .i64 (n : Int)] : List Value).toArray 30))
  clear hU HA3 HB3 HU3 HC3 HOY3 HOY HYP HXP
  go_wp2_with fail
  obtain ⟨W, hW⟩ : ∃ W, W = w4.alloc (.cells ([.int .i64 138, .int .i64 0, .int .i64 0, .bool false, .int .i64 0, .int .u64 (lba : Int), .int .i64 (n : Int)] : List Value).toArray 30) := ⟨_, rfl⟩
  rw [← hW] at HA4 HB4 HC4 HD4 HU4
  simp only [← hW]
  clear hW
  have wn : IntKind.i64.wrap (n : Int) = (n : Int) := by rw [IntKind.wrap_i64]; omega
  have wm : IntKind.i64.wrap (64 * (n : Int)) = 64 * (n : Int) := by rw [IntKind.wrap_i64]; omega
  have K : ∀ w', Upd [] W w' → (w'.cell? ⟨w.heap.size, 0, none⟩ = some (.int .i64 42) ∧ w'.cell? ⟨w.heap.size, 1, none⟩ = some (.int .i64 0) ∧ w'.cell? ⟨w.heap.size, 2, none⟩ = some (.int .i64 0) ∧ w'.cell? ⟨w.heap.size, 3, none⟩ = some (.bool false) ∧ w'.cell? ⟨w.heap.size, 4, none⟩ = some (.int .i64 0) ∧ w'.cell? ⟨w.heap.size, 5, none⟩ = some (.int .u64 (lba : Int)) ∧ w'.cell? ⟨w.heap.size, 6, none⟩ = some (.int .i64 (n : Int)) ∧ w'.cell? ⟨w.heap.size + 1, 0, none⟩ = some (.int .i64 138) ∧ w'.cell? ⟨w.heap.size + 1, 1, none⟩ = some (.int .i64 0) ∧ w'.cell? ⟨w.heap.size + 1, 2, none⟩ = some (.int .i64 0) ∧ w'.cell? ⟨w.heap.size + 1, 3, none⟩ = some (.bool false) ∧ w'.cell? ⟨w.heap.size + 1, 4, none⟩ = some (.int .i64 0) ∧ w'.cell? ⟨w.heap.size + 1, 5, none⟩ = some (.int .u64 (lba : Int)) ∧ w'.cell? ⟨w.heap.size + 1, 6, none⟩ = some (.int .i64 (n : Int)) ∧ w'.cell? ⟨w3.heap.size, 5, none⟩ = some (.int .u64 (lba : Int)) ∧ w'.cell? ⟨w3.heap.size, 6, none⟩ = some (.int .i64 (n : Int)) ∧ w'.cell? ⟨w4.heap.size, 5, none⟩ = some (.int .u64 (lba : Int)) ∧ w'.cell? ⟨w4.heap.size, 6, none⟩ = some (.int .i64 (n : Int)) ∧ Upd [] W w') := fun w' h => ⟨h.cell_ (HA4.out.cell 0 _ rfl), h.cell_ (HA4.out.cell 1 _ rfl), h.cell_ (HA4.out.cell 2 _ rfl), h.cell_ (HA4.out.cell 3 _ rfl), h.cell_ (HA4.out.cell 4 _ rfl), h.cell_ (HA4.out.cell 5 _ rfl), h.cell_ (HA4.out.cell 6 _ rfl), h.cell_ (HB4.out.cell 0 _ rfl), h.cell_ (HB4.out.cell 1 _ rfl), h.cell_ (HB4.out.cell 2 _ rfl), h.cell_ (HB4.out.cell 3 _ rfl), h.cell_ (HB4.out.cell 4 _ rfl), h.cell_ (HB4.out.cell 5 _ rfl), h.cell_ (HB4.out.cell 6 _ rfl), h.cell_ (HC4.out.cell 5 _ rfl), h.cell_ (HC4.out.cell 6 _ rfl), h.cell_ (HD4.out.cell 5 _ rfl), h.cell_ (HD4.out.cell 6 _ rfl), h⟩
  go_region_held3 (fun w' => w'.cell? ⟨w.heap.size, 0, none⟩ = some (.int .i64 42) ∧ w'.cell? ⟨w.heap.size, 1, none⟩ = some (.int .i64 0) ∧ w'.cell? ⟨w.heap.size, 2, none⟩ = some (.int .i64 0) ∧ w'.cell? ⟨w.heap.size, 3, none⟩ = some (.bool false) ∧ w'.cell? ⟨w.heap.size, 4, none⟩ = some (.int .i64 0) ∧ w'.cell? ⟨w.heap.size, 5, none⟩ = some (.int .u64 (lba : Int)) ∧ w'.cell? ⟨w.heap.size, 6, none⟩ = some (.int .i64 (n : Int)) ∧ w'.cell? ⟨w.heap.size + 1, 0, none⟩ = some (.int .i64 138) ∧ w'.cell? ⟨w.heap.size + 1, 1, none⟩ = some (.int .i64 0) ∧ w'.cell? ⟨w.heap.size + 1, 2, none⟩ = some (.int .i64 0) ∧ w'.cell? ⟨w.heap.size + 1, 3, none⟩ = some (.bool false) ∧ w'.cell? ⟨w.heap.size + 1, 4, none⟩ = some (.int .i64 0) ∧ w'.cell? ⟨w.heap.size + 1, 5, none⟩ = some (.int .u64 (lba : Int)) ∧ w'.cell? ⟨w.heap.size + 1, 6, none⟩ = some (.int .i64 (n : Int)) ∧ w'.cell? ⟨w3.heap.size, 5, none⟩ = some (.int .u64 (lba : Int)) ∧ w'.cell? ⟨w3.heap.size, 6, none⟩ = some (.int .i64 (n : Int)) ∧ w'.cell? ⟨w4.heap.size, 5, none⟩ = some (.int .u64 (lba : Int)) ∧ w'.cell? ⟨w4.heap.size, 6, none⟩ = some (.int .i64 (n : Int)) ∧ Upd [] W w')
    (first | exact K _ (Upd.refl _ _).drew | (refine K _ (Upd.trans ?_ hUc); go_split_ands; assumption))
    (first | (go_at_call 13; with_reducible refine (in_blk _ lba n _).mono ?_; rintro e w5 ⟨rfl, hUc⟩; (first | rw [HI.out.1] | rw [HI.out.2.1])) | (go_at_call 14; with_reducible refine (out_blk _ lba n _).mono ?_; rintro e w5 ⟨rfl, hUc⟩; (first | rw [HI.out.2.2.1] | rw [HI.out.2.2.2])) | (go_at_call 11; refine (known_c _ (by go_split_ands; exact HT.out.upd0 (HU4.out.trans (by assumption)))).mono ?_; rintro e w5 ⟨rfl, hUc⟩))
  go_wp2_with fail
  go_ret
  exact ⟨rfl, by go_split_ands; exact HU4.out.trans (by assumption)⟩
end Go.Proofs.YtpkljdjdapgmjaaDoor
