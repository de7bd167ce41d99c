/- The contract of the reference's Parse (caissonref15). Printed by a program (wip/printrf.py). -/
import Derived.Test.YtpkljdjdapgmjaaDoorRd
import Derived.Test.YtpkljdjdapgmjaaDoorRc
import Derived.Test.YtpkljdjdapgmjaaDoorLa
import Derived.Laws.StructEq
namespace Go.Proofs.YtpkljdjdapgmjaaDoor
open Go.RowKit
set_option linter.unusedVariables false
set_option linter.unusedSimpArgs false

theorem bstr_beq {a b : List UInt8} (h : a ≠ b) : (bstr a == bstr b) = false := by
  rw [beq_toListBytes, ByteArray.toList_eq, ByteArray.toList_eq]
  simpa [bstr] using h
theorem bstr_tl {a b : List UInt8} (h : a ≠ b) : ((bstr a).toList == (bstr b).toList) = false := by rw [← beq_toListBytes]; exact bstr_beq h
theorem bstr_bne {a b : List UInt8} (h : a ≠ b) : (bstr a != bstr b) = true := by
  unfold bne
  rw [bstr_beq h]; rfl
theorem getD_set (vs : List Nat) (i j x : Nat) (hi : i < vs.length) : (vs.set i x).getD j 0 = if i = j then x else vs.getD j 0 := by
  simp only [List.getD_eq_getElem?_getD, List.getElem?_set]
  split
  · rename_i h; subst h; simp [hi]
  · rfl
theorem readB_getD (l : List (Nat × Nat × Nat)) (bs : List UInt8) (k j : Nat) (hk : k ≤ 6) : (readB l bs k).getD j 0 = if j < k then getB (l.getD j (0, 0, 0)) bs else 0 := by
  induction k with
  | zero =>
    rw [if_neg (by omega), readB, List.getD_eq_getElem?_getD, List.getElem?_replicate]
    split <;> rfl
  | succ k ih =>
    have ih := ih (by omega)
    rw [readB]
    split
    · rename_i hz
      rw [ih]
      by_cases h : j < k
      · rw [if_pos h, if_pos (by omega)]
      · rw [if_neg h]
        by_cases h2 : j = k
        · subst h2; rw [if_pos (by omega)]; unfold getB; rw [if_pos hz]
        · rw [if_neg (by omega)]
    · rename_i hz
      rw [getD_set _ _ _ _ (by rw [readB_length]; omega)]
      by_cases h2 : k = j
      · subst h2; rw [if_pos rfl, if_pos (by omega)]; unfold getB; rw [if_neg hz]
      · rw [if_neg h2, ih]
        by_cases h : j < k
        · rw [if_pos h, if_pos (by omega)]
        · rw [if_neg h, if_neg (by omega)]

set_option maxRecDepth 20000 in
set_option maxHeartbeats 4000000 in
theorem rparse_c (v : Value) (bs : List UInt8) (w : World) (hb : RB w v bs) :
    Calls Tryd.prog 16 #[v] w fun e w' => e = .returned (.tuple #[(parseB bs).2.val, .int .i64 (parseB bs).1]) ∧ Upd [] w w' := by
  have HBB := Lib.hid hb
  by_cases h16 : bs.length = 16
  · obtain ⟨g0, off, cap, rfl, hlc, hcm, hc⟩ := hb.open_pos (by omega)
    obtain ⟨x, hx⟩ : ∃ x, x = bs.getD 0 0 := ⟨_, rfl⟩
    have c0 : w.cell? ⟨g0, off, none⟩ = some (.int .u8 (x.toNat : Int)) := by
      have := hc 0 (by omega)
      rw [hx, List.getD_eq_getElem?_getD, List.getElem?_eq_getElem (show 0 < bs.length by omega)]
      simpa using this
    have HX := Lib.hid hx
    have HL := Lib.hid h16
    have hne : ((bs.length : Int) != 16) = false := by rw [h16]; rfl
    have hpos : 0 < bs.length := by omega
    have hxl := x.toNat_lt
    have C0 := Lib.hid c0
    have hl0 : ∀ o, (w.alloc o).cell? ⟨g0, off, none⟩ = some (.int .u8 (x.toNat : Int)) := fun o => ((Upd.refl [] w).alloc o).cell_ c0
    obtain ⟨cs, hcs⟩ : ∃ cs, cs = (placeCells (rowL x.toNat)).toArray := ⟨_, rfl⟩
    have hrl : (rowL x.toNat).length = 6 := by
      unfold rowL
      cases hp : placesOf x.toNat with
      | none => rfl
      | some l => exact (placesOf_ok hp).1
    obtain ⟨h18, h1⟩ := placeCells_row hrl
    rw [← hcs] at h18 h1
    have H18 := Lib.hid h18
    have H1 := Lib.hid h1
    have HCS := Lib.hid hcs
    have hW0 := (Blk.new w [.int .i64 0, .int .i64 0, .int .i64 0, .bool false, .int .i64 0, .int .u64 0, .int .i64 0] 24)
    have HW0 := Lib.hid hW0
    have HU0 := Lib.hid ((Upd.refl [] w).alloc (.cells ([.int .i64 0, .int .i64 0, .int .i64 0, .bool false, .int .i64 0, .int .u64 0, .int .i64 0] : List Value).toArray 24))
    clear hc c0 hx h16 hb hcs hrl h18 h1 hW0
    cases hp : placesOf x.toNat with
    | none =>
      have hpp : parseB bs = (1, zeroCmd) := by unfold parseB; rw [if_pos HL.out, ← HX.out, hp]
      have HP := Lib.hid hpp
      have HPL := Lib.hid hp
      clear hpp hp
      go_enter Tryd.func16, Tryd.ntmps16
      go_wp2_with fail
      refine (rowOf_c x.toNat _).mono ?_
      rintro e w1 ⟨rfl, hU⟩
      rw [HPL.out, ← HCS.out]
      have HU := Lib.hid hU
      clear hU hl0
      go_wp2_with (first | (with_reducible refine wpList_store_new rfl rfl _ _ (.tmp 19) rfl _ cs _ ?qx ?qy ?q1 ?q2 ?q3 ?_) | (with_reducible refine wpList_store_blk rfl rfl 24 (.tmp 2) (.tmp 23) rfl w.heap.size _ [.int .i64 0, .int .i64 0, .int .i64 0, .bool false, .int .i64 0, .int .u64 0, .int .i64 0] _ ?h1_1 ?h1_2 ((HW0.out.upd0 HU.out).alloc _) ?h1_3 ?h1_4 ?h1_5 ?_))
      case qx => rfl
      case qy => rfl
      case q1 => rw [H18.out]; exact rowSizeR
      case q2 => rw [H18.out]; rfl
      case q3 => exact H1.out
      case h1_1 => rfl
      case h1_2 => rfl
      case h1_3 => exact cdbSizeR
      case h1_4 => rfl
      case h1_5 => kernel_rfl
      intro W h1 h2
      have z0 := h1.cell 0 _ rfl
      have z1 := h1.cell 1 _ rfl
      have z2 := h1.cell 2 _ rfl
      have z3 := h1.cell 3 _ rfl
      have z4 := h1.cell 4 _ rfl
      have z5 := h1.cell 5 _ rfl
      have z6 := h1.cell 6 _ rfl
      go_wp2_with fail
      refine bodyPost_ret (v := .tuple #[zeroCmd.val, .int .i64 1]) (by simp [results, Tryd.results16, go_sem, Cmd.val, zeroCmd, z0, z1, z2, z3, z4, z5, z6]) rfl ?_
      rw [HP.out]
      exact ⟨rfl, ((HU0.out.trans HU.out).alloc _).trans' h2 (by simp)⟩
    | some l =>
      obtain ⟨hl6, hlok⟩ := placesOf_ok hp
      have hrow : rowL x.toNat = l := by unfold rowL; rw [hp]; rfl
      have HP := Lib.hid hp
      have HROW := Lib.hid hrow
      obtain ⟨⟨a0, s0, b0⟩, ⟨a1, s1, b1⟩, ⟨a2, s2, b2⟩, ⟨a3, s3, b3⟩, ⟨a4, s4, b4⟩, ⟨a5, s5, b5⟩, hl⟩ := list6 l hl6
      have HOK := Lib.hid hlok
      have HL6 := Lib.hid hl
      have HL6' := Lib.hid hl6
      rw [hrow] at HCS
      rw [hl] at HCS
      clear hp hl6 hlok hrow
      obtain ⟨n0, hn0⟩ : ∃ n, n = getB (a0, s0, b0) bs := ⟨_, rfl⟩
      obtain ⟨n1, hn1⟩ : ∃ n, n = getB (a1, s1, b1) bs := ⟨_, rfl⟩
      obtain ⟨n2, hn2⟩ : ∃ n, n = getB (a2, s2, b2) bs := ⟨_, rfl⟩
      obtain ⟨n3, hn3⟩ : ∃ n, n = getB (a3, s3, b3) bs := ⟨_, rfl⟩
      obtain ⟨n4, hn4⟩ : ∃ n, n = getB (a4, s4, b4) bs := ⟨_, rfl⟩
      obtain ⟨n5, hn5⟩ : ∃ n, n = getB (a5, s5, b5) bs := ⟨_, rfl⟩
      have HN := Lib.hid (And.intro hn0 (And.intro hn1 (And.intro hn2 (And.intro hn3 (And.intro hn4 hn5)))))
      clear hn0 hn1 hn2 hn3 hn4 hn5 hl
      go_enter Tryd.func16, Tryd.ntmps16
      go_wp2_with fail
      refine (rowOf_c x.toNat _).mono ?_
      rintro e w1 ⟨rfl, hU⟩
      rw [HP.out]
      have hro : (placeCells (rowL x.toNat)).toArray = cs := by rw [HROW.out, HL6.out, HCS.out]
      rw [hro]
      clear hro
      have HU1 := Lib.hid (HU0.out.trans hU)
      have HW1 := Lib.hid (HW0.out.upd0 hU)
      have hR := Blk.new w1 (placeCells [(a0, s0, b0), (a1, s1, b1), (a2, s2, b2), (a3, s3, b3), (a4, s4, b4), (a5, s5, b5)]) 81
      rw [← HCS.out] at hR
      have HR1 := Lib.hid hR
      have hgw : w.heap.size ≠ w1.heap.size + 1 := by have := HU1.out.size; omega
      have hgr : w1.heap.size ≠ w1.heap.size + 1 := by omega
      have HGW := Lib.hid hgw
      have HGR := Lib.hid hgr
      have c0a : ∀ o, (w1.alloc o).cell? ⟨g0, off, none⟩ = some (.int .u8 (x.toNat : Int)) := fun o => (HU1.out.alloc o).cell_ C0.out
      have y0 := fun o => (HR1.out.alloc o).cell 0 _ rfl
      have y1 := fun o => (HR1.out.alloc o).cell 1 _ rfl
      have y2 := fun o => (HR1.out.alloc o).cell 2 _ rfl
      clear hU hl0 hR hgw hgr
      go_wp2_with (with_reducible refine wpList_store_new rfl rfl _ _ (.tmp 19) rfl _ cs _ ?qx ?qy ?q1 ?q2 ?q3 ?_)
      case qx => rfl
      case qy => rfl
      case q1 => rw [H18.out]; exact rowSizeR
      case q2 => rw [H18.out]; rfl
      case q3 => exact H1.out
      go_wp2_with fail
      clear c0a y0 y1 y2
      have hG := Blk.new (w1.alloc (.cells cs 81)) [.int .i64 (x.toNat : Int), .int .i64 0, .int .i64 0, .bool false, .int .i64 0, .int .u64 0, .int .i64 0] 24
      rw [World.size_alloc] at hG
      have G0 := Lib.hid hG
      have U0 := Lib.hid ((HU1.out.alloc (.cells cs 81)).alloc (.cells ([.int .i64 (x.toNat : Int), .int .i64 0, .int .i64 0, .bool false, .int .i64 0, .int .u64 0, .int .i64 0] : List Value).toArray 24))
      have R0 := Lib.hid (HR1.out.alloc (.cells ([.int .i64 (x.toNat : Int), .int .i64 0, .int .i64 0, .bool false, .int .i64 0, .int .u64 0, .int .i64 0] : List Value).toArray 24))
      have W0 := Lib.hid ((HW1.out.alloc (.cells cs 81)).alloc (.cells ([.int .i64 (x.toNat : Int), .int .i64 0, .int .i64 0, .bool false, .int .i64 0, .int .u64 0, .int .i64 0] : List Value).toArray 24))
      have hsz : w.heap.size ≤ w1.heap.size + 1 := by have := HU1.out.size; omega
      clear hG
      refine (rfield_c _ bs (a0, s0, b0) _ (HBB.out.upd U0.out) (HOK.out _ (by rw [HL6.out]; simp)) HL.out).mono ?_
      rintro e v0 ⟨rfl, hU⟩
      rw [← HN.out.1]
      have G0a := Lib.hid (G0.out.upd0 hU)
      have U0a := Lib.hid (U0.out.trans hU)
      have R0a := Lib.hid (R0.out.upd0 hU)
      have W0a := Lib.hid (W0.out.upd0 hU)
      clear hU G0 U0 R0 W0
      have c0 := G0a.out.cell 1 _ rfl
      have f0 := G0a.out.free 1
      have y0 := fun u => (R0a.out.set_other ⟨w1.heap.size + 1, 1, none⟩ u HGR.out).cell 3 _ rfl
      have y1 := fun u => (R0a.out.set_other ⟨w1.heap.size + 1, 1, none⟩ u HGR.out).cell 4 _ rfl
      have y2 := fun u => (R0a.out.set_other ⟨w1.heap.size + 1, 1, none⟩ u HGR.out).cell 5 _ rfl
      go_wp2_with fail
      clear c0 f0 y0 y1 y2
      have G1 := Lib.hid (G0a.out.set 1 (.int .i64 (wrap64 (n0 : Int))))
      have U1 := Lib.hid (U0a.out.setCell (p := ⟨w1.heap.size + 1, 1, none⟩) (.inr hsz) (.int .i64 (wrap64 (n0 : Int))))
      have R1 := Lib.hid (R0a.out.set_other ⟨w1.heap.size + 1, 1, none⟩ (.int .i64 (wrap64 (n0 : Int))) HGR.out)
      have W1 := Lib.hid (W0a.out.set_other ⟨w1.heap.size + 1, 1, none⟩ (.int .i64 (wrap64 (n0 : Int))) HGW.out)
      clear G0a U0a R0a W0a
      refine (rfield_c _ bs (a1, s1, b1) _ (HBB.out.upd U1.out) (HOK.out _ (by rw [HL6.out]; simp)) HL.out).mono ?_
      rintro e v1 ⟨rfl, hU⟩
      rw [← HN.out.2.1]
      have G1a := Lib.hid (G1.out.upd0 hU)
      have U1a := Lib.hid (U1.out.trans hU)
      have R1a := Lib.hid (R1.out.upd0 hU)
      have W1a := Lib.hid (W1.out.upd0 hU)
      clear hU G1 U1 R1 W1
      have c1 := G1a.out.cell 3 _ rfl
      have f1 := G1a.out.free 3
      have y0 := fun u => (R1a.out.set_other ⟨w1.heap.size + 1, 3, none⟩ u HGR.out).cell 6 _ rfl
      have y1 := fun u => (R1a.out.set_other ⟨w1.heap.size + 1, 3, none⟩ u HGR.out).cell 7 _ rfl
      have y2 := fun u => (R1a.out.set_other ⟨w1.heap.size + 1, 3, none⟩ u HGR.out).cell 8 _ rfl
      go_wp2_with fail
      clear c1 f1 y0 y1 y2
      have G2 := Lib.hid (G1a.out.set 3 (.bool ((n1 : Int) == 1)))
      have U2 := Lib.hid (U1a.out.setCell (p := ⟨w1.heap.size + 1, 3, none⟩) (.inr hsz) (.bool ((n1 : Int) == 1)))
      have R2 := Lib.hid (R1a.out.set_other ⟨w1.heap.size + 1, 3, none⟩ (.bool ((n1 : Int) == 1)) HGR.out)
      have W2 := Lib.hid (W1a.out.set_other ⟨w1.heap.size + 1, 3, none⟩ (.bool ((n1 : Int) == 1)) HGW.out)
      clear G1a U1a R1a W1a
      refine (rfield_c _ bs (a2, s2, b2) _ (HBB.out.upd U2.out) (HOK.out _ (by rw [HL6.out]; simp)) HL.out).mono ?_
      rintro e v2 ⟨rfl, hU⟩
      rw [← HN.out.2.2.1]
      have G2a := Lib.hid (G2.out.upd0 hU)
      have U2a := Lib.hid (U2.out.trans hU)
      have R2a := Lib.hid (R2.out.upd0 hU)
      have W2a := Lib.hid (W2.out.upd0 hU)
      clear hU G2 U2 R2 W2
      have c2 := G2a.out.cell 2 _ rfl
      have f2 := G2a.out.free 2
      have y0 := fun u => (R2a.out.set_other ⟨w1.heap.size + 1, 2, none⟩ u HGR.out).cell 9 _ rfl
      have y1 := fun u => (R2a.out.set_other ⟨w1.heap.size + 1, 2, none⟩ u HGR.out).cell 10 _ rfl
      have y2 := fun u => (R2a.out.set_other ⟨w1.heap.size + 1, 2, none⟩ u HGR.out).cell 11 _ rfl
      go_wp2_with fail
      clear c2 f2 y0 y1 y2
      have G3 := Lib.hid (G2a.out.set 2 (.int .i64 (wrap64 (n2 : Int))))
      have U3 := Lib.hid (U2a.out.setCell (p := ⟨w1.heap.size + 1, 2, none⟩) (.inr hsz) (.int .i64 (wrap64 (n2 : Int))))
      have R3 := Lib.hid (R2a.out.set_other ⟨w1.heap.size + 1, 2, none⟩ (.int .i64 (wrap64 (n2 : Int))) HGR.out)
      have W3 := Lib.hid (W2a.out.set_other ⟨w1.heap.size + 1, 2, none⟩ (.int .i64 (wrap64 (n2 : Int))) HGW.out)
      clear G2a U2a R2a W2a
      refine (rfield_c _ bs (a3, s3, b3) _ (HBB.out.upd U3.out) (HOK.out _ (by rw [HL6.out]; simp)) HL.out).mono ?_
      rintro e v3 ⟨rfl, hU⟩
      rw [← HN.out.2.2.2.1]
      have G3a := Lib.hid (G3.out.upd0 hU)
      have U3a := Lib.hid (U3.out.trans hU)
      have R3a := Lib.hid (R3.out.upd0 hU)
      have W3a := Lib.hid (W3.out.upd0 hU)
      clear hU G3 U3 R3 W3
      have c3 := G3a.out.cell 4 _ rfl
      have f3 := G3a.out.free 4
      have y0 := fun u => (R3a.out.set_other ⟨w1.heap.size + 1, 4, none⟩ u HGR.out).cell 12 _ rfl
      have y1 := fun u => (R3a.out.set_other ⟨w1.heap.size + 1, 4, none⟩ u HGR.out).cell 13 _ rfl
      have y2 := fun u => (R3a.out.set_other ⟨w1.heap.size + 1, 4, none⟩ u HGR.out).cell 14 _ rfl
      go_wp2_with fail
      clear c3 f3 y0 y1 y2
      have G4 := Lib.hid (G3a.out.set 4 (.int .i64 (wrap64 (n3 : Int))))
      have U4 := Lib.hid (U3a.out.setCell (p := ⟨w1.heap.size + 1, 4, none⟩) (.inr hsz) (.int .i64 (wrap64 (n3 : Int))))
      have R4 := Lib.hid (R3a.out.set_other ⟨w1.heap.size + 1, 4, none⟩ (.int .i64 (wrap64 (n3 : Int))) HGR.out)
      have W4 := Lib.hid (W3a.out.set_other ⟨w1.heap.size + 1, 4, none⟩ (.int .i64 (wrap64 (n3 : Int))) HGW.out)
      clear G3a U3a R3a W3a
      refine (rfield_c _ bs (a4, s4, b4) _ (HBB.out.upd U4.out) (HOK.out _ (by rw [HL6.out]; simp)) HL.out).mono ?_
      rintro e v4 ⟨rfl, hU⟩
      rw [← HN.out.2.2.2.2.1]
      have G4a := Lib.hid (G4.out.upd0 hU)
      have U4a := Lib.hid (U4.out.trans hU)
      have R4a := Lib.hid (R4.out.upd0 hU)
      have W4a := Lib.hid (W4.out.upd0 hU)
      clear hU G4 U4 R4 W4
      have c4 := G4a.out.cell 5 _ rfl
      have f4 := G4a.out.free 5
      have y0 := fun u => (R4a.out.set_other ⟨w1.heap.size + 1, 5, none⟩ u HGR.out).cell 15 _ rfl
      have y1 := fun u => (R4a.out.set_other ⟨w1.heap.size + 1, 5, none⟩ u HGR.out).cell 16 _ rfl
      have y2 := fun u => (R4a.out.set_other ⟨w1.heap.size + 1, 5, none⟩ u HGR.out).cell 17 _ rfl
      go_wp2_with fail
      clear c4 f4 y0 y1 y2
      have G5 := Lib.hid (G4a.out.set 5 (.int .u64 (n4 : Int)))
      have U5 := Lib.hid (U4a.out.setCell (p := ⟨w1.heap.size + 1, 5, none⟩) (.inr hsz) (.int .u64 (n4 : Int)))
      have R5 := Lib.hid (R4a.out.set_other ⟨w1.heap.size + 1, 5, none⟩ (.int .u64 (n4 : Int)) HGR.out)
      have W5 := Lib.hid (W4a.out.set_other ⟨w1.heap.size + 1, 5, none⟩ (.int .u64 (n4 : Int)) HGW.out)
      clear G4a U4a R4a W4a
      refine (rfield_c _ bs (a5, s5, b5) _ (HBB.out.upd U5.out) (HOK.out _ (by rw [HL6.out]; simp)) HL.out).mono ?_
      rintro e v5 ⟨rfl, hU⟩
      rw [← HN.out.2.2.2.2.2]
      have G5a := Lib.hid (G5.out.upd0 hU)
      have U5a := Lib.hid (U5.out.trans hU)
      have R5a := Lib.hid (R5.out.upd0 hU)
      have W5a := Lib.hid (W5.out.upd0 hU)
      clear hU G5 U5 R5 W5
      have c5 := G5a.out.cell 6 _ rfl
      have f5 := G5a.out.free 6
      have y0 := fun u => (G5a.out.set 6 u).cell 0 _ rfl
      have y1 := fun u => (G5a.out.set 6 u).cell 1 _ rfl
      have y2 := fun u => (G5a.out.set 6 u).cell 2 _ rfl
      have y3 := fun u => (G5a.out.set 6 u).cell 3 _ rfl
      have y4 := fun u => (G5a.out.set 6 u).cell 4 _ rfl
      have y5 := fun u => (G5a.out.set 6 u).cell 5 _ rfl
      have y6 := fun u => (G5a.out.set 6 u).cell 6 _ rfl
      go_wp2_with fail
      clear c5 f5 y0 y1 y2 y3 y4 y5 y6
      have G6 := Lib.hid (G5a.out.set 6 (.int .i64 (wrap64 (n5 : Int))))
      have U6 := Lib.hid (U5a.out.setCell (p := ⟨w1.heap.size + 1, 6, none⟩) (.inr hsz) (.int .i64 (wrap64 (n5 : Int))))
      have R6 := Lib.hid (R5a.out.set_other ⟨w1.heap.size + 1, 6, none⟩ (.int .i64 (wrap64 (n5 : Int))) HGR.out)
      have W6 := Lib.hid (W5a.out.set_other ⟨w1.heap.size + 1, 6, none⟩ (.int .i64 (wrap64 (n5 : Int))) HGW.out)
      clear G5a U5a R5a W5a
      have hC : (⟨(x.toNat : Int), wrap64 (n0 : Int), wrap64 (n2 : Int), ((n1 : Int) == 1), wrap64 (n3 : Int), n4, wrap64 (n5 : Int)⟩ : Cmd) = cmdOf (x.toNat : Int) (readB l bs 6) := by
        have e : ∀ j, j < 6 → (readB l bs 6).getD j 0 = getB (l.getD j (0, 0, 0)) bs := fun j hj => by rw [readB_getD _ _ _ _ (Nat.le_refl _), if_pos hj]
        unfold cmdOf
        rw [e 0 (by omega), e 1 (by omega), e 2 (by omega), e 3 (by omega), e 4 (by omega), e 5 (by omega), beq_cast, HN.out.1, HN.out.2.1, HN.out.2.2.1, HN.out.2.2.2.1, HN.out.2.2.2.2.1, HN.out.2.2.2.2.2, HL6.out]
        rfl
      have hCok : (⟨(x.toNat : Int), wrap64 (n0 : Int), wrap64 (n2 : Int), ((n1 : Int) == 1), wrap64 (n3 : Int), n4, wrap64 (n5 : Int)⟩ : Cmd).Ok := by rw [hC]; exact cmdOf_ok HOK.out x 6
      have hPP : parseB bs = (if (buildB ⟨(x.toNat : Int), wrap64 (n0 : Int), wrap64 (n2 : Int), ((n1 : Int) == 1), wrap64 (n3 : Int), n4, wrap64 (n5 : Int)⟩).1 = 0 ∧ (buildB ⟨(x.toNat : Int), wrap64 (n0 : Int), wrap64 (n2 : Int), ((n1 : Int) == 1), wrap64 (n3 : Int), n4, wrap64 (n5 : Int)⟩).2 = bs then (0, ⟨(x.toNat : Int), wrap64 (n0 : Int), wrap64 (n2 : Int), ((n1 : Int) == 1), wrap64 (n3 : Int), n4, wrap64 (n5 : Int)⟩) else (11, zeroCmd)) := by
        unfold parseB
        rw [if_pos HL.out, ← HX.out, HP.out]
        dsimp only
        rw [← hC]
      refine (rbuild_c ⟨(x.toNat : Int), wrap64 (n0 : Int), wrap64 (n2 : Int), ((n1 : Int) == 1), wrap64 (n3 : Int), n4, wrap64 (n5 : Int)⟩ hCok _).mono ?_
      rintro e v8 ⟨r, rfl, v2, rfl, j1, j2⟩
      obtain ⟨B, hB⟩ : ∃ B, B = buildB ⟨(x.toNat : Int), wrap64 (n0 : Int), wrap64 (n2 : Int), ((n1 : Int) == 1), wrap64 (n3 : Int), n4, wrap64 (n5 : Int)⟩ := ⟨_, rfl⟩
      rw [← hB] at j1 hPP ⊢
      have J1 := Lib.hid j1
      have HRES := Lib.hid (W6.out.upd0 j2)
      have HCB := Lib.hid (G6.out.upd0 j2)
      have HU2 := Lib.hid (U6.out.trans j2)
      clear j1 j2 hB hC hCok G6 U6 R6 W6
      have kc1 := conv_B J1.out.rb
      have kc2 := conv_B (HBB.out.upd HU2.out)
      by_cases hw : B.1 = 0
      · have hw0 : (B.1 != 0) = false := by rw [hw]; rfl
        by_cases heq : B.2 = bs
        · rw [if_pos ⟨hw, heq⟩] at hPP
          rw [heq] at kc1
          have HPP := Lib.hid hPP
          clear hPP heq hw
          go_wp2_with (first | (with_reducible refine wpList_load_cells rfl 24 (.tmp 6) rfl (w1.heap.size + 1) 0 ?h3_1 [.int .i64 (x.toNat : Int), .int .i64 (wrap64 (n0 : Int)), .int .i64 (wrap64 (n2 : Int)), .bool ((n1 : Int) == 1), .int .i64 (wrap64 (n3 : Int)), .int .u64 (n4 : Int), .int .i64 (wrap64 (n5 : Int))] _ ?h3_2 Tryd.underlying24 rfl ?h3_3 ?_) | (with_reducible refine wpList_store_blk rfl rfl 24 (.tmp 2) (.tmp 79) rfl w.heap.size [.int .i64 0, .int .i64 0, .int .i64 0, .bool false, .int .i64 0, .int .u64 0, .int .i64 0] [.int .i64 (x.toNat : Int), .int .i64 (wrap64 (n0 : Int)), .int .i64 (wrap64 (n2 : Int)), .bool ((n1 : Int) == 1), .int .i64 (wrap64 (n3 : Int)), .int .u64 (n4 : Int), .int .i64 (wrap64 (n5 : Int))] _ ?h4_1 ?h4_2 HRES.out ?h4_3 ?h4_4 ?h4_5 ?_))
          case h3_1 => rfl
          case h3_2 =>
            intro j v hj
            exact HCB.out.cell _ _ (by simpa using hj)
          case h3_3 => kernel_rfl
          case h4_3 => exact cdbSizeR
          case h4_4 => rfl
          case h4_5 => kernel_rfl
          intro W5 h1 h2
          have z0 := h1.cell 0 _ rfl
          have z1 := h1.cell 1 _ rfl
          have z2 := h1.cell 2 _ rfl
          have z3 := h1.cell 3 _ rfl
          have z4 := h1.cell 4 _ rfl
          have z5 := h1.cell 5 _ rfl
          have z6 := h1.cell 6 _ rfl
          go_wp2_with fail
          refine bodyPost_ret (v := .tuple #[Cmd.val ⟨(x.toNat : Int), wrap64 (n0 : Int), wrap64 (n2 : Int), ((n1 : Int) == 1), wrap64 (n3 : Int), n4, wrap64 (n5 : Int)⟩, .int .i64 0]) (by simp [results, Tryd.results16, go_sem, Cmd.val, z0, z1, z2, z3, z4, z5, z6]) rfl ?_
          rw [HPP.out]
          exact ⟨rfl, HU2.out.trans' h2 (by simp)⟩
        · have hb := bstr_tl heq
          rw [if_neg (fun h => heq h.2)] at hPP
          have HPP := Lib.hid hPP
          clear hPP heq hw
          go_wp2_with (with_reducible refine wpList_store_blk rfl rfl 24 (.tmp 2) (.tmp 78) rfl w.heap.size [.int .i64 0, .int .i64 0, .int .i64 0, .bool false, .int .i64 0, .int .u64 0, .int .i64 0] [.int .i64 0, .int .i64 0, .int .i64 0, .bool false, .int .i64 0, .int .u64 0, .int .i64 0] _ ?h5_1 ?h5_2 HRES.out ?h5_3 ?h5_4 ?h5_5 ?_)
          case h5_1 => rfl
          case h5_2 => rfl
          case h5_3 => exact cdbSizeR
          case h5_4 => rfl
          case h5_5 => kernel_rfl
          intro W5 h1 h2
          have z0 := h1.cell 0 _ rfl
          have z1 := h1.cell 1 _ rfl
          have z2 := h1.cell 2 _ rfl
          have z3 := h1.cell 3 _ rfl
          have z4 := h1.cell 4 _ rfl
          have z5 := h1.cell 5 _ rfl
          have z6 := h1.cell 6 _ rfl
          go_wp2_with fail
          refine bodyPost_ret (v := .tuple #[zeroCmd.val, .int .i64 11]) (by simp [results, Tryd.results16, go_sem, Cmd.val, zeroCmd, z0, z1, z2, z3, z4, z5, z6]) rfl ?_
          rw [HPP.out]
          exact ⟨rfl, HU2.out.trans' h2 (by simp)⟩
      · have hw0 : (B.1 != 0) = true := by rw [bne_iff_ne]; exact hw
        rw [if_neg (fun h => hw h.1)] at hPP
        have HPP := Lib.hid hPP
        clear hPP hw
        · go_wp2_with (with_reducible refine wpList_store_blk rfl rfl 24 (.tmp 2) (.tmp 78) rfl w.heap.size [.int .i64 0, .int .i64 0, .int .i64 0, .bool false, .int .i64 0, .int .u64 0, .int .i64 0] [.int .i64 0, .int .i64 0, .int .i64 0, .bool false, .int .i64 0, .int .u64 0, .int .i64 0] _ ?h6_1 ?h6_2 HRES.out ?h6_3 ?h6_4 ?h6_5 ?_)
          case h6_1 => rfl
          case h6_2 => rfl
          case h6_3 => exact cdbSizeR
          case h6_4 => rfl
          case h6_5 => kernel_rfl
          intro W5 h1 h2
          have z0 := h1.cell 0 _ rfl
          have z1 := h1.cell 1 _ rfl
          have z2 := h1.cell 2 _ rfl
          have z3 := h1.cell 3 _ rfl
          have z4 := h1.cell 4 _ rfl
          have z5 := h1.cell 5 _ rfl
          have z6 := h1.cell 6 _ rfl
          go_wp2_with fail
          refine bodyPost_ret (v := .tuple #[zeroCmd.val, .int .i64 11]) (by simp [results, Tryd.results16, go_sem, Cmd.val, zeroCmd, z0, z1, z2, z3, z4, z5, z6]) rfl ?_
          rw [HPP.out]
          exact ⟨rfl, HU2.out.trans' h2 (by simp)⟩
  · obtain ⟨A, cap, rfl, hlc, hcm, _, hc⟩ := hb.open_
    have hne : ((bs.length : Int) != 16) = true := by rw [bne_iff_ne]; omega
    have hp : parseB bs = (3, zeroCmd) := by unfold parseB; rw [if_neg h16]
    have HP := Lib.hid hp
    clear hb hc h16 hp
    go_enter Tryd.func16, Tryd.ntmps16
    go_wp2_with fail
    refine bodyPost_ret (v := .tuple #[zeroCmd.val, .int .i64 3]) (by simp [results, Tryd.results16, go_sem, Cmd.val, zeroCmd]) rfl ?_
    rw [HP.out]
    exact ⟨rfl, (Upd.refl _ _).alloc _⟩
end Go.Proofs.YtpkljdjdapgmjaaDoor
