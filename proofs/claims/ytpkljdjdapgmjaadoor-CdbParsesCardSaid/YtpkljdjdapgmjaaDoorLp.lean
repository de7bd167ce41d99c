/- The walk of CdbParses. Printed by a program (wip/printlp.py). -/
import Derived.Test.YtpkljdjdapgmjaaDoorRf
import Derived.Test.YtpkljdjdapgmjaaDoorCg
import Derived.Deep.RegionHeld3
namespace Go.Proofs.YtpkljdjdapgmjaaDoor
open Go.RowKit
set_option linter.unusedVariables false
set_option linter.unusedSimpArgs false

theorem parseB_ok (bs : List UInt8) : (parseB bs).2.Ok := by
  have hz : zeroCmd.Ok := ⟨by decide, by decide, by decide, by decide, by decide, by decide⟩
  unfold parseB
  split
  · split
    · exact hz
    · rename_i l hp
      dsimp only
      split
      · exact cmdOf_ok (placesOf_ok hp).2 _ 6
      · exact hz
  · exact hz
theorem parseB_back {bs : List UInt8} (h : (parseB bs).1 = 0) : buildB (parseB bs).2 = (0, bs) := by
  unfold parseB at h ⊢
  split at h
  · rename_i h16
    rw [if_pos h16]
    split at h
    · cases h
    · rename_i l hp
      dsimp only at h ⊢
      split at h
      · rename_i hb
        rw [if_pos hb]
        exact Prod.ext hb.1 hb.2
      · cases h
  · cases h

set_option maxRecDepth 20000 in
set_option maxHeartbeats 4000000 in
theorem parses_c (v : Value) (bs : List UInt8) (op : Int) (w : World) (hb : RB w v bs) (hl : bs.length + 1 ≤ lim) (hT : Tab w) (hS : Siz w) :
    Calls Tryd.prog 5 #[v, .int .i64 op] w fun e w' => e = .returned (.bool true) ∧ Upd [] w w' := by
  have HT := Lib.hid hT
  have HS := Lib.hid hS
  have HB := Lib.hid hb
  have HL := Lib.hid hl
  obtain ⟨C, hC⟩ : ∃ C, C = (parseB bs).2 := ⟨_, rfl⟩
  obtain ⟨E, hE⟩ : ∃ E, E = (parseB bs).1 := ⟨_, rfl⟩
  have hCok : C.Ok := by rw [hC]; exact parseB_ok bs
  have HC := Lib.hid hC
  have HE := Lib.hid hE
  have HOK := Lib.hid hCok
  clear hT hS hb hl hC hE hCok
  go_enter Tryd.func5, Tryd.ntmps5
  go_wp2_with fail
  refine (lent_c _ bs _ HB.out HL.out).mono ?_
  rintro e w1 ⟨o, rfl, hO, hU⟩
  have HO1 := Lib.hid hO
  have HU1 := Lib.hid hU
  clear hO hU
  go_wp2_with fail
  refine (parse_c _ bs _ HO1.out.rb (HT.out.upd0 HU1.out)).mono ?_
  rintro e w2 ⟨rfl, hU⟩
  rw [← HC.out, ← HE.out]
  unfold Cmd.val
  dsimp only
  have HO2 := Lib.hid ((HO1.out.upd0 hU).upd0 ((Upd.refl [] _).alloc (.cells ([.int .i64 C.op, .int .i64 C.service, .int .i64 C.page, .bool C.vital, .int .i64 C.kind, .int .u64 (C.lba : Int), .int .i64 C.len] : List Value).toArray 30)))
  have HU2 := Lib.hid ((HU1.out.trans hU).alloc (.cells ([.int .i64 C.op, .int .i64 C.service, .int .i64 C.page, .bool C.vital, .int .i64 C.kind, .int .u64 (C.lba : Int), .int .i64 C.len] : List Value).toArray 30))
  have HA2 := Lib.hid (Blk.new w2 [.int .i64 C.op, .int .i64 C.service, .int .i64 C.page, .bool C.vital, .int .i64 C.kind, .int .u64 (C.lba : Int), .int .i64 C.len] 30)
  clear hU HO1 HU1
  go_wp2_with fail
  refine (rparse_c _ bs _ (HB.out.upd HU2.out)).mono ?_
  rintro e w3 ⟨rfl, hU⟩
  rw [← HC.out, ← HE.out]
  unfold Cmd.val
  dsimp only
  have HO3 := Lib.hid ((HO2.out.upd0 hU).upd0 ((Upd.refl [] _).alloc (.cells ([.int .i64 C.op, .int .i64 C.service, .int .i64 C.page, .bool C.vital, .int .i64 C.kind, .int .u64 (C.lba : Int), .int .i64 C.len] : List Value).toArray 24)))
  have HU3 := Lib.hid ((HU2.out.trans hU).alloc (.cells ([.int .i64 C.op, .int .i64 C.service, .int .i64 C.page, .bool C.vital, .int .i64 C.kind, .int .u64 (C.lba : Int), .int .i64 C.len] : List Value).toArray 24))
  have HA3 := Lib.hid ((HA2.out.upd0 hU).alloc (.cells ([.int .i64 C.op, .int .i64 C.service, .int .i64 C.page, .bool C.vital, .int .i64 C.kind, .int .u64 (C.lba : Int), .int .i64 C.len] : List Value).toArray 24))
  have HD3 := Lib.hid (Blk.new w3 [.int .i64 C.op, .int .i64 C.service, .int .i64 C.page, .bool C.vital, .int .i64 C.kind, .int .u64 (C.lba : Int), .int .i64 C.len] 24)
  clear hU HO2 HU2 HA2
  go_wp2_with fail
  obtain ⟨W, hW⟩ : ∃ W, W = w3.alloc (.cells ([.int .i64 C.op, .int .i64 C.service, .int .i64 C.page, .bool C.vital, .int .i64 C.kind, .int .u64 (C.lba : Int), .int .i64 C.len] : List Value).toArray 24) := ⟨_, rfl⟩
  rw [← hW] at HO3 HU3 HA3 HD3
  simp only [← hW]
  clear hW
  have htk : ∀ w, Calls Tryd.prog 17 #[.agg ([.int .i64 C.op, .int .i64 C.service, .int .i64 C.page, .bool C.vital, .int .i64 C.kind, .int .u64 (C.lba : Int), .int .i64 C.len] : List Value).toArray] w fun e w' => e = .returned (.agg ([.int .i64 C.op, .int .i64 C.service, .int .i64 C.page, .bool C.vital, .int .i64 C.kind, .int .u64 (C.lba : Int), .int .i64 C.len] : List Value).toArray) ∧ Upd [] w w' := fun w => taken_c C w
  have hin : ∀ w, Calls Tryd.prog 13 #[.agg ([.int .i64 C.op, .int .i64 C.service, .int .i64 C.page, .bool C.vital, .int .i64 C.kind, .int .u64 (C.lba : Int), .int .i64 C.len] : List Value).toArray] w fun e w' => e = .returned (.int .i64 (inB C)) ∧ Upd [] w w' := fun w => in_c C w
  have hout : ∀ w, Calls Tryd.prog 14 #[.agg ([.int .i64 C.op, .int .i64 C.service, .int .i64 C.page, .bool C.vital, .int .i64 C.kind, .int .u64 (C.lba : Int), .int .i64 C.len] : List Value).toArray] w fun e w' => e = .returned (.int .i64 (outB C)) ∧ Upd [] w w' := fun w => out_c C w
  have hrin : ∀ w, Calls Tryd.prog 21 #[.agg ([.int .i64 C.op, .int .i64 C.service, .int .i64 C.page, .bool C.vital, .int .i64 C.kind, .int .u64 (C.lba : Int), .int .i64 C.len] : List Value).toArray] w fun e w' => e = .returned (.int .i64 (inB C)) ∧ Upd [] w w' := fun w => rin_c C w
  have hrout : ∀ w, Calls Tryd.prog 20 #[.agg ([.int .i64 C.op, .int .i64 C.service, .int .i64 C.page, .bool C.vital, .int .i64 C.kind, .int .u64 (C.lba : Int), .int .i64 C.len] : List Value).toArray] w fun e w' => e = .returned (.int .i64 (outB C)) ∧ Upd [] w w' := fun w => rout_c C w
  have TK := Lib.hid htk
  have TI := Lib.hid hin
  have TO := Lib.hid hout
  have TRI := Lib.hid hrin
  have TRO := Lib.hid hrout
  clear htk hin hout hrin hrout
  have K : ∀ w', Upd [] W w' → (w'.cell? ⟨w2.heap.size, 0, none⟩ = some (.int .i64 C.op) ∧ w'.cell? ⟨w2.heap.size, 1, none⟩ = some (.int .i64 C.service) ∧ w'.cell? ⟨w2.heap.size, 2, none⟩ = some (.int .i64 C.page) ∧ w'.cell? ⟨w2.heap.size, 3, none⟩ = some (.bool C.vital) ∧ w'.cell? ⟨w2.heap.size, 4, none⟩ = some (.int .i64 C.kind) ∧ w'.cell? ⟨w2.heap.size, 5, none⟩ = some (.int .u64 (C.lba : Int)) ∧ w'.cell? ⟨w2.heap.size, 6, none⟩ = some (.int .i64 C.len) ∧ w'.cell? ⟨w3.heap.size, 0, none⟩ = some (.int .i64 C.op) ∧ w'.cell? ⟨w3.heap.size, 1, none⟩ = some (.int .i64 C.service) ∧ w'.cell? ⟨w3.heap.size, 2, none⟩ = some (.int .i64 C.page) ∧ w'.cell? ⟨w3.heap.size, 3, none⟩ = some (.bool C.vital) ∧ w'.cell? ⟨w3.heap.size, 4, none⟩ = some (.int .i64 C.kind) ∧ w'.cell? ⟨w3.heap.size, 5, none⟩ = some (.int .u64 (C.lba : Int)) ∧ w'.cell? ⟨w3.heap.size, 6, none⟩ = some (.int .i64 C.len) ∧ Upd [] W w') := fun w' h => ⟨(HA3.out.upd0 h).cell 0 _ rfl, (HA3.out.upd0 h).cell 1 _ rfl, (HA3.out.upd0 h).cell 2 _ rfl, (HA3.out.upd0 h).cell 3 _ rfl, (HA3.out.upd0 h).cell 4 _ rfl, (HA3.out.upd0 h).cell 5 _ rfl, (HA3.out.upd0 h).cell 6 _ rfl, (HD3.out.upd0 h).cell 0 _ rfl, (HD3.out.upd0 h).cell 1 _ rfl, (HD3.out.upd0 h).cell 2 _ rfl, (HD3.out.upd0 h).cell 3 _ rfl, (HD3.out.upd0 h).cell 4 _ rfl, (HD3.out.upd0 h).cell 5 _ rfl, (HD3.out.upd0 h).cell 6 _ rfl, h⟩
  go_region_held3 (fun w' => w'.cell? ⟨w2.heap.size, 0, none⟩ = some (.int .i64 C.op) ∧ w'.cell? ⟨w2.heap.size, 1, none⟩ = some (.int .i64 C.service) ∧ w'.cell? ⟨w2.heap.size, 2, none⟩ = some (.int .i64 C.page) ∧ w'.cell? ⟨w2.heap.size, 3, none⟩ = some (.bool C.vital) ∧ w'.cell? ⟨w2.heap.size, 4, none⟩ = some (.int .i64 C.kind) ∧ w'.cell? ⟨w2.heap.size, 5, none⟩ = some (.int .u64 (C.lba : Int)) ∧ w'.cell? ⟨w2.heap.size, 6, none⟩ = some (.int .i64 C.len) ∧ w'.cell? ⟨w3.heap.size, 0, none⟩ = some (.int .i64 C.op) ∧ w'.cell? ⟨w3.heap.size, 1, none⟩ = some (.int .i64 C.service) ∧ w'.cell? ⟨w3.heap.size, 2, none⟩ = some (.int .i64 C.page) ∧ w'.cell? ⟨w3.heap.size, 3, none⟩ = some (.bool C.vital) ∧ w'.cell? ⟨w3.heap.size, 4, none⟩ = some (.int .i64 C.kind) ∧ w'.cell? ⟨w3.heap.size, 5, none⟩ = some (.int .u64 (C.lba : Int)) ∧ w'.cell? ⟨w3.heap.size, 6, none⟩ = some (.int .i64 C.len) ∧ Upd [] W w')
    (first | exact K _ (Upd.refl _ _).drew | exact K _ (Upd.refl _ _) | (refine K _ (Upd.trans ?_ hUc); go_split_ands; assumption) | (refine K _ ?_; go_split_ands; assumption))
    (first | (go_at_call 17; refine (TK.out _).mono ?_; rintro e w5 ⟨rfl, hUc⟩) | (go_at_call 18; refine (kept_c _ _ bs _ _ (HO3.out.upd0 (by go_split_ands; assumption)) (HB.out.upd (HU3.out.trans (by go_split_ands; assumption)))).mono ?_; rintro e w5 ⟨rfl, rfl⟩) | (go_at_call 8; refine (size_c op _ (HT.out.upd0 (HU3.out.trans (by go_split_ands; assumption))) (HS.out.upd0 (HU3.out.trans (by go_split_ands; assumption)))).mono ?_; rintro e w5 ⟨rfl, hUc⟩) | (go_at_call 19; refine (rsize_c op _).mono ?_; rintro e w5 ⟨rfl, hUc⟩))
  have hU5 : Upd [] W w5 := by go_split_ands; assumption
  have U5 := Lib.hid (HU3.out.trans hU5)
  have O5 := Lib.hid (HO3.out.upd0 hU5)
  have A5 := Lib.hid (HA3.out.upd0 hU5)
  have D5 := Lib.hid (HD3.out.upd0 hU5)
  clear K hU5
  by_cases hE0 : E = 0
  · subst hE0
    have hbk : buildB C = (0, bs) := by rw [HC.out]; exact parseB_back HE.out.symm
    have HBK := Lib.hid hbk
    have y0 := A5.out.cell 0 _ rfl
    have y1 := A5.out.cell 1 _ rfl
    have y2 := A5.out.cell 2 _ rfl
    have y3 := A5.out.cell 3 _ rfl
    have y4 := A5.out.cell 4 _ rfl
    have y5 := A5.out.cell 5 _ rfl
    have y6 := A5.out.cell 6 _ rfl
    clear hbk
    go_wp2_with fail
    clear y0 y1 y2 y3 y4 y5 y6
    refine (build_c C HOK.out _ (HT.out.upd0 U5.out)).mono ?_
    rintro e w6 ⟨r, rfl, x, rfl, hX, hU6⟩
    rw [HBK.out] at hX ⊢
    dsimp only at hX ⊢
    have U6 := Lib.hid (U5.out.trans hU6)
    have A6 := Lib.hid (A5.out.upd0 hU6)
    have D6 := Lib.hid (D5.out.upd0 hU6)
    have HX := Lib.hid hX
    clear hX hU6
    go_wp2_with fail
    have K : ∀ w', Upd [] w6 w' → ((convert 26 9 x).run Tryd.prog w' = .ok (.string (bstr bs)) w' ∧ (convert 26 9 v).run Tryd.prog w' = .ok (.string (bstr bs)) w' ∧ w'.cell? ⟨w2.heap.size, 0, none⟩ = some (.int .i64 C.op) ∧ w'.cell? ⟨w2.heap.size, 1, none⟩ = some (.int .i64 C.service) ∧ w'.cell? ⟨w2.heap.size, 2, none⟩ = some (.int .i64 C.page) ∧ w'.cell? ⟨w2.heap.size, 3, none⟩ = some (.bool C.vital) ∧ w'.cell? ⟨w2.heap.size, 4, none⟩ = some (.int .i64 C.kind) ∧ w'.cell? ⟨w2.heap.size, 5, none⟩ = some (.int .u64 (C.lba : Int)) ∧ w'.cell? ⟨w2.heap.size, 6, none⟩ = some (.int .i64 C.len) ∧ w'.cell? ⟨w3.heap.size, 0, none⟩ = some (.int .i64 C.op) ∧ w'.cell? ⟨w3.heap.size, 1, none⟩ = some (.int .i64 C.service) ∧ w'.cell? ⟨w3.heap.size, 2, none⟩ = some (.int .i64 C.page) ∧ w'.cell? ⟨w3.heap.size, 3, none⟩ = some (.bool C.vital) ∧ w'.cell? ⟨w3.heap.size, 4, none⟩ = some (.int .i64 C.kind) ∧ w'.cell? ⟨w3.heap.size, 5, none⟩ = some (.int .u64 (C.lba : Int)) ∧ w'.cell? ⟨w3.heap.size, 6, none⟩ = some (.int .i64 C.len) ∧ Upd [] w6 w') := fun w' h => ⟨conv_B (HX.out.upd0 h).rb, conv_B (HB.out.upd (U6.out.trans h)), (A6.out.upd0 h).cell 0 _ rfl, (A6.out.upd0 h).cell 1 _ rfl, (A6.out.upd0 h).cell 2 _ rfl, (A6.out.upd0 h).cell 3 _ rfl, (A6.out.upd0 h).cell 4 _ rfl, (A6.out.upd0 h).cell 5 _ rfl, (A6.out.upd0 h).cell 6 _ rfl, (D6.out.upd0 h).cell 0 _ rfl, (D6.out.upd0 h).cell 1 _ rfl, (D6.out.upd0 h).cell 2 _ rfl, (D6.out.upd0 h).cell 3 _ rfl, (D6.out.upd0 h).cell 4 _ rfl, (D6.out.upd0 h).cell 5 _ rfl, (D6.out.upd0 h).cell 6 _ rfl, h⟩
    go_region_held3 (fun w' => (convert 26 9 x).run Tryd.prog w' = .ok (.string (bstr bs)) w' ∧ (convert 26 9 v).run Tryd.prog w' = .ok (.string (bstr bs)) w' ∧ w'.cell? ⟨w2.heap.size, 0, none⟩ = some (.int .i64 C.op) ∧ w'.cell? ⟨w2.heap.size, 1, none⟩ = some (.int .i64 C.service) ∧ w'.cell? ⟨w2.heap.size, 2, none⟩ = some (.int .i64 C.page) ∧ w'.cell? ⟨w2.heap.size, 3, none⟩ = some (.bool C.vital) ∧ w'.cell? ⟨w2.heap.size, 4, none⟩ = some (.int .i64 C.kind) ∧ w'.cell? ⟨w2.heap.size, 5, none⟩ = some (.int .u64 (C.lba : Int)) ∧ w'.cell? ⟨w2.heap.size, 6, none⟩ = some (.int .i64 C.len) ∧ w'.cell? ⟨w3.heap.size, 0, none⟩ = some (.int .i64 C.op) ∧ w'.cell? ⟨w3.heap.size, 1, none⟩ = some (.int .i64 C.service) ∧ w'.cell? ⟨w3.heap.size, 2, none⟩ = some (.int .i64 C.page) ∧ w'.cell? ⟨w3.heap.size, 3, none⟩ = some (.bool C.vital) ∧ w'.cell? ⟨w3.heap.size, 4, none⟩ = some (.int .i64 C.kind) ∧ w'.cell? ⟨w3.heap.size, 5, none⟩ = some (.int .u64 (C.lba : Int)) ∧ w'.cell? ⟨w3.heap.size, 6, none⟩ = some (.int .i64 C.len) ∧ Upd [] w6 w')
      (first | exact K _ (Upd.refl _ _).drew | exact K _ (Upd.refl _ _) | (refine K _ (Upd.trans ?_ hUc); go_split_ands; assumption) | (refine K _ ?_; go_split_ands; assumption))
      (first | (go_at_call 14; refine (TO.out _).mono ?_; rintro e w7 ⟨rfl, hUc⟩) | (go_at_call 13; refine (TI.out _).mono ?_; rintro e w7 ⟨rfl, hUc⟩) | (go_at_call 20; refine (TRO.out _).mono ?_; rintro e w7 ⟨rfl, hUc⟩) | (go_at_call 21; refine (TRI.out _).mono ?_; rintro e w7 ⟨rfl, hUc⟩) | (go_at_call 11; refine (known_c _ (HT.out.upd0 (U6.out.trans (by go_split_ands; assumption)))).mono ?_; rintro e w7 ⟨rfl, hUc⟩))
    go_wp2_with fail
    go_ret
    exact ⟨rfl, U6.out.trans (by go_split_ands; assumption)⟩
  · have hz : (E != 0) = true := by rw [bne_iff_ne]; exact hE0
    clear hE0
    go_wp2_with fail
    refine (known_c _ (HT.out.upd0 U5.out)).mono ?_
    rintro e w7 ⟨rfl, hU7⟩
    go_wp2_with fail
    go_ret
    exact ⟨rfl, U5.out.trans hU7⟩
end Go.Proofs.YtpkljdjdapgmjaaDoor
