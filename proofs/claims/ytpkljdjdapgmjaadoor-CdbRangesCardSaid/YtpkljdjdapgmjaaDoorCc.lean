/- The contract of cdb.Build. -/
import Derived.Test.YtpkljdjdapgmjaaDoorCb
import Derived.Deep.CutBlock
namespace Go.Proofs.YtpkljdjdapgmjaaDoor
open Go.RowKit
set_option linter.unusedVariables false
set_option linter.unusedSimpArgs false

theorem infoU64 : (Tryd.prog.info? 22).map (fun i => (i.zero, i.size, i.bytes)) = some (some (.int .u64 0), 1, 8) := by kernel_rfl
theorem idxVals (vs : List Nat) (k : Nat) (hk : k < 6) (hl : vs.length = 6) (w : World) : (Instr.index 67 (.agg (numsU vs).toArray) (.int .i64 (k : Int))).run Tryd.prog w = .ok (.int .u64 ((vs.getD k 0 : Nat) : Int)) w := by
  obtain ⟨i0, hi, _, hz1, _⟩ := info_parts infoU64
  refine run_index_one w _ _ 6 _ i0 Tryd.underlying67 Tryd.underlying22 rfl hi hz1 _ k _ hk ?_
  simp [numsU, List.getElem?_eq_getElem (show k < vs.length by omega), List.getD_eq_getElem?_getD]

/-- What holds at the head of a round of Build's loop. -/
structure BRel (c : Cmd) (l : List (Nat × Nat × Nat)) (w0 w : World) (g k : Nat) (vb : Value) (b : List UInt8) (st : Bool) : Prop where
  run : runB l c.vals k (startB c.op, false) = some (b, st)
  own : OB w w0.heap.size vb b
  upd : Upd [] w0 w
  blk : Blk w g (.int .i64 c.op :: placeCells l) 73
theorem make16 (w : World) : (Instr.makeSlice 26 (.int .i64 16) (.int .i64 16)).run Tryd.prog w = .ok (.slice (some ⟨w.heap.size, 0, none⟩) 16 16) (w.alloc (.cells #[.int .u8 0, .int .u8 0, .int .u8 0, .int .u8 0, .int .u8 0, .int .u8 0, .int .u8 0, .int .u8 0, .int .u8 0, .int .u8 0, .int .u8 0, .int .u8 0, .int .u8 0, .int .u8 0, .int .u8 0, .int .u8 0] 5)) := by kernel_rfl
set_option maxHeartbeats 1000000 in
theorem build_c (c : Cmd) (hc : c.Ok) (w : World) (hT : Tab w) :
    Calls Tryd.prog 9 #[c.val] w (Ret fun r w' => ∃ v, r = .tuple #[v, .int .i64 (buildB c).1] ∧ OB w' w.heap.size v (buildB c).2 ∧ Upd [] w w') := by
  have HT := Lib.hid hT
  have HC := Lib.hid hc
  clear hT hc
  have hvl : c.vals.length = 6 := rfl
  have Hvl := Lib.hid hvl
  clear hvl
  unfold Cmd.val
  go_enter Tryd.func9, Tryd.ntmps9
  go_wp2_with fail
  refine (find_c c.op _ (HT.out.upd0 ((Upd.refl _ _).alloc _))).mono ?_
  rintro e w1 ⟨r, rfl, hU, h | ⟨l, g, hp, rfl, hg, hB⟩⟩
  · obtain ⟨h1, rfl⟩ := h
    have hbb : buildB c = (1, []) := by unfold buildB; rw [h1]
    have HB := Lib.hid hbb
    clear hbb h1
    go_wp2_with fail
    go_ret2
    rw [HB.out]
    exact ⟨_, rfl, _, rfl, OB.nil _ _, ((Upd.refl _ _).alloc _).trans hU⟩
  · have HU := Lib.hid hU
    have HP := Lib.hid hp
    have HG := Lib.hid hg
    have HB := Lib.hid hB
    clear hU hp hg hB
    have hmk := make16
    have hP := (Blk.new w [.int .i64 c.op, .int .i64 c.service, .int .i64 c.page, .bool c.vital, .int .i64 c.kind, .int .u64 c.lba, .int .i64 c.len] 30).upd0 HU.out
    have d0 : ∀ o, (w1.alloc o).cell? ⟨w.heap.size, 0, none⟩ = some (.int .i64 c.op) := fun o => (hP.alloc o).cell 0 _ rfl
    have d1 : ∀ o, (w1.alloc o).cell? ⟨w.heap.size, 1, none⟩ = some (.int .i64 c.service) := fun o => (hP.alloc o).cell 1 _ rfl
    have d2 : ∀ o, (w1.alloc o).cell? ⟨w.heap.size, 2, none⟩ = some (.int .i64 c.page) := fun o => (hP.alloc o).cell 2 _ rfl
    have d3 : ∀ o, (w1.alloc o).cell? ⟨w.heap.size, 3, none⟩ = some (.bool c.vital) := fun o => (hP.alloc o).cell 3 _ rfl
    have d4 : ∀ o, (w1.alloc o).cell? ⟨w.heap.size, 4, none⟩ = some (.int .i64 c.kind) := fun o => (hP.alloc o).cell 4 _ rfl
    have d5 : ∀ o, (w1.alloc o).cell? ⟨w.heap.size, 5, none⟩ = some (.int .u64 c.lba) := fun o => (hP.alloc o).cell 5 _ rfl
    have d6 : ∀ o, (w1.alloc o).cell? ⟨w.heap.size, 6, none⟩ = some (.int .i64 c.len) := fun o => (hP.alloc o).cell 6 _ rfl
    clear hP
    go_wp2_with fail
    refine (values_c c _).mono ?_
    rintro e w2 ⟨rfl, hU2⟩
    have HU2 := Lib.hid hU2
    clear d0 d1 d2 d3 d4 d5 d6 hmk hU2
    go_wp2_with fail
    obtain ⟨hl6, hlok⟩ := placesOf_ok HP.out
    have HL6 := Lib.hid hl6
    have HLok := Lib.hid hlok
    clear hl6 hlok
    go_loopw [5, 6, 25] (fun vb vs vi wr => ∃ (k : Nat) (b : List UInt8) (st : Bool), k ≤ 6 ∧ vi = .int .i64 (k : Int) ∧ vs = .bool st ∧ BRel c l w wr g k vb b st) (fun _ _ vi _ => 6 - (intOf vi).toNat)
    case atStart =>
      have hW0 := ((Upd.refl [] w).alloc (.cells #[.int .i64 c.op, .int .i64 c.service, .int .i64 c.page, .bool c.vital, .int .i64 c.kind, .int .u64 c.lba, .int .i64 c.len] 30)).trans HU.out
      refine ⟨0, startB c.op, false, by omega, rfl, rfl, rfl, ?_, (hW0.alloc _).trans HU2.out, (HB.out.alloc _).upd0 HU2.out⟩
      refine OB.upd0 ?_ HU2.out
      have := World.ownsRow_lit (base := w.heap.size) (e := 5) (size := 1) w1 ((startB c.op).map bv).toArray 16 hW0.size (by simp [maxLen]) (by simp [startB])
      simpa [OB, startB, bv, toU_byte] using this
    case round =>
      obtain ⟨k, b, st, hk, rfl, rfl, hR⟩ := hrel
      have HR := Lib.hid hR
      have hown := hR.own
      obtain ⟨A, cap, rfl⟩ := hown.slice
      by_cases hlt : k < 6
      · have hix := idxVals c.vals k hlt Hvl.out
        obtain ⟨n, hn⟩ : ∃ n, n = c.vals.getD k 0 := ⟨_, rfl⟩
        rw [← hn] at hix
        have HN := Lib.hid hn
        clear hn
        obtain ⟨pa, ps, pb, hpl⟩ : ∃ pa ps pb, l[k]'(by rw [HL6.out]; exact hlt) = (pa, ps, pb) := ⟨_, _, _, rfl⟩
        obtain ⟨q0, q1, q2⟩ := placeCells_at l k (by rw [HL6.out]; exact hlt)
        rw [hpl] at q0 q1 q2
        have x0 : wr.cell? ⟨g, 1 + k * 3, none⟩ = some (.int .i64 (pa : Int)) := hR.blk.cell _ _ (by rw [show 1 + k * 3 = 3 * k + 1 by omega]; simpa using q0)
        have x1 : wr.cell? ⟨g, 1 + k * 3 + 1, none⟩ = some (.int .i64 (ps : Int)) := hR.blk.cell _ _ (by rw [show 1 + k * 3 + 1 = 3 * k + 1 + 1 by omega]; simpa using q1)
        have x2 : wr.cell? ⟨g, 1 + k * 3 + 2, none⟩ = some (.int .i64 (pb : Int)) := hR.blk.cell _ _ (by rw [show 1 + k * 3 + 2 = 3 * k + 2 + 1 by omega]; simpa using q2)
        have HPL := Lib.hid hpl
        clear q0 q1 q2 hpl hR hown
        go_upto_region 11 with (fail)
        clear x0 x1 x2 hix
        obtain ⟨pB, hpB⟩ : ∃ pB, pB = wr.heap.size := ⟨_, rfl⟩
        refine gen_world (fun W => Upd [] w W ∧ OB W w.heap.size (.slice A b.length cap) b ∧ Blk W wr.heap.size [.int .i64 (pa : Int), .int .i64 (ps : Int), .int .i64 (pb : Int)] 70 ∧ Blk W g (.int .i64 c.op :: placeCells l) 73) ?_ ?_
        · exact ⟨HR.out.upd.alloc _, HR.out.own.upd0 ((Upd.refl _ _).alloc _), Blk.new wr [_, _, _] _, HR.out.blk.alloc _⟩
        rw [← hpB]
        clear hpB
        rintro W ⟨k1, k2, k3, k4⟩
        have y0 := k3.cell 0 _ rfl
        have y1 := k3.cell 1 _ rfl
        have y2 := k3.cell 2 _ rfl
        have K1 := Lib.hid k1
        have K2 := Lib.hid k2
        have K4 := Lib.hid k4
        have hrun := HR.out.run
        have hlen := runB_length HLok.out k (by simp [startB]) hrun
        have hst : runB l c.vals (k + 1) (startB c.op, false) = stepB (pa, ps, pb) n (b, st) := by
          rw [runB, hrun, Option.bind_some, HN.out]
          congr 1
          rw [List.getD_eq_getElem?_getD, List.getElem?_eq_getElem (by rw [HL6.out]; exact hlt)]
          exact HPL.out
        have hok : PlOk (pa, ps, pb) := by rw [← HPL.out]; exact HLok.out _ (List.getElem_mem _)
        have HST := Lib.hid hst
        have HLen := Lib.hid hlen
        have HOk := Lib.hid hok
        clear k1 k2 k3 k4 hrun hlen hst hok
        have hnlt : n < 18446744073709551616 := by rw [HN.out]; exact vals_lt c HC.out k
        by_cases hps : ps = 0
        · subst hps
          have hs1 : stepB (pa, 0, pb) n (b, false) = some (b, ((n : Int) != 0)) := by simp [stepB, bne_cast]
          have hs2 : stepB (pa, 0, pb) n (b, true) = some (b, true) := by simp [stepB]
          have HS1 := Lib.hid hs1
          have HS2 := Lib.hid hs2
          clear hs1 hs2
          cases st
          · go_wp2_with fail
            go_roundw
            case rel => exact ⟨k + 1, b, _, by omega, by go_num, rfl, ⟨HST.out.trans HS1.out, K2.out, K1.out, K4.out⟩⟩
            case measure => simp [intOf]; omega
          · go_wp2_with fail
            go_roundw
            case rel => exact ⟨k + 1, b, _, by omega, by go_num, rfl, ⟨HST.out.trans HS2.out, K2.out, K1.out, K4.out⟩⟩
            case measure => simp [intOf]; omega
        · have hz : ((ps : Int) == 0) = false := by rw [beq_eq_false_iff_ne]; omega
          have hsz : ps = 1 ∨ ps = 2 ∨ ps = 4 ∨ ps = 8 := by
            rcases HOk.out with h | h
            · exact absurd h hps
            · exact h.1
          have hat : pa + ps ≤ 16 ∧ pb ≤ 8 := by
            rcases HOk.out with h | h
            · exact absurd h hps
            · exact h.2
          have HSZ := Lib.hid hsz
          clear hsz
          by_cases hbits : 0 < pb ∧ n / 2 ^ pb ≠ 0
          · obtain ⟨hb0, hb1⟩ := hbits
            have hs : stepB (pa, ps, pb) n (b, st) = none := by simp [stepB, hps, hb0, hb1]
            have hbb : buildB c = (3, []) := buildB_stop HP.out (runB_stop (k := k + 1) (HST.out.trans hs) (by omega))
            have HBB := Lib.hid hbb
            have hq : (((n : Int) / 2 ^ pb) != 0) = true := by
              rw [bne_iff_ne]
              intro h
              apply hb1
              exact_mod_cast h
            clear hs hbb hb1
            go_wp2_with fail
            go_ret2
            rw [HBB.out]
            exact ⟨_, rfl, _, rfl, OB.nil _ _, K1.out⟩
          · have hq : 0 < pb → (((n : Int) / 2 ^ pb) != 0) = false := by
              intro h0
              have h1 : n / 2 ^ pb = 0 := by
                by_cases h : n / 2 ^ pb = 0
                · exact h
                · exact absurd ⟨h0, h⟩ hbits
              have h2 : ((n : Int) / 2 ^ pb) = 0 := by exact_mod_cast h1
              rw [h2]; rfl
            by_cases hfit : fitsB n ps = true
            · have hs : stepB (pa, ps, pb) n (b, st) = some (putB b pa ps n, st) := by
                unfold stepB
                dsimp only
                rw [if_neg hps, if_neg hbits, if_neg (by simp [hfit])]
              have HS := Lib.hid hs
              have HF := Lib.hid hfit
              clear hs hfit hbits
              by_cases hb0 : 0 < pb
              all_goals
                first
                  | have hq' := hq hb0
                  | skip
                clear hq
                go_wp2_with fail
                refine (put_c _ b pa ps n _ HSZ.out K2.out.rb (by rw [HLen.out]; exact hat.1) hnlt HF.out (by rw [HLen.out]; decide)).mono ?_
                rintro e W2 ⟨r, rfl, v2, rfl, j1, j2⟩
                obtain ⟨A2, cap2, rfl⟩ := j1.slice
                have J1 := Lib.hid j1
                have J2 := Lib.hid j2
                clear j1 j2
                go_wp2_with fail
                go_roundw
                case rel =>
                  have hsz := K1.out.size
                  refine ⟨k + 1, putB b pa ps n, _, by omega, by go_num, rfl, ⟨HST.out.trans HS.out, J1.out.base (fun g hg => Nat.le_trans hsz (J1.out.lt g hg).1), K1.out.trans J2.out, K4.out.upd0 J2.out⟩⟩
                case measure => simp [intOf]; omega
            · have hs : stepB (pa, ps, pb) n (b, st) = none := by
                unfold stepB
                dsimp only
                rw [if_neg hps, if_neg hbits, if_pos (by simpa using hfit)]
              have hbb : buildB c = (3, []) := buildB_stop HP.out (runB_stop (k := k + 1) (HST.out.trans hs) (by omega))
              have HBB := Lib.hid hbb
              have HF := Lib.hid (by simpa using hfit : fitsB n ps = false)
              clear hs hbb hfit hbits
              by_cases hb0 : 0 < pb
              all_goals
                first
                  | have hq' := hq hb0
                  | skip
                clear hq
                go_wp2_with fail
                refine (put_big _ b pa ps n _ K2.out.rb (by omega) (by have := HSZ.out; omega) (by rw [HLen.out]; exact hat.1) hnlt HF.out).mono ?_
                rintro e W2 ⟨rfl, rfl⟩
                go_wp2_with fail
                go_ret2
                rw [HBB.out]
                exact ⟨_, rfl, _, rfl, OB.nil _ _, K1.out⟩
      · obtain rfl : k = 6 := by omega
        cases st
        · have hbb : buildB c = (0, b) := buildB_ok HP.out HR.out.run
          have HBB := Lib.hid hbb
          clear hR hbb
          go_wp2_with fail
          go_ret2
          rw [HBB.out]
          exact ⟨_, rfl, _, rfl, HR.out.own, HR.out.upd⟩
        · have hbb : buildB c = (11, []) := buildB_strange HP.out HR.out.run
          have HBB := Lib.hid hbb
          clear hR hbb
          go_wp2_with fail
          go_ret2
          rw [HBB.out]
          exact ⟨_, rfl, _, rfl, OB.nil _ _, HR.out.upd⟩
end Go.Proofs.YtpkljdjdapgmjaaDoor
