/- The contract of the reference's Build (caissonref15). -/
import Derived.Test.YtpkljdjdapgmjaaDoorRb
import Derived.Deep.RegionHeld3
namespace Go.Proofs.YtpkljdjdapgmjaaDoor
open Go.RowKit
set_option linter.unusedVariables false
set_option linter.unusedSimpArgs false

theorem stepB_any (p : Nat × Nat × Nat) (n : Nat) (b : List UInt8) : stepB p n (b, true) = (stepB p n (b, false)).map fun x => (x.1, true) := by
  unfold stepB
  dsimp only
  split
  · simp
  · split
    · rfl
    · split
      · rfl
      · rfl
/-- How far the reference's Build is: the bytes, the error. -/
def RelE (l : List (Nat × Nat × Nat)) (vs : List Nat) (op : Int) (k : Nat) (b : List UInt8) (e : Int) : Prop :=
  b.length = 16 ∧ ((e = 0 ∧ runB l vs k (startB op, false) = some (b, false)) ∨ (e = 11 ∧ runB l vs k (startB op, false) = some (b, true)) ∨ (e = 3 ∧ runB l vs k (startB op, false) = none))
section
variable {l : List (Nat × Nat × Nat)} {vs : List Nat} {op : Int} {k : Nat} {b b' : List UInt8} {e : Int}
theorem runB_next {st : List UInt8 × Bool} (h : runB l vs k (startB op, false) = some st) : runB l vs (k + 1) (startB op, false) = stepB (l.getD k (0, 0, 0)) (vs.getD k 0) st := by rw [runB, h, Option.bind_some]
theorem runB_next_none (h : runB l vs k (startB op, false) = none) : runB l vs (k + 1) (startB op, false) = none := by rw [runB, h, Option.bind_none]
theorem RelE.start : RelE l vs op 0 (startB op) 0 := ⟨by simp [startB], .inl ⟨rfl, rfl⟩⟩
theorem RelE.fail (h : RelE l vs op k b e) (hs : stepB (l.getD k (0, 0, 0)) (vs.getD k 0) (b, false) = none) : RelE l vs op (k + 1) b 3 := by
  refine ⟨h.1, .inr (.inr ⟨rfl, ?_⟩)⟩
  rcases h.2 with ⟨_, hr⟩ | ⟨_, hr⟩ | ⟨_, hr⟩
  · rw [runB_next hr, hs]
  · rw [runB_next hr, stepB_any, hs]; rfl
  · exact runB_next_none hr
theorem RelE.form (h : RelE l vs op k b e) (hs : stepB (l.getD k (0, 0, 0)) (vs.getD k 0) (b, false) = some (b, true)) : RelE l vs op (k + 1) b (if e = 0 then 11 else e) := by
  refine ⟨h.1, ?_⟩
  rcases h.2 with ⟨rfl, hr⟩ | ⟨rfl, hr⟩ | ⟨rfl, hr⟩
  · exact .inr (.inl ⟨rfl, by rw [runB_next hr, hs]⟩)
  · exact .inr (.inl ⟨rfl, by rw [runB_next hr, stepB_any, hs]; rfl⟩)
  · exact .inr (.inr ⟨rfl, runB_next_none hr⟩)
theorem RelE.ok (h : RelE l vs op k b e) (hp : PlOk (l.getD k (0, 0, 0))) (hs : stepB (l.getD k (0, 0, 0)) (vs.getD k 0) (b, false) = some (b', false)) : RelE l vs op (k + 1) b' e := by
  refine ⟨?_, ?_⟩
  · have hl := h.1
    unfold stepB at hs
    split at hs
    · injection hs with hs; injection hs with h1 h2; rw [← h1]; exact hl
    · rename_i hz
      split at hs
      · cases hs
      · split at hs
        · cases hs
        · injection hs with hs; injection hs with h1 h2
          rw [← h1]
          rcases hp with h | ⟨_, h, _⟩
          · exact absurd h hz
          · exact (putB_length (by dsimp only; omega)).trans hl
  · rcases h.2 with ⟨rfl, hr⟩ | ⟨rfl, hr⟩ | ⟨rfl, hr⟩
    · exact .inl ⟨rfl, by rw [runB_next hr, hs]⟩
    · exact .inr (.inl ⟨rfl, by rw [runB_next hr, stepB_any, hs]; rfl⟩)
    · exact .inr (.inr ⟨rfl, runB_next_none hr⟩)
end

theorem list6 {α : Type} (l : List α) (h : l.length = 6) : ∃ a b c d e f, l = [a, b, c, d, e, f] := by
  match l, h with
  | [a, b, c, d, e, f], _ => exact ⟨a, b, c, d, e, f, rfl⟩
/-- A row that a call has made, stored into a new variable. -/
theorem placeCells_row {l : List (Nat × Nat × Nat)} (h : l.length = 6) : (placeCells l).toArray.size = 18 ∧ (placeCells l).toArray.all (·.oneCell') = true := by
  refine ⟨by simp [placeCells_length, h], ?_⟩
  simp only [placeCells, List.all_toArray, List.all_flatMap, List.all_eq_true]
  intro x _ y hy
  simp only [List.mem_cons, List.not_mem_nil, or_false] at hy
  rcases hy with rfl | rfl | rfl <;> rfl

theorem start_own (op : Int) (base : Nat) (W : World) (h : base ≤ W.heap.size) : OB (W.alloc (.cells #[.int .u8 (op % 256), .int .u8 0, .int .u8 0, .int .u8 0, .int .u8 0, .int .u8 0, .int .u8 0, .int .u8 0, .int .u8 0, .int .u8 0, .int .u8 0, .int .u8 0, .int .u8 0, .int .u8 0, .int .u8 0, .int .u8 0] 5)) base (.slice (some ⟨W.heap.size, 0, none⟩) 16 16) (startB op) := by
  have := World.ownsRow_lit (base := base) (e := 5) (size := 1) W ((startB op).map bv).toArray 16 h (by simp [maxLen]) (by simp [startB])
  simpa [OB, startB, bv, toU_byte] using this

set_option maxRecDepth 20000 in
set_option maxHeartbeats 2000000 in
theorem rbuild_false (c : Cmd) (hc : c.Ok) (hvt : c.vital = false) (l : List (Nat × Nat × Nat)) (hp : placesOf c.op = some l) (w : World) :
    Calls Tryd.prog 41 #[.agg #[.int .i64 c.op, .int .i64 c.service, .int .i64 c.page, .bool false, .int .i64 c.kind, .int .u64 c.lba, .int .i64 c.len]] w (Ret fun r w' => ∃ v, r = .tuple #[v, .int .i64 (buildB c).1] ∧ OB w' w.heap.size v (buildB c).2 ∧ Upd [] w w') := by
  have HC := Lib.hid hc
  have HVT := Lib.hid hvt
  obtain ⟨cs, hcs⟩ : ∃ cs, cs = (placeCells (rowL c.op)).toArray := ⟨_, rfl⟩
  obtain ⟨hl6, hlok⟩ := placesOf_ok hp
  have hrow : rowL c.op = l := by unfold rowL; rw [hp]; rfl
  have hrl : (rowL c.op).length = 6 := by rw [hrow]; exact hl6
  obtain ⟨h18, h1⟩ := placeCells_row hrl
  rw [← hcs] at h18 h1
  have H18 := Lib.hid h18
  have H1 := Lib.hid h1
  have HCS := Lib.hid hcs
  have HLok := Lib.hid hlok
  have HP := Lib.hid hp
  have HROW := Lib.hid hrow
  obtain ⟨⟨a0, s0, b0⟩, ⟨a1, s1, b1⟩, ⟨a2, s2, b2⟩, ⟨a3, s3, b3⟩, ⟨a4, s4, b4⟩, ⟨a5, s5, b5⟩, hl⟩ := list6 l hl6
  have HL := Lib.hid hl
  have k1 := toU_wrap c.service
  have k2 := toU_wrap c.page
  have k3 := toU_wrap c.kind
  have k4 := toU_wrap c.len
  have hmk := make16
  clear hcs hrl h18 h1 hc hvt hp hl6 hlok hrow hl
  go_enter Tryd.func41, Tryd.ntmps41
  go_wp2_with fail
  refine (rowOf_c c.op _).mono ?_
  rintro e w1 ⟨rfl, hU⟩
  rw [HP.out, ← HCS.out]
  have HU := Lib.hid hU
  clear hU
  have hP := (Blk.new w [.int .i64 c.op, .int .i64 c.service, .int .i64 c.page, .bool false, .int .i64 c.kind, .int .u64 c.lba, .int .i64 c.len] 24).upd0 HU.out
  have HU1 := Lib.hid (((Upd.refl [] w).alloc (.cells ([.int .i64 c.op, .int .i64 c.service, .int .i64 c.page, .bool false, .int .i64 c.kind, .int .u64 c.lba, .int .i64 c.len] : List Value).toArray 24)).trans HU.out)
  have HPB := Lib.hid hP
  clear hP
  have hR := Blk.new w1 (placeCells [(a0, s0, b0), (a1, s1, b1), (a2, s2, b2), (a3, s3, b3), (a4, s4, b4), (a5, s5, b5)]) 81
  have hce : (placeCells [(a0, s0, b0), (a1, s1, b1), (a2, s2, b2), (a3, s3, b3), (a4, s4, b4), (a5, s5, b5)]).toArray = cs := by rw [HCS.out, HROW.out, HL.out]
  rw [hce] at hR
  have HR := Lib.hid hR
  clear hR hce
  have d3 := (HPB.out.alloc (.cells cs 81)).cell 3 _ rfl
  have d1 := fun o => ((HPB.out.alloc (.cells cs 81)).alloc o).cell 1 _ rfl
  have d2 := fun o => ((HPB.out.alloc (.cells cs 81)).alloc o).cell 2 _ rfl
  have d4 := fun o => ((HPB.out.alloc (.cells cs 81)).alloc o).cell 4 _ rfl
  have d5 := fun o => ((HPB.out.alloc (.cells cs 81)).alloc o).cell 5 _ rfl
  have d6 := fun o => ((HPB.out.alloc (.cells cs 81)).alloc o).cell 6 _ rfl
  have d0 := fun o1 o2 o3 => ((((HPB.out.alloc (.cells cs 81)).alloc o1).alloc o2).alloc o3).cell 0 _ rfl
  have y0 := HR.out.cell 0 _ rfl
  have y1 := HR.out.cell 1 _ rfl
  have y2 := HR.out.cell 2 _ rfl
  have y3 := HR.out.cell 3 _ rfl
  have y4 := HR.out.cell 4 _ rfl
  have y5 := HR.out.cell 5 _ rfl
  have y6 := HR.out.cell 6 _ rfl
  have y7 := HR.out.cell 7 _ rfl
  have y8 := HR.out.cell 8 _ rfl
  have y9 := HR.out.cell 9 _ rfl
  have y10 := HR.out.cell 10 _ rfl
  have y11 := HR.out.cell 11 _ rfl
  have y12 := HR.out.cell 12 _ rfl
  have y13 := HR.out.cell 13 _ rfl
  have y14 := HR.out.cell 14 _ rfl
  have y15 := HR.out.cell 15 _ rfl
  have y16 := HR.out.cell 16 _ rfl
  have y17 := HR.out.cell 17 _ rfl
  go_wp2_with (with_reducible refine wpList_store_new rfl rfl _ _ (.tmp 18) rfl _ cs _ ?qx ?qy ?q1 ?q2 ?q3 ?_)
  case qx => rfl
  case qy => rfl
  case q1 => rw [H18.out]; exact rowSizeR
  case q2 => rw [H18.out]; rfl
  case q3 => exact H1.out
  go_wp2_with fail
  clear d0 d1 d2 d3 d4 d5 d6 y0 y1 y2 y3 y4 y5 y6 y7 y8 y9 y10 y11 y12 y13 y14 y15 y16 y17 k1 k2 k3 k4 hmk
  have hvals : c.vals = [toU c.service, (bif false then 1 else 0), toU c.page, toU c.kind, c.lba, toU c.len] := by unfold Cmd.vals; rw [HVT.out]; rfl
  have HVALS := Lib.hid hvals
  have hvl : c.vals.length = 6 := rfl
  have HVL := Lib.hid hvl
  clear hvals hvl
  go_loopw [9, 10, 11] (fun vb ve vi wr => ∃ (k : Nat) (b : List UInt8) (er : Int), k ≤ 6 ∧ vi = .int .i64 (k : Int) ∧ ve = .int .i64 er ∧ RelE l c.vals c.op k b er ∧ OB wr w.heap.size vb b ∧ Upd [] w wr ∧ Blk wr (w1.heap.size + 1) (placeCells l) 79 ∧ Blk wr (w1.heap.size + 1 + 1) (numsU c.vals) 22) (fun _ _ vi _ => 6 - (intOf vi).toNat)
  case atStart =>
    refine ⟨0, startB c.op, 0, by omega, rfl, rfl, RelE.start, ?_, ?_, ?_, ?_⟩
    · have hs := HU1.out.size
      have := start_own c.op w.heap.size (((w1.alloc (.cells cs 81)).alloc (.cells (placeCells [(a0, s0, b0), (a1, s1, b1), (a2, s2, b2), (a3, s3, b3), (a4, s4, b4), (a5, s5, b5)]).toArray 79)).alloc (.cells (numsU [toU c.service, (bif false then 1 else 0), toU c.page, toU c.kind, c.lba, toU c.len]).toArray 22)) (by simp; omega)
      simp only [World.size_alloc] at this
      exact this
    · exact (((HU1.out.alloc _).alloc _).alloc _).alloc _
    · rw [HL.out]
      have := ((Blk.new (w1.alloc (.cells cs 81)) (placeCells [(a0, s0, b0), (a1, s1, b1), (a2, s2, b2), (a3, s3, b3), (a4, s4, b4), (a5, s5, b5)]) 79).alloc (.cells (numsU [toU c.service, (bif false then 1 else 0), toU c.page, toU c.kind, c.lba, toU c.len]).toArray 22)).alloc (.cells #[.int .u8 (c.op % 256), .int .u8 0, .int .u8 0, .int .u8 0, .int .u8 0, .int .u8 0, .int .u8 0, .int .u8 0, .int .u8 0, .int .u8 0, .int .u8 0, .int .u8 0, .int .u8 0, .int .u8 0, .int .u8 0, .int .u8 0] 5)
      simp only [World.size_alloc] at this
      exact this
    · rw [HVALS.out]
      have := (Blk.new ((w1.alloc (.cells cs 81)).alloc (.cells (placeCells [(a0, s0, b0), (a1, s1, b1), (a2, s2, b2), (a3, s3, b3), (a4, s4, b4), (a5, s5, b5)]).toArray 79)) (numsU [toU c.service, (bif false then 1 else 0), toU c.page, toU c.kind, c.lba, toU c.len]) 22).alloc (.cells #[.int .u8 (c.op % 256), .int .u8 0, .int .u8 0, .int .u8 0, .int .u8 0, .int .u8 0, .int .u8 0, .int .u8 0, .int .u8 0, .int .u8 0, .int .u8 0, .int .u8 0, .int .u8 0, .int .u8 0, .int .u8 0, .int .u8 0] 5)
      simp only [World.size_alloc] at this
      exact this
  case round =>
    obtain ⟨k, b, er, hk, rfl, rfl, r1, r2, r3, r4, r5⟩ := hrel
    have R1 := Lib.hid r1
    have R2 := Lib.hid r2
    have R3 := Lib.hid r3
    have R4 := Lib.hid r4
    have R5 := Lib.hid r5
    by_cases hlt : k < 6
    · have hl6 : l.length = 6 := by rw [HL.out]; rfl
      obtain ⟨n, hn⟩ : ∃ n, n = c.vals.getD k 0 := ⟨_, rfl⟩
      obtain ⟨pa, ps, pb, hpl⟩ : ∃ pa ps pb, l[k]'(by omega) = (pa, ps, pb) := ⟨_, _, _, rfl⟩
      obtain ⟨q0, q1, q2⟩ := placeCells_at l k (by omega)
      rw [hpl] at q0 q1 q2
      have hgd : l.getD k (0, 0, 0) = (pa, ps, pb) := by rw [List.getD_eq_getElem?_getD, List.getElem?_eq_getElem (by omega)]; exact hpl
      have hok : PlOk (pa, ps, pb) := by rw [← hpl]; exact HLok.out _ (List.getElem_mem _)
      have hnlt : n < 18446744073709551616 := by rw [hn]; exact vals_lt c HC.out k
      have hnc : (numsU c.vals)[k]? = some (.int .u64 (n : Int)) := by
        rw [hn]
        simp [numsU, List.getElem?_eq_getElem (show k < c.vals.length by rw [HVL.out]; exact hlt), List.getD_eq_getElem?_getD]
      have K : ∀ w', Upd [] wr w' → (w'.cell? ⟨w1.heap.size + 1, k * 3, none⟩ = some (.int .i64 (pa : Int)) ∧ w'.cell? ⟨w1.heap.size + 1, k * 3 + 1, none⟩ = some (.int .i64 (ps : Int)) ∧ w'.cell? ⟨w1.heap.size + 1, k * 3 + 2, none⟩ = some (.int .i64 (pb : Int)) ∧ w'.cell? ⟨w1.heap.size + 1 + 1, k, none⟩ = some (.int .u64 (n : Int)) ∧ Upd [] wr w') :=
        fun w' h => ⟨(R4.out.upd0 h).cell _ _ (by rw [Nat.mul_comm]; exact q0), (R4.out.upd0 h).cell _ _ (by rw [Nat.mul_comm]; exact q1), (R4.out.upd0 h).cell _ _ (by rw [Nat.mul_comm]; exact q2), (R5.out.upd0 h).cell _ _ hnc, h⟩
      have HN := Lib.hid hn
      have HGD := Lib.hid hgd
      have HOK := Lib.hid hok
      have hki0 : (0 : Int) ≤ (k : Int) := by omega
      have hki6 : (k : Int) < 6 := by omega
      clear hn hpl q0 q1 q2 hgd hok hnc r1 r2 r3 r4 r5 hl6
      go_wp2_with fail
      go_region_held3 (fun w' => w'.cell? ⟨w1.heap.size + 1, k * 3, none⟩ = some (.int .i64 (pa : Int)) ∧ w'.cell? ⟨w1.heap.size + 1, k * 3 + 1, none⟩ = some (.int .i64 (ps : Int)) ∧ w'.cell? ⟨w1.heap.size + 1, k * 3 + 2, none⟩ = some (.int .i64 (pb : Int)) ∧ w'.cell? ⟨w1.heap.size + 1 + 1, k, none⟩ = some (.int .u64 (n : Int)) ∧ Upd [] wr w')
        (first | exact K _ (Upd.refl _ _).drew | (refine K _ (Upd.trans ?_ hUc); go_split_ands; assumption))
        (first | (go_at_call 58; refine (rstep_c _ b (pa, ps, pb) n w.heap.size _ (R2.out.upd0 (by go_split_ands; assumption)) (R3.out.trans (by go_split_ands; assumption)).size HOK.out R1.out.1 hnlt).mono ?_; rintro e w5 ⟨r, rfl, V, E, rfl, hUc, hRS⟩))
      clear K
      have hU5 : Upd [] wr w5 := by go_split_ands; assumption
      have U5 := Lib.hid hU5
      clear hU5 hUc
      rcases hRS with ⟨hs, rfl⟩ | ⟨hs, rfl⟩ | ⟨b', hs, rfl, hO'⟩
      · have hrel := RelE.fail R1.out (by rw [HGD.out, ← HN.out]; exact hs)
        have HREL := Lib.hid hrel
        clear hs hrel
        go_wp2_with fail
        go_roundw
        case rel => exact ⟨k + 1, b, 3, by omega, by go_num, rfl, HREL.out, R2.out.upd0 U5.out, R3.out.trans U5.out, R4.out.upd0 U5.out, R5.out.upd0 U5.out⟩
        case measure => simp [intOf]; omega
      · have hrel := RelE.form R1.out (by rw [HGD.out, ← HN.out]; exact hs)
        by_cases he : er = 0
        · rw [if_pos he] at hrel
          subst he
          have HREL := Lib.hid hrel
          clear hs hrel
          go_wp2_with fail
          go_roundw
          case rel => exact ⟨k + 1, b, 11, by omega, by go_num, rfl, HREL.out, R2.out.upd0 U5.out, R3.out.trans U5.out, R4.out.upd0 U5.out, R5.out.upd0 U5.out⟩
          case measure => simp [intOf]; omega
        · rw [if_neg he] at hrel
          have hb0 : (er == 0) = false := by rw [beq_eq_false_iff_ne]; exact he
          have HREL := Lib.hid hrel
          clear hs hrel he
          go_wp2_with fail
          go_roundw
          case rel => exact ⟨k + 1, b, er, by omega, by go_num, rfl, HREL.out, R2.out.upd0 U5.out, R3.out.trans U5.out, R4.out.upd0 U5.out, R5.out.upd0 U5.out⟩
          case measure => simp [intOf]; omega
      · have hrel := RelE.ok R1.out (by rw [HGD.out]; exact HOK.out) (by rw [HGD.out, ← HN.out]; exact hs)
        have HREL := Lib.hid hrel
        have HO' := Lib.hid hO'
        clear hs hrel hO'
        go_wp2_with fail
        go_roundw
        case rel => exact ⟨k + 1, b', er, by omega, by go_num, rfl, HREL.out, HO'.out, R3.out.trans U5.out, R4.out.upd0 U5.out, R5.out.upd0 U5.out⟩
        case measure => simp [intOf]; omega
    · obtain rfl : k = 6 := by omega
      rcases r1.2 with ⟨rfl, hr⟩ | ⟨rfl, hr⟩ | ⟨rfl, hr⟩
      · have hbb : buildB c = (0, b) := buildB_ok HP.out hr
        have HBB := Lib.hid hbb
        clear hbb hr r1 r2 r3 r4 r5
        go_wp2_with fail
        go_ret2
        rw [HBB.out]
        exact ⟨_, rfl, _, rfl, R2.out, R3.out⟩
      · have hbb : buildB c = (11, []) := buildB_strange HP.out hr
        have HBB := Lib.hid hbb
        clear hbb hr r1 r2 r3 r4 r5
        go_wp2_with fail
        go_ret2
        rw [HBB.out]
        exact ⟨_, rfl, _, rfl, OB.nil _ _, R3.out⟩
      · have hbb : buildB c = (3, []) := buildB_stop HP.out hr
        have HBB := Lib.hid hbb
        clear hbb hr r1 r2 r3 r4 r5
        go_wp2_with fail
        go_ret2
        rw [HBB.out]
        exact ⟨_, rfl, _, rfl, OB.nil _ _, R3.out⟩
set_option maxRecDepth 20000 in
set_option maxHeartbeats 2000000 in
theorem rbuild_true (c : Cmd) (hc : c.Ok) (hvt : c.vital = true) (l : List (Nat × Nat × Nat)) (hp : placesOf c.op = some l) (w : World) :
    Calls Tryd.prog 41 #[.agg #[.int .i64 c.op, .int .i64 c.service, .int .i64 c.page, .bool true, .int .i64 c.kind, .int .u64 c.lba, .int .i64 c.len]] w (Ret fun r w' => ∃ v, r = .tuple #[v, .int .i64 (buildB c).1] ∧ OB w' w.heap.size v (buildB c).2 ∧ Upd [] w w') := by
  have HC := Lib.hid hc
  have HVT := Lib.hid hvt
  obtain ⟨cs, hcs⟩ : ∃ cs, cs = (placeCells (rowL c.op)).toArray := ⟨_, rfl⟩
  obtain ⟨hl6, hlok⟩ := placesOf_ok hp
  have hrow : rowL c.op = l := by unfold rowL; rw [hp]; rfl
  have hrl : (rowL c.op).length = 6 := by rw [hrow]; exact hl6
  obtain ⟨h18, h1⟩ := placeCells_row hrl
  rw [← hcs] at h18 h1
  have H18 := Lib.hid h18
  have H1 := Lib.hid h1
  have HCS := Lib.hid hcs
  have HLok := Lib.hid hlok
  have HP := Lib.hid hp
  have HROW := Lib.hid hrow
  obtain ⟨⟨a0, s0, b0⟩, ⟨a1, s1, b1⟩, ⟨a2, s2, b2⟩, ⟨a3, s3, b3⟩, ⟨a4, s4, b4⟩, ⟨a5, s5, b5⟩, hl⟩ := list6 l hl6
  have HL := Lib.hid hl
  have k1 := toU_wrap c.service
  have k2 := toU_wrap c.page
  have k3 := toU_wrap c.kind
  have k4 := toU_wrap c.len
  have hmk := make16
  clear hcs hrl h18 h1 hc hvt hp hl6 hlok hrow hl
  go_enter Tryd.func41, Tryd.ntmps41
  go_wp2_with fail
  refine (rowOf_c c.op _).mono ?_
  rintro e w1 ⟨rfl, hU⟩
  rw [HP.out, ← HCS.out]
  have HU := Lib.hid hU
  clear hU
  have hP := (Blk.new w [.int .i64 c.op, .int .i64 c.service, .int .i64 c.page, .bool true, .int .i64 c.kind, .int .u64 c.lba, .int .i64 c.len] 24).upd0 HU.out
  have HU1 := Lib.hid (((Upd.refl [] w).alloc (.cells ([.int .i64 c.op, .int .i64 c.service, .int .i64 c.page, .bool true, .int .i64 c.kind, .int .u64 c.lba, .int .i64 c.len] : List Value).toArray 24)).trans HU.out)
  have HPB := Lib.hid hP
  clear hP
  have hR := Blk.new w1 (placeCells [(a0, s0, b0), (a1, s1, b1), (a2, s2, b2), (a3, s3, b3), (a4, s4, b4), (a5, s5, b5)]) 81
  have hce : (placeCells [(a0, s0, b0), (a1, s1, b1), (a2, s2, b2), (a3, s3, b3), (a4, s4, b4), (a5, s5, b5)]).toArray = cs := by rw [HCS.out, HROW.out, HL.out]
  rw [hce] at hR
  have HR := Lib.hid hR
  clear hR hce
  have d3 := (HPB.out.alloc (.cells cs 81)).cell 3 _ rfl
  have d1 := fun o => ((HPB.out.alloc (.cells cs 81)).alloc o).cell 1 _ rfl
  have d2 := fun o => ((HPB.out.alloc (.cells cs 81)).alloc o).cell 2 _ rfl
  have d4 := fun o => ((HPB.out.alloc (.cells cs 81)).alloc o).cell 4 _ rfl
  have d5 := fun o => ((HPB.out.alloc (.cells cs 81)).alloc o).cell 5 _ rfl
  have d6 := fun o => ((HPB.out.alloc (.cells cs 81)).alloc o).cell 6 _ rfl
  have d0 := fun o1 o2 o3 => ((((HPB.out.alloc (.cells cs 81)).alloc o1).alloc o2).alloc o3).cell 0 _ rfl
  have y0 := HR.out.cell 0 _ rfl
  have y1 := HR.out.cell 1 _ rfl
  have y2 := HR.out.cell 2 _ rfl
  have y3 := HR.out.cell 3 _ rfl
  have y4 := HR.out.cell 4 _ rfl
  have y5 := HR.out.cell 5 _ rfl
  have y6 := HR.out.cell 6 _ rfl
  have y7 := HR.out.cell 7 _ rfl
  have y8 := HR.out.cell 8 _ rfl
  have y9 := HR.out.cell 9 _ rfl
  have y10 := HR.out.cell 10 _ rfl
  have y11 := HR.out.cell 11 _ rfl
  have y12 := HR.out.cell 12 _ rfl
  have y13 := HR.out.cell 13 _ rfl
  have y14 := HR.out.cell 14 _ rfl
  have y15 := HR.out.cell 15 _ rfl
  have y16 := HR.out.cell 16 _ rfl
  have y17 := HR.out.cell 17 _ rfl
  go_wp2_with (with_reducible refine wpList_store_new rfl rfl _ _ (.tmp 18) rfl _ cs _ ?qx ?qy ?q1 ?q2 ?q3 ?_)
  case qx => rfl
  case qy => rfl
  case q1 => rw [H18.out]; exact rowSizeR
  case q2 => rw [H18.out]; rfl
  case q3 => exact H1.out
  go_wp2_with fail
  clear d0 d1 d2 d3 d4 d5 d6 y0 y1 y2 y3 y4 y5 y6 y7 y8 y9 y10 y11 y12 y13 y14 y15 y16 y17 k1 k2 k3 k4 hmk
  have hvals : c.vals = [toU c.service, (bif true then 1 else 0), toU c.page, toU c.kind, c.lba, toU c.len] := by unfold Cmd.vals; rw [HVT.out]; rfl
  have HVALS := Lib.hid hvals
  have hvl : c.vals.length = 6 := rfl
  have HVL := Lib.hid hvl
  clear hvals hvl
  go_loopw [9, 10, 11] (fun vb ve vi wr => ∃ (k : Nat) (b : List UInt8) (er : Int), k ≤ 6 ∧ vi = .int .i64 (k : Int) ∧ ve = .int .i64 er ∧ RelE l c.vals c.op k b er ∧ OB wr w.heap.size vb b ∧ Upd [] w wr ∧ Blk wr (w1.heap.size + 1) (placeCells l) 79 ∧ Blk wr (w1.heap.size + 1 + 1) (numsU c.vals) 22) (fun _ _ vi _ => 6 - (intOf vi).toNat)
  case atStart =>
    refine ⟨0, startB c.op, 0, by omega, rfl, rfl, RelE.start, ?_, ?_, ?_, ?_⟩
    · have hs := HU1.out.size
      have := start_own c.op w.heap.size (((w1.alloc (.cells cs 81)).alloc (.cells (placeCells [(a0, s0, b0), (a1, s1, b1), (a2, s2, b2), (a3, s3, b3), (a4, s4, b4), (a5, s5, b5)]).toArray 79)).alloc (.cells (numsU [toU c.service, (bif true then 1 else 0), toU c.page, toU c.kind, c.lba, toU c.len]).toArray 22)) (by simp; omega)
      simp only [World.size_alloc] at this
      exact this
    · exact (((HU1.out.alloc _).alloc _).alloc _).alloc _
    · rw [HL.out]
      have := ((Blk.new (w1.alloc (.cells cs 81)) (placeCells [(a0, s0, b0), (a1, s1, b1), (a2, s2, b2), (a3, s3, b3), (a4, s4, b4), (a5, s5, b5)]) 79).alloc (.cells (numsU [toU c.service, (bif true then 1 else 0), toU c.page, toU c.kind, c.lba, toU c.len]).toArray 22)).alloc (.cells #[.int .u8 (c.op % 256), .int .u8 0, .int .u8 0, .int .u8 0, .int .u8 0, .int .u8 0, .int .u8 0, .int .u8 0, .int .u8 0, .int .u8 0, .int .u8 0, .int .u8 0, .int .u8 0, .int .u8 0, .int .u8 0, .int .u8 0] 5)
      simp only [World.size_alloc] at this
      exact this
    · rw [HVALS.out]
      have := (Blk.new ((w1.alloc (.cells cs 81)).alloc (.cells (placeCells [(a0, s0, b0), (a1, s1, b1), (a2, s2, b2), (a3, s3, b3), (a4, s4, b4), (a5, s5, b5)]).toArray 79)) (numsU [toU c.service, (bif true then 1 else 0), toU c.page, toU c.kind, c.lba, toU c.len]) 22).alloc (.cells #[.int .u8 (c.op % 256), .int .u8 0, .int .u8 0, .int .u8 0, .int .u8 0, .int .u8 0, .int .u8 0, .int .u8 0, .int .u8 0, .int .u8 0, .int .u8 0, .int .u8 0, .int .u8 0, .int .u8 0, .int .u8 0, .int .u8 0] 5)
      simp only [World.size_alloc] at this
      exact this
  case round =>
    obtain ⟨k, b, er, hk, rfl, rfl, r1, r2, r3, r4, r5⟩ := hrel
    have R1 := Lib.hid r1
    have R2 := Lib.hid r2
    have R3 := Lib.hid r3
    have R4 := Lib.hid r4
    have R5 := Lib.hid r5
    by_cases hlt : k < 6
    · have hl6 : l.length = 6 := by rw [HL.out]; rfl
      obtain ⟨n, hn⟩ : ∃ n, n = c.vals.getD k 0 := ⟨_, rfl⟩
      obtain ⟨pa, ps, pb, hpl⟩ : ∃ pa ps pb, l[k]'(by omega) = (pa, ps, pb) := ⟨_, _, _, rfl⟩
      obtain ⟨q0, q1, q2⟩ := placeCells_at l k (by omega)
      rw [hpl] at q0 q1 q2
      have hgd : l.getD k (0, 0, 0) = (pa, ps, pb) := by rw [List.getD_eq_getElem?_getD, List.getElem?_eq_getElem (by omega)]; exact hpl
      have hok : PlOk (pa, ps, pb) := by rw [← hpl]; exact HLok.out _ (List.getElem_mem _)
      have hnlt : n < 18446744073709551616 := by rw [hn]; exact vals_lt c HC.out k
      have hnc : (numsU c.vals)[k]? = some (.int .u64 (n : Int)) := by
        rw [hn]
        simp [numsU, List.getElem?_eq_getElem (show k < c.vals.length by rw [HVL.out]; exact hlt), List.getD_eq_getElem?_getD]
      have K : ∀ w', Upd [] wr w' → (w'.cell? ⟨w1.heap.size + 1, k * 3, none⟩ = some (.int .i64 (pa : Int)) ∧ w'.cell? ⟨w1.heap.size + 1, k * 3 + 1, none⟩ = some (.int .i64 (ps : Int)) ∧ w'.cell? ⟨w1.heap.size + 1, k * 3 + 2, none⟩ = some (.int .i64 (pb : Int)) ∧ w'.cell? ⟨w1.heap.size + 1 + 1, k, none⟩ = some (.int .u64 (n : Int)) ∧ Upd [] wr w') :=
        fun w' h => ⟨(R4.out.upd0 h).cell _ _ (by rw [Nat.mul_comm]; exact q0), (R4.out.upd0 h).cell _ _ (by rw [Nat.mul_comm]; exact q1), (R4.out.upd0 h).cell _ _ (by rw [Nat.mul_comm]; exact q2), (R5.out.upd0 h).cell _ _ hnc, h⟩
      have HN := Lib.hid hn
      have HGD := Lib.hid hgd
      have HOK := Lib.hid hok
      have hki0 : (0 : Int) ≤ (k : Int) := by omega
      have hki6 : (k : Int) < 6 := by omega
      clear hn hpl q0 q1 q2 hgd hok hnc r1 r2 r3 r4 r5 hl6
      go_wp2_with fail
      go_region_held3 (fun w' => w'.cell? ⟨w1.heap.size + 1, k * 3, none⟩ = some (.int .i64 (pa : Int)) ∧ w'.cell? ⟨w1.heap.size + 1, k * 3 + 1, none⟩ = some (.int .i64 (ps : Int)) ∧ w'.cell? ⟨w1.heap.size + 1, k * 3 + 2, none⟩ = some (.int .i64 (pb : Int)) ∧ w'.cell? ⟨w1.heap.size + 1 + 1, k, none⟩ = some (.int .u64 (n : Int)) ∧ Upd [] wr w')
        (first | exact K _ (Upd.refl _ _).drew | (refine K _ (Upd.trans ?_ hUc); go_split_ands; assumption))
        (first | (go_at_call 58; refine (rstep_c _ b (pa, ps, pb) n w.heap.size _ (R2.out.upd0 (by go_split_ands; assumption)) (R3.out.trans (by go_split_ands; assumption)).size HOK.out R1.out.1 hnlt).mono ?_; rintro e w5 ⟨r, rfl, V, E, rfl, hUc, hRS⟩))
      clear K
      have hU5 : Upd [] wr w5 := by go_split_ands; assumption
      have U5 := Lib.hid hU5
      clear hU5 hUc
      rcases hRS with ⟨hs, rfl⟩ | ⟨hs, rfl⟩ | ⟨b', hs, rfl, hO'⟩
      · have hrel := RelE.fail R1.out (by rw [HGD.out, ← HN.out]; exact hs)
        have HREL := Lib.hid hrel
        clear hs hrel
        go_wp2_with fail
        go_roundw
        case rel => exact ⟨k + 1, b, 3, by omega, by go_num, rfl, HREL.out, R2.out.upd0 U5.out, R3.out.trans U5.out, R4.out.upd0 U5.out, R5.out.upd0 U5.out⟩
        case measure => simp [intOf]; omega
      · have hrel := RelE.form R1.out (by rw [HGD.out, ← HN.out]; exact hs)
        by_cases he : er = 0
        · rw [if_pos he] at hrel
          subst he
          have HREL := Lib.hid hrel
          clear hs hrel
          go_wp2_with fail
          go_roundw
          case rel => exact ⟨k + 1, b, 11, by omega, by go_num, rfl, HREL.out, R2.out.upd0 U5.out, R3.out.trans U5.out, R4.out.upd0 U5.out, R5.out.upd0 U5.out⟩
          case measure => simp [intOf]; omega
        · rw [if_neg he] at hrel
          have hb0 : (er == 0) = false := by rw [beq_eq_false_iff_ne]; exact he
          have HREL := Lib.hid hrel
          clear hs hrel he
          go_wp2_with fail
          go_roundw
          case rel => exact ⟨k + 1, b, er, by omega, by go_num, rfl, HREL.out, R2.out.upd0 U5.out, R3.out.trans U5.out, R4.out.upd0 U5.out, R5.out.upd0 U5.out⟩
          case measure => simp [intOf]; omega
      · have hrel := RelE.ok R1.out (by rw [HGD.out]; exact HOK.out) (by rw [HGD.out, ← HN.out]; exact hs)
        have HREL := Lib.hid hrel
        have HO' := Lib.hid hO'
        clear hs hrel hO'
        go_wp2_with fail
        go_roundw
        case rel => exact ⟨k + 1, b', er, by omega, by go_num, rfl, HREL.out, HO'.out, R3.out.trans U5.out, R4.out.upd0 U5.out, R5.out.upd0 U5.out⟩
        case measure => simp [intOf]; omega
    · obtain rfl : k = 6 := by omega
      rcases r1.2 with ⟨rfl, hr⟩ | ⟨rfl, hr⟩ | ⟨rfl, hr⟩
      · have hbb : buildB c = (0, b) := buildB_ok HP.out hr
        have HBB := Lib.hid hbb
        clear hbb hr r1 r2 r3 r4 r5
        go_wp2_with fail
        go_ret2
        rw [HBB.out]
        exact ⟨_, rfl, _, rfl, R2.out, R3.out⟩
      · have hbb : buildB c = (11, []) := buildB_strange HP.out hr
        have HBB := Lib.hid hbb
        clear hbb hr r1 r2 r3 r4 r5
        go_wp2_with fail
        go_ret2
        rw [HBB.out]
        exact ⟨_, rfl, _, rfl, OB.nil _ _, R3.out⟩
      · have hbb : buildB c = (3, []) := buildB_stop HP.out hr
        have HBB := Lib.hid hbb
        clear hbb hr r1 r2 r3 r4 r5
        go_wp2_with fail
        go_ret2
        rw [HBB.out]
        exact ⟨_, rfl, _, rfl, OB.nil _ _, R3.out⟩
theorem rbuild_c (c : Cmd) (hc : c.Ok) (w : World) :
    Calls Tryd.prog 41 #[c.val] w (Ret fun r w' => ∃ v, r = .tuple #[v, .int .i64 (buildB c).1] ∧ OB w' w.heap.size v (buildB c).2 ∧ Upd [] w w') := by
  cases hp : placesOf c.op with
  | none =>
    obtain ⟨cs, hcs⟩ : ∃ cs, cs = (placeCells (rowL c.op)).toArray := ⟨_, rfl⟩
    have hrl : (rowL c.op).length = 6 := by unfold rowL; rw [hp]; rfl
    obtain ⟨h18, h1⟩ := placeCells_row hrl
    rw [← hcs] at h18 h1
    have H18 := Lib.hid h18
    have H1 := Lib.hid h1
    have HCS := Lib.hid hcs
    have hbb : buildB c = (1, []) := buildB_none hp
    rw [hbb]
    have HP := Lib.hid hp
    clear hp hbb hcs hrl h18 h1
    unfold Cmd.val
    go_enter Tryd.func41, Tryd.ntmps41
    go_wp2_with fail
    refine (rowOf_c c.op _).mono ?_
    rintro e w1 ⟨rfl, hU⟩
    rw [HP.out, ← HCS.out]
    have HU := Lib.hid hU
    clear hU
    go_wp2_with (with_reducible refine wpList_store_new rfl rfl _ _ _ rfl _ cs _ ?qx ?qy ?q1 ?q2 ?q3 ?_)
    case qx => rfl
    case qy => rfl
    case q1 => rw [H18.out]; exact rowSizeR
    case q2 => rw [H18.out]; rfl
    case q3 => exact H1.out
    go_wp2_with fail
    go_ret2
    exact ⟨_, rfl, _, rfl, OB.nil _ _, (((Upd.refl _ _).alloc _).trans HU.out).alloc _⟩
  | some l =>
    cases hv : c.vital with
    | false =>
      have := rbuild_false c hc hv l hp w
      unfold Cmd.val
      rw [hv]
      exact this
    | true =>
      have := rbuild_true c hc hv l hp w
      unfold Cmd.val
      rw [hv]
      exact this
end Go.Proofs.YtpkljdjdapgmjaaDoor
