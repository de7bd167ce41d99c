/- The contract of cdb.Parse, In, Out. -/
import Derived.Test.YtpkljdjdapgmjaaDoorCc
import Derived.Deep.RegionHeld3
namespace Go.Proofs.YtpkljdjdapgmjaaDoor
open Go.RowKit
set_option linter.unusedVariables false
set_option linter.unusedSimpArgs false

theorem infoPlace : (Tryd.prog.info? 70).map (·.size) = some 3 := by kernel_rfl
theorem idxPlaces (l : List (Nat × Nat × Nat)) (k : Nat) (hk : k < 6) (hl : l.length = 6) (a s b : Nat) (hp : l[k]'(by omega) = (a, s, b)) (w : World) :
    (Instr.index 71 (.agg (placeCells l).toArray) (.int .i64 (k : Int))).run Tryd.prog w = .ok (.agg #[.int .i64 (a : Int), .int .i64 (s : Int), .int .i64 (b : Int)]) w := by
  obtain ⟨i, hi, hs⟩ := Option.map_eq_some_iff.1 infoPlace
  rw [run_index_agg w _ _ 6 _ i Tryd.underlying71 Tryd.underlying70 rfl hi _ k hk, hs]
  refine congrArg (fun x => Result.ok (Value.agg x) w) ?_
  obtain ⟨q0, q1, q2⟩ := placeCells_at l k (by omega)
  rw [hp] at q0 q1 q2
  apply Array.ext_getElem?
  intro j
  rw [Array.getElem?_extract]
  have hlen : (placeCells l).length = 18 := by
    have h : ∀ l : List (Nat × Nat × Nat), (placeCells l).length = 3 * l.length := by
      intro l
      induction l with
      | nil => rfl
      | cons p l ih => simp only [placeCells, List.flatMap_cons, List.length_append, List.length_cons, List.length_nil] at ih ⊢; omega
    rw [h, hl]
  obtain rfl | rfl | rfl | h3 : j = 0 ∨ j = 1 ∨ j = 2 ∨ 3 ≤ j := by omega
  · simp [hlen, show 3 * k = k * 3 by omega] at q0 ⊢
    simpa [show min (k * 3 + 3) 18 - k * 3 = 3 by omega] using q0
  · simp [hlen, show 3 * k = k * 3 by omega] at q1 ⊢
    simpa [show min (k * 3 + 3) 18 - k * 3 = 3 by omega] using q1
  · simp [hlen, show 3 * k = k * 3 by omega] at q2 ⊢
    simpa [show min (k * 3 + 3) 18 - k * 3 = 3 by omega] using q2
  · simp [hlen]
    rw [if_neg (by omega)]
    simp; omega

theorem placeCells_length (l : List (Nat × Nat × Nat)) : (placeCells l).length = 3 * l.length := by
  induction l with
  | nil => rfl
  | cons p l ih => simp only [placeCells, List.flatMap_cons, List.length_append, List.length_cons, List.length_nil] at ih ⊢; omega
/-- The value of a field, read. -/
def fieldB (p : Nat × Nat × Nat) (bs : List UInt8) : Nat := let n := nb ((bs.drop p.1).take p.2.1); if 0 < p.2.2 then n % 2 ^ p.2.2 else n
/-- The first k fields, read. -/
def readB (l : List (Nat × Nat × Nat)) (bs : List UInt8) : Nat → List Nat
  | 0 => List.replicate 6 0
  | k + 1 => if (l.getD k (0, 0, 0)).2.1 = 0 then readB l bs k else (readB l bs k).set k (fieldB (l.getD k (0, 0, 0)) bs)
theorem readB_length (l : List (Nat × Nat × Nat)) (bs : List UInt8) (k : Nat) : (readB l bs k).length = 6 := by
  induction k with
  | zero => simp [readB]
  | succ k ih => unfold readB; split <;> simp [ih]
/-- A command out of its fields' values. -/
def cmdOf (op : Int) (vs : List Nat) : Cmd := ⟨op, wrap64 (vs.getD 0 0), wrap64 (vs.getD 2 0), vs.getD 1 0 == 1, wrap64 (vs.getD 3 0), vs.getD 4 0, wrap64 (vs.getD 5 0)⟩
def zeroCmd : Cmd := ⟨0, 0, 0, false, 0, 0, 0⟩
/-- What Parse answers. -/
def parseB (bs : List UInt8) : Int × Cmd :=
  if bs.length = 16 then
    match placesOf (bs.getD 0 0).toNat with
    | none => (1, zeroCmd)
    | some l =>
      let c := cmdOf (bs.getD 0 0).toNat (readB l bs 6)
      if (buildB c).1 = 0 ∧ (buildB c).2 = bs then (0, c) else (11, zeroCmd)
  else (3, zeroCmd)

theorem and_mask (n b : Nat) (hn : n < 18446744073709551616) (hb : b ≤ 8) : bits .and .u64 (n : Int) ((2 : Int) ^ b - 1) = ((n % 2 ^ b : Nat) : Int) := by
  have h2 : 2 ^ b ≤ 256 := by
    have := Nat.pow_le_pow_right (n := 2) (by omega) hb
    simpa using this
  have h1 : 1 ≤ 2 ^ b := Nat.one_le_two_pow
  have e : (2 : Int) ^ b - 1 = ((2 ^ b - 1 : Nat) : Int) := by
    rw [Int.natCast_sub h1]; push_cast; rfl
  rw [e, u64_and_nat _ _ hn (by omega), Nat.and_two_pow_sub_one_eq_mod]

theorem and_mask' (n b : Nat) (hn : n < 18446744073709551616) (hb : b ≤ 8) : bits .and .u64 (n : Int) (IntKind.u64.wrap (IntKind.u64.wrap ((2 : Int) ^ b) - 1)) = ((n % 2 ^ b : Nat) : Int) := by
  have h2 : 2 ^ b ≤ 256 := by
    have := Nat.pow_le_pow_right (n := 2) (by omega) hb
    simpa using this
  have h1 : 1 ≤ 2 ^ b := Nat.one_le_two_pow
  have e0 : (2 : Int) ^ b = ((2 ^ b : Nat) : Int) := by push_cast; rfl
  have e : IntKind.u64.wrap (IntKind.u64.wrap ((2 : Int) ^ b) - 1) = (2 : Int) ^ b - 1 := by
    rw [e0, IntKind.wrap_u64, IntKind.wrap_u64]; omega
  rw [e, and_mask n b hn hb]
theorem set_num (w : World) {W : World} {g k n : Nat} {vs : List Nat} {t : TypeId} (h : Blk W g (numsU vs) t) : Blk (W.setCell ⟨g, k, none⟩ (.int .u64 (n : Int))) g (numsU (vs.set k n)) t := by
  have := h.set k (.int .u64 (n : Int))
  simpa [numsU, List.map_set] using this
theorem beq_cast (n : Nat) : ((n : Int) == 1) = (n == 1) := by
  rw [Bool.eq_iff_iff, beq_iff_eq, beq_iff_eq]; omega
theorem wrap64_bd (n : Int) : -9223372036854775808 ≤ wrap64 n ∧ wrap64 n ≤ 9223372036854775807 := by unfold wrap64; omega
theorem vs_lt {l : List (Nat × Nat × Nat)} {bs : List UInt8} (hl : ∀ p ∈ l, PlOk p) (k : Nat) : ∀ x ∈ readB l bs k, x < 18446744073709551616 := by
  induction k with
  | zero => intro x hx; simp [readB] at hx; omega
  | succ k ih =>
    intro x hx
    unfold readB at hx
    split at hx
    · exact ih x hx
    · rename_i hz
      rcases List.mem_or_eq_of_mem_set hx with h | h
      · exact ih x h
      · subst h
        have hs : (l.getD k (0, 0, 0)).2.1 ≤ 8 := by
          have hok : PlOk (l.getD k (0, 0, 0)) := by
            by_cases hk : k < l.length
            · rw [List.getD_eq_getElem?_getD, List.getElem?_eq_getElem hk]; exact hl _ (List.getElem_mem hk)
            · rw [List.getD_eq_getElem?_getD, List.getElem?_eq_none (by omega)]; left; rfl
          rcases hok with h | ⟨h, _⟩
          · omega
          · omega
        have h1 := nb_lt ((bs.drop (l.getD k (0, 0, 0)).1).take (l.getD k (0, 0, 0)).2.1)
        have h2 : 256 ^ ((bs.drop (l.getD k (0, 0, 0)).1).take (l.getD k (0, 0, 0)).2.1).length ≤ 256 ^ 8 := Nat.pow_le_pow_right (by omega) (by rw [List.length_take]; omega)
        have h3 : (256 : Nat) ^ 8 = 18446744073709551616 := by decide
        unfold fieldB
        dsimp only
        split
        · exact Nat.lt_of_le_of_lt (Nat.mod_le _ _) (by omega)
        · omega
theorem cmdOf_ok {l : List (Nat × Nat × Nat)} {bs : List UInt8} (hl : ∀ p ∈ l, PlOk p) (x : UInt8) (k : Nat) : (cmdOf x.toNat (readB l bs k)).Ok := by
  have hx := x.toNat_lt
  have h4 : (readB l bs k).getD 4 0 < 18446744073709551616 := by
    rw [List.getD_eq_getElem?_getD, List.getElem?_eq_getElem (by rw [readB_length]; omega)]
    exact vs_lt hl k _ (List.getElem_mem _)
  exact ⟨by simp [cmdOf]; omega, wrap64_bd _, wrap64_bd _, wrap64_bd _, h4, wrap64_bd _⟩

set_option maxRecDepth 20000 in
set_option maxHeartbeats 1000000 in
theorem parse_c (v : Value) (bs : List UInt8) (w : World) (hb : RB w v bs) (hT : Tab w) :
    Calls Tryd.prog 12 #[v] w fun e w' => e = .returned (.tuple #[(parseB bs).2.val, .int .i64 (parseB bs).1]) ∧ Upd [] w w' := by
  have HT := Lib.hid hT
  have HBB := Lib.hid hb
  clear hT
  by_cases h16 : bs.length = 16
  · obtain ⟨g0, off, cap, rfl, hlc, hcm, hc⟩ := hb.open_pos (by omega)
    obtain ⟨x, hx⟩ : ∃ x, x = bs.getD 0 0 := ⟨_, rfl⟩
    have c0 : w.cell? ⟨g0, off, none⟩ = some (.int .u8 (x.toNat : Int)) := by
      have := hc 0 (by omega)
      rw [hx, List.getD_eq_getElem?_getD, List.getElem?_eq_getElem (show 0 < bs.length by omega)]
      simpa using this
    have HX := Lib.hid hx
    have HL := Lib.hid h16
    have hne : ((bs.length : Int) != 16) = false := by rw [h16]; rfl
    have hpos : 0 < bs.length := by omega
    have hxl := x.toNat_lt
    have hl0 : ∀ o, (w.alloc o).cell? ⟨g0, off, none⟩ = some (.int .u8 (x.toNat : Int)) := fun o => ((Upd.refl [] w).alloc o).cell_ c0
    clear hc c0 hx h16 hb
    go_enter Tryd.func12, Tryd.ntmps12
    go_wp2_with fail
    refine (find_c x.toNat _ (HT.out.upd0 ((Upd.refl _ _).alloc _))).mono ?_
    rintro e w1 ⟨r, rfl, hU, h | ⟨l, g, hp, rfl, hg, hB⟩⟩
    · obtain ⟨h1, rfl⟩ := h
      have hpp : parseB bs = (1, zeroCmd) := by unfold parseB; rw [if_pos HL.out, ← HX.out, h1]
      have HP := Lib.hid hpp
      clear hpp h1 hl0
      have hW := ((Blk.new w [.int .i64 0, .int .i64 0, .int .i64 0, .bool false, .int .i64 0, .int .u64 0, .int .i64 0] 30).upd0 hU)
      have HW := Lib.hid hW
      have HU := Lib.hid hU
      clear hW hU
      go_wp2_with (with_reducible refine wpList_store_blk rfl rfl 30 (.tmp 2) (.tmp 24) rfl w.heap.size _ [.int .i64 0, .int .i64 0, .int .i64 0, .bool false, .int .i64 0, .int .u64 0, .int .i64 0] _ ?h1_1 ?h1_2 HW.out ?h1_3 ?h1_4 ?h1_5 ?_)
      case h1_1 => rfl
      case h1_2 => rfl
      case h1_3 => kernel_rfl
      case h1_4 => rfl
      case h1_5 => kernel_rfl
      intro W h1 h2
      have z0 := h1.cell 0 _ rfl
      have z1 := h1.cell 1 _ rfl
      have z2 := h1.cell 2 _ rfl
      have z3 := h1.cell 3 _ rfl
      have z4 := h1.cell 4 _ rfl
      have z5 := h1.cell 5 _ rfl
      have z6 := h1.cell 6 _ rfl
      go_wp2_with fail
      refine bodyPost_ret (v := .tuple #[zeroCmd.val, .int .i64 1]) (by simp [results, Tryd.results12, go_sem, Cmd.val, zeroCmd, z0, z1, z2, z3, z4, z5, z6]) rfl ?_
      rw [HP.out]
      exact ⟨rfl, (((Upd.refl _ _).alloc _).trans HU.out).trans' h2 (by simp)⟩
    · obtain ⟨hl6, hlok⟩ := placesOf_ok hp
      have hW := ((Blk.new w [.int .i64 0, .int .i64 0, .int .i64 0, .bool false, .int .i64 0, .int .u64 0, .int .i64 0] 30).upd0 hU)
      have HW := Lib.hid hW
      have HU := Lib.hid (((Upd.refl [] w).alloc (.cells #[.int .i64 0, .int .i64 0, .int .i64 0, .bool false, .int .i64 0, .int .u64 0, .int .i64 0] 30)).trans hU)
      have HP := Lib.hid hp
      have HB := Lib.hid hB
      have HL6 := Lib.hid hl6
      have HLok := Lib.hid hlok
      clear hW hU hp hg hB hl6 hlok hl0
      have hcl : (placeCells l).length = 18 := by rw [placeCells_length, HL6.out]
      have HCL := Lib.hid hcl
      clear hcl
      go_wp2_with (with_reducible refine wpList_load_cells rfl 71 (.tmp 27) rfl g 1 ?h2_1 (placeCells l) _ ?h2_2 Tryd.underlying71 rfl ?h2_3 ?_)
      case h2_1 => rfl
      case h2_2 =>
        intro j v hj
        exact (HB.out.alloc _).cell _ _ (by rw [Nat.add_comm]; simpa using hj)
      case h2_3 => rw [HCL.out]; kernel_rfl
      go_wp2_with fail
      go_loopw [29] (fun vi wr => ∃ k : Nat, k ≤ 6 ∧ vi = .int .i64 (k : Int) ∧ Blk wr w1.heap.size (numsU (readB l bs k)) 67 ∧ Upd [] w wr ∧ Blk wr g (.int .i64 (x.toNat : Int) :: placeCells l) 73 ∧ Blk wr w.heap.size [.int .i64 0, .int .i64 0, .int .i64 0, .bool false, .int .i64 0, .int .u64 0, .int .i64 0] 30) (fun vi _ => 6 - (intOf vi).toNat)
      case atStart => exact ⟨0, by omega, rfl, Blk.new w1 (numsU (List.replicate 6 0)) _, HU.out.alloc _, HB.out.alloc _, HW.out.alloc _⟩
      case round =>
        obtain ⟨k, hk, rfl, r1, r2, r3, r4⟩ := hrel
        have R1 := Lib.hid r1
        have R2 := Lib.hid r2
        have R3 := Lib.hid r3
        have R4 := Lib.hid r4
        clear r1 r2 r3 r4
        by_cases hlt : k < 6
        · obtain ⟨pa, ps, pb, hpl⟩ : ∃ pa ps pb, l[k]'(by rw [HL6.out]; exact hlt) = (pa, ps, pb) := ⟨_, _, _, rfl⟩
          have hix := idxPlaces l k hlt HL6.out pa ps pb hpl
          have hok : PlOk (pa, ps, pb) := by rw [← hpl]; exact HLok.out _ (List.getElem_mem _)
          have hgd : l.getD k (0, 0, 0) = (pa, ps, pb) := by rw [List.getD_eq_getElem?_getD, List.getElem?_eq_getElem (by rw [HL6.out]; exact hlt)]; exact hpl
          have HGD := Lib.hid hgd
          clear hpl hgd
          by_cases hps : ps = 0
          · subst hps
            have hz : (((0 : Nat) : Int) == 0) = true := rfl
            have hrd : readB l bs (k + 1) = readB l bs k := by rw [readB, HGD.out]; rfl
            have HRD := Lib.hid hrd
            clear hrd hok
            go_wp2_with fail
            go_roundw
            case rel => exact ⟨k + 1, by omega, by go_num, by rw [HRD.out]; exact R1.out.alloc _, R2.out.alloc _, R3.out.alloc _, R4.out.alloc _⟩
            case measure => simp [intOf]; omega
          · have hz : ((ps : Int) == 0) = false := by rw [beq_eq_false_iff_ne]; omega
            have hsz : ps = 1 ∨ ps = 2 ∨ ps = 4 ∨ ps = 8 := by
              rcases hok with h | h
              · exact absurd h hps
              · exact h.1
            have hat : pa + ps ≤ 16 ∧ pb ≤ 8 := by
              rcases hok with h | h
              · exact absurd h hps
              · exact h.2
            have HSZ := Lib.hid hsz
            obtain ⟨q, hq⟩ : ∃ q, q = nb ((bs.drop pa).take ps) := ⟨_, rfl⟩
            have hq64 : q < 18446744073709551616 := by
              have h1 := nb_lt ((bs.drop pa).take ps)
              have h2 : 256 ^ ((bs.drop pa).take ps).length ≤ 256 ^ 8 := Nat.pow_le_pow_right (by omega) (by rw [List.length_take]; omega)
              have h3 : (256 : Nat) ^ 8 = 18446744073709551616 := by decide
              omega
            have HQ := Lib.hid hq
            clear hok hsz hq
            go_wp2_with fail
            refine (get_c _ bs pa ps _ (HBB.out.upd (R2.out.alloc _)) (by have := HSZ.out; omega) (by have := HSZ.out; omega) (by rw [HL.out]; exact hat.1)).mono ?_
            rintro e W ⟨rfl, rfl⟩
            rw [← HQ.out]
            have hset : readB l bs (k + 1) = (readB l bs k).set k (if 0 < pb then q % 2 ^ pb else q) := by
              rw [readB, HGD.out, if_neg hps, HQ.out]; rfl
            have HSet := Lib.hid hset
            have y := (R1.out.alloc (.cells #[.int .i64 (pa : Int), .int .i64 (ps : Int), .int .i64 (pb : Int)] 70)).cell k (.int .u64 ((readB l bs k).getD k 0 : Nat)) (by simp [numsU, List.getElem?_eq_getElem (show k < (readB l bs k).length by rw [readB_length]; exact hlt), List.getD_eq_getElem?_getD])
            have fy := (R1.out.alloc (.cells #[.int .i64 (pa : Int), .int .i64 (ps : Int), .int .i64 (pb : Int)] 70)).free k
            clear hset
            have hg1 : g ≠ w1.heap.size := by have := HB.out.lt; omega
            have hg2 : w.heap.size ≠ w1.heap.size := by have := HW.out.lt; omega
            have HG1 := Lib.hid hg1
            have HG2 := Lib.hid hg2
            clear hg1 hg2
            by_cases hb0 : 0 < pb
            · obtain ⟨m, hmq⟩ : ∃ m, m = q % 2 ^ pb := ⟨_, rfl⟩
              have hm := and_mask' q pb hq64 hat.2
              rw [← hmq] at hm
              have HM := Lib.hid hmq
              clear hmq
              go_wp2_with fail
              go_roundw
              case rel =>
                have e : readB l bs (k + 1) = (readB l bs k).set k m := by rw [HSet.out, if_pos hb0, HM.out]
                exact ⟨k + 1, by omega, by go_num, by rw [e]; exact set_num w (R1.out.alloc _), (R2.out.alloc _).setCell (.inr HU.out.size) _, (R3.out.alloc _).set_other _ _ HG1.out, (R4.out.alloc _).set_other _ _ HG2.out⟩
              case measure => simp [intOf]; omega
            · go_wp2_with fail
              go_roundw
              case rel =>
                have e : readB l bs (k + 1) = (readB l bs k).set k q := by rw [HSet.out, if_neg hb0]
                exact ⟨k + 1, by omega, by go_num, by rw [e]; exact set_num w (R1.out.alloc _), (R2.out.alloc _).setCell (.inr HU.out.size) _, (R3.out.alloc _).set_other _ _ HG1.out, (R4.out.alloc _).set_other _ _ HG2.out⟩
              case measure => simp [intOf]; omega
        · obtain rfl : k = 6 := by omega
          obtain ⟨vs, hvs⟩ : ∃ vs, vs = readB l bs 6 := ⟨_, rfl⟩
          have hvl : vs.length = 6 := by rw [hvs]; exact readB_length _ _ _
          rw [← hvs] at R1
          match vs, hvl with
          | [n0, n1, n2, n3, n4, n5], _ =>
          have HVS := Lib.hid hvs
          clear hvs
          have y0 := R1.out.cell 0 _ rfl
          have y1 := R1.out.cell 1 _ rfl
          have y2 := R1.out.cell 2 _ rfl
          have y3 := R1.out.cell 3 _ rfl
          have y4 := R1.out.cell 4 _ rfl
          have y5 := R1.out.cell 5 _ rfl
          have y6 := R3.out.cell 0 _ rfl
          have t0 := fun o => (R1.out.alloc o).cell 0 _ rfl
          have t1 := fun o => (R1.out.alloc o).cell 1 _ rfl
          have t2 := fun o => (R1.out.alloc o).cell 2 _ rfl
          have t3 := fun o => (R1.out.alloc o).cell 3 _ rfl
          have t4 := fun o => (R1.out.alloc o).cell 4 _ rfl
          have t5 := fun o => (R1.out.alloc o).cell 5 _ rfl
          have t6 := fun o => (R3.out.alloc o).cell 0 _ rfl
          go_wp2_with fail
          go_region_held3 (fun w' => w'.cell? ⟨w1.heap.size, 0, none⟩ = some (.int .u64 (n0 : Int)) ∧ w'.cell? ⟨w1.heap.size, 1, none⟩ = some (.int .u64 (n1 : Int)) ∧ w'.cell? ⟨w1.heap.size, 2, none⟩ = some (.int .u64 (n2 : Int)) ∧ w'.cell? ⟨w1.heap.size, 3, none⟩ = some (.int .u64 (n3 : Int)) ∧ w'.cell? ⟨w1.heap.size, 4, none⟩ = some (.int .u64 (n4 : Int)) ∧ w'.cell? ⟨w1.heap.size, 5, none⟩ = some (.int .u64 (n5 : Int)) ∧ w'.cell? ⟨g, 0, none⟩ = some (.int .i64 (x.toNat : Int)))
            (first | go_keep) (first | fail)
          go_wp2_with fail
          have hC : (⟨(x.toNat : Int), wrap64 (n0 : Int), wrap64 (n2 : Int), ((n1 : Int) == 1), wrap64 (n3 : Int), n4, wrap64 (n5 : Int)⟩ : Cmd) = cmdOf (x.toNat : Int) [n0, n1, n2, n3, n4, n5] := by
            unfold cmdOf
            simp only [List.getD_cons_zero, List.getD_cons_succ]
            rw [beq_cast]
          have hCok : (⟨(x.toNat : Int), wrap64 (n0 : Int), wrap64 (n2 : Int), ((n1 : Int) == 1), wrap64 (n3 : Int), n4, wrap64 (n5 : Int)⟩ : Cmd).Ok := by rw [hC, HVS.out]; exact cmdOf_ok HLok.out x 6
          have hcb := (Blk.new wr [.int .i64 (x.toNat : Int), .int .i64 (wrap64 (n0 : Int)), .int .i64 (wrap64 (n2 : Int)), .bool ((n1 : Int) == 1), .int .i64 (wrap64 (n3 : Int)), .int .u64 (n4 : Int), .int .i64 (wrap64 (n5 : Int))] 30).drew
          have HC := Lib.hid hC
          have HCB := Lib.hid hcb
          have HUR := Lib.hid (R2.out.alloc (.cells ([.int .i64 (x.toNat : Int), .int .i64 (wrap64 (n0 : Int)), .int .i64 (wrap64 (n2 : Int)), .bool ((n1 : Int) == 1), .int .i64 (wrap64 (n3 : Int)), .int .u64 (n4 : Int), .int .i64 (wrap64 (n5 : Int))] : List Value).toArray 30)).drew
          have HRES := Lib.hid (R4.out.alloc (.cells ([.int .i64 (x.toNat : Int), .int .i64 (wrap64 (n0 : Int)), .int .i64 (wrap64 (n2 : Int)), .bool ((n1 : Int) == 1), .int .i64 (wrap64 (n3 : Int)), .int .u64 (n4 : Int), .int .i64 (wrap64 (n5 : Int))] : List Value).toArray 30)).drew
          clear hC hcb y0 y1 y2 y3 y4 y5 y6 t0 t1 t2 t3 t4 t5 t6
          refine (build_c ⟨(x.toNat : Int), wrap64 (n0 : Int), wrap64 (n2 : Int), ((n1 : Int) == 1), wrap64 (n3 : Int), n4, wrap64 (n5 : Int)⟩ hCok _ (HT.out.upd0 HUR.out)).mono ?_
          rintro e W2 ⟨r, rfl, v2, rfl, j1, j2⟩
          obtain ⟨A2, cap2, rfl⟩ := j1.slice
          have hPP : parseB bs = (if (buildB ⟨(x.toNat : Int), wrap64 (n0 : Int), wrap64 (n2 : Int), ((n1 : Int) == 1), wrap64 (n3 : Int), n4, wrap64 (n5 : Int)⟩).1 = 0 ∧ (buildB ⟨(x.toNat : Int), wrap64 (n0 : Int), wrap64 (n2 : Int), ((n1 : Int) == 1), wrap64 (n3 : Int), n4, wrap64 (n5 : Int)⟩).2 = bs then (0, ⟨(x.toNat : Int), wrap64 (n0 : Int), wrap64 (n2 : Int), ((n1 : Int) == 1), wrap64 (n3 : Int), n4, wrap64 (n5 : Int)⟩) else (11, zeroCmd)) := by
            unfold parseB
            rw [if_pos HL.out, ← HX.out, HP.out]
            dsimp only
            rw [← HVS.out, ← HC.out]
          obtain ⟨B, hB⟩ : ∃ B, B = buildB ⟨(x.toNat : Int), wrap64 (n0 : Int), wrap64 (n2 : Int), ((n1 : Int) == 1), wrap64 (n3 : Int), n4, wrap64 (n5 : Int)⟩ := ⟨_, rfl⟩
          rw [← hB] at j1 hPP ⊢
          have J1 := Lib.hid j1
          have J2 := Lib.hid j2
          clear j1 j2 hB hCok
          have HRES2 := Lib.hid (HRES.out.upd0 J2.out)
          have HCB2 := Lib.hid (HCB.out.upd0 J2.out)
          have HU2 := Lib.hid (HUR.out.trans J2.out)
          by_cases hw : B.1 = 0
          · have hw0 : (B.1 != 0) = false := by rw [hw]; rfl
            have HW0 := Lib.hid hw
            clear hw
            go_wp2_with fail
            refine (equal_c _ _ _ _ _ J1.out.rb (HBB.out.upd HU2.out)).mono ?_
            rintro e W3 ⟨rfl, j3⟩
            have HRES3 := Lib.hid (HRES2.out.upd0 j3)
            have HCB3 := Lib.hid (HCB2.out.upd0 j3)
            have HU3 := Lib.hid (HU2.out.trans j3)
            clear j3
            by_cases heq : B.2 = bs
            · have hb : (B.2 == bs) = true := by simpa using heq
              rw [if_pos ⟨HW0.out, heq⟩] at hPP
              have HPP := Lib.hid hPP
              clear hPP heq
              go_wp2_with (first | (with_reducible refine wpList_load_cells rfl 30 (.tmp 10) rfl wr.heap.size 0 ?h3_1 [.int .i64 (x.toNat : Int), .int .i64 (wrap64 (n0 : Int)), .int .i64 (wrap64 (n2 : Int)), .bool ((n1 : Int) == 1), .int .i64 (wrap64 (n3 : Int)), .int .u64 (n4 : Int), .int .i64 (wrap64 (n5 : Int))] _ ?h3_2 Tryd.underlying30 rfl ?h3_3 ?_) | (with_reducible refine wpList_store_blk rfl rfl 30 (.tmp 2) (.tmp 94) rfl w.heap.size [.int .i64 0, .int .i64 0, .int .i64 0, .bool false, .int .i64 0, .int .u64 0, .int .i64 0] [.int .i64 (x.toNat : Int), .int .i64 (wrap64 (n0 : Int)), .int .i64 (wrap64 (n2 : Int)), .bool ((n1 : Int) == 1), .int .i64 (wrap64 (n3 : Int)), .int .u64 (n4 : Int), .int .i64 (wrap64 (n5 : Int))] _ ?h4_1 ?h4_2 HRES3.out ?h4_3 ?h4_4 ?h4_5 ?_))
              case h3_1 => rfl
              case h3_2 =>
                intro j v hj
                exact HCB3.out.cell _ _ (by simpa using hj)
              case h3_3 => kernel_rfl
              case h4_3 => kernel_rfl
              case h4_4 => rfl
              case h4_5 => kernel_rfl
              intro W5 h1 h2
              have z0 := h1.cell 0 _ rfl
              have z1 := h1.cell 1 _ rfl
              have z2 := h1.cell 2 _ rfl
              have z3 := h1.cell 3 _ rfl
              have z4 := h1.cell 4 _ rfl
              have z5 := h1.cell 5 _ rfl
              have z6 := h1.cell 6 _ rfl
              go_wp2_with fail
              refine bodyPost_ret (v := .tuple #[Cmd.val ⟨(x.toNat : Int), wrap64 (n0 : Int), wrap64 (n2 : Int), ((n1 : Int) == 1), wrap64 (n3 : Int), n4, wrap64 (n5 : Int)⟩, .int .i64 0]) (by simp [results, Tryd.results12, go_sem, Cmd.val, z0, z1, z2, z3, z4, z5, z6]) rfl ?_
              rw [HPP.out]
              exact ⟨rfl, HU3.out.trans' h2 (by simp)⟩
            · have hb : (B.2 == bs) = false := by rw [beq_eq_false_iff_ne]; exact heq
              rw [if_neg (fun h => heq h.2)] at hPP
              have HPP := Lib.hid hPP
              have HUU := HU3.out
              clear hPP heq
              go_wp2_with (with_reducible refine wpList_store_blk rfl rfl 30 (.tmp 2) (.tmp 93) rfl w.heap.size [.int .i64 0, .int .i64 0, .int .i64 0, .bool false, .int .i64 0, .int .u64 0, .int .i64 0] [.int .i64 0, .int .i64 0, .int .i64 0, .bool false, .int .i64 0, .int .u64 0, .int .i64 0] _ ?h5_1 ?h5_2 HRES3.out ?h5_3 ?h5_4 ?h5_5 ?_)
              case h5_1 => rfl
              case h5_2 => rfl
              case h5_3 => kernel_rfl
              case h5_4 => rfl
              case h5_5 => kernel_rfl
              intro W5 h1 h2
              have z0 := h1.cell 0 _ rfl
              have z1 := h1.cell 1 _ rfl
              have z2 := h1.cell 2 _ rfl
              have z3 := h1.cell 3 _ rfl
              have z4 := h1.cell 4 _ rfl
              have z5 := h1.cell 5 _ rfl
              have z6 := h1.cell 6 _ rfl
              go_wp2_with fail
              refine bodyPost_ret (v := .tuple #[zeroCmd.val, .int .i64 11]) (by simp [results, Tryd.results12, go_sem, Cmd.val, zeroCmd, z0, z1, z2, z3, z4, z5, z6]) rfl ?_
              rw [HPP.out]
              exact ⟨rfl, HUU.trans' h2 (by simp)⟩

          · have hw0 : (B.1 != 0) = true := by rw [bne_iff_ne]; exact hw
            rw [if_neg (fun h => hw h.1)] at hPP
            have HPP := Lib.hid hPP
            have HUU := HU2.out
            clear hPP hw
            go_wp2_with (with_reducible refine wpList_store_blk rfl rfl 30 (.tmp 2) (.tmp 93) rfl w.heap.size [.int .i64 0, .int .i64 0, .int .i64 0, .bool false, .int .i64 0, .int .u64 0, .int .i64 0] [.int .i64 0, .int .i64 0, .int .i64 0, .bool false, .int .i64 0, .int .u64 0, .int .i64 0] _ ?h6_1 ?h6_2 HRES2.out ?h6_3 ?h6_4 ?h6_5 ?_)
            case h6_1 => rfl
            case h6_2 => rfl
            case h6_3 => kernel_rfl
            case h6_4 => rfl
            case h6_5 => kernel_rfl
            intro W5 h1 h2
            have z0 := h1.cell 0 _ rfl
            have z1 := h1.cell 1 _ rfl
            have z2 := h1.cell 2 _ rfl
            have z3 := h1.cell 3 _ rfl
            have z4 := h1.cell 4 _ rfl
            have z5 := h1.cell 5 _ rfl
            have z6 := h1.cell 6 _ rfl
            go_wp2_with fail
            refine bodyPost_ret (v := .tuple #[zeroCmd.val, .int .i64 11]) (by simp [results, Tryd.results12, go_sem, Cmd.val, zeroCmd, z0, z1, z2, z3, z4, z5, z6]) rfl ?_
            rw [HPP.out]
            exact ⟨rfl, HUU.trans' h2 (by simp)⟩

  · obtain ⟨A, cap, rfl, hlc, hcm, _, hc⟩ := hb.open_
    have hne : ((bs.length : Int) != 16) = true := by rw [bne_iff_ne]; omega
    have hp : parseB bs = (3, zeroCmd) := by unfold parseB; rw [if_neg h16]
    have HP := Lib.hid hp
    clear hb hc h16 hp
    go_enter Tryd.func12, Tryd.ntmps12
    go_wp2_with fail
    refine bodyPost_ret (v := .tuple #[zeroCmd.val, .int .i64 3]) (by simp [results, Tryd.results12, go_sem, Cmd.val, zeroCmd]) rfl ?_
    rw [HP.out]
    exact ⟨rfl, (Upd.refl _ _).alloc _⟩
end Go.Proofs.YtpkljdjdapgmjaaDoor
