/- The walk of CdbSizes. -/
import Derived.Test.YtpkljdjdapgmjaaDoorCg
namespace Go.Proofs.YtpkljdjdapgmjaaDoor
open Go.RowKit
set_option linter.unusedVariables false

set_option maxHeartbeats 2000000 in
theorem sizes_c (c : Cmd) (hc : c.Ok) (op : Int) (w : World) (hT : Tab w) (hS : Siz w) :
    Calls Tryd.prog 3 #[c.val, .int .i64 op] w fun e w' => e = .returned (.bool true) ∧ Upd [] w w' := by
  have HS := Lib.hid hS
  have HT := Lib.hid hT
  have HC := Lib.hid hc
  clear hS hT hc
  have hD := Blk.new w [.int .i64 c.op, .int .i64 c.service, .int .i64 c.page, .bool c.vital, .int .i64 c.kind, .int .u64 c.lba, .int .i64 c.len] 24
  have HD := Lib.hid hD
  have hu0 := Lib.hid ((Upd.refl [] w).alloc (.cells ([.int .i64 c.op, .int .i64 c.service, .int .i64 c.page, .bool c.vital, .int .i64 c.kind, .int .u64 c.lba, .int .i64 c.len] : List Value).toArray 24))
  clear hD
  unfold Cmd.val
  go_enter Tryd.func3, Tryd.ntmps3
  go_wp2_with fail
  refine (size_c op _ (HT.out.upd0 hu0.out) (HS.out.upd0 hu0.out)).mono ?_
  rintro e w1 ⟨rfl, hU⟩
  have HD1 := Lib.hid (HD.out.upd0 hU)
  have HU1 := Lib.hid (hu0.out.trans hU)
  clear hU
  have hn := sizeB_vals op
  obtain ⟨n, hne⟩ : ∃ n, n = sizeB op := ⟨_, rfl⟩
  rw [← hne] at hn ⊢
  clear hne HD hu0
  have y0 := HD1.out.cell 0 _ rfl
  have y1 := HD1.out.cell 1 _ rfl
  have y2 := HD1.out.cell 2 _ rfl
  have y3 := HD1.out.cell 3 _ rfl
  have y4 := HD1.out.cell 4 _ rfl
  have y5 := HD1.out.cell 5 _ rfl
  have y6 := HD1.out.cell 6 _ rfl
  have hstep : (n = 0 ∧ True ∧ True) ∨ (n = 6 ∧ decide (op < 0) = false ∧ decide (255 < op) = false) ∨ (n = 10 ∧ decide (op < 0) = false ∧ decide (255 < op) = false) ∨ (n = 12 ∧ decide (op < 0) = false ∧ decide (255 < op) = false) ∨ (n = 16 ∧ decide (op < 0) = false ∧ decide (255 < op) = false) := by
    rcases hn with h | ⟨h, h1, h2⟩
    · exact .inl ⟨h, trivial, trivial⟩
    · have d1 : decide (op < 0) = false := by simp; omega
      have d2 : decide (255 < op) = false := by simp; omega
      rcases h with h | h | h | h
      · exact .inr (.inl ⟨h, d1, d2⟩)
      · exact .inr (.inr (.inl ⟨h, d1, d2⟩))
      · exact .inr (.inr (.inr (.inl ⟨h, d1, d2⟩)))
      · exact .inr (.inr (.inr (.inr ⟨h, d1, d2⟩)))
  clear hn
  obtain ⟨rfl, o1, o2⟩ | ⟨rfl, o1, o2⟩ | ⟨rfl, o1, o2⟩ | ⟨rfl, o1, o2⟩ | ⟨rfl, o1, o2⟩ := hstep
  all_goals
    go_wp2_with fail
    clear y0 y1 y2 y3 y4 y5 y6
    refine (given_c c _).mono ?_
    rintro e w2 ⟨rfl, hU2⟩
    have HD2 := Lib.hid (HD1.out.upd0 hU2)
    have HU2 := Lib.hid (HU1.out.trans hU2)
    clear hU2 HD1 HU1
    unfold Cmd.val
    go_wp2_with fail
    refine (build_c c HC.out _ (HT.out.upd0 HU2.out)).mono ?_
    rintro e w3 ⟨r, rfl, v, rfl, hO, hU3⟩
    obtain ⟨A, cap, rfl⟩ := hO.slice
    have HD3 := Lib.hid (HD2.out.upd0 hU3)
    have HU3 := Lib.hid (HU2.out.trans hU3)
    have HO := Lib.hid hO
    clear hO hU3 HD2 HU2
    obtain ⟨er, her⟩ : ∃ er, er = (buildB c).1 := ⟨_, rfl⟩
    rw [← her]
    have HE := Lib.hid her
    clear her
    have x0 := HD3.out.cell 0 _ rfl
    by_cases hz : er = 0
    · subst hz
      have h16 := buildB_len HE.out.symm
      go_wp2_with fail
      refine (size_c c.op _ (HT.out.upd0 HU3.out) (HS.out.upd0 HU3.out)).mono ?_
      rintro e w4 ⟨rfl, hU4⟩
      have HU4 := Lib.hid (HU3.out.trans hU4)
      have HD4 := Lib.hid (HD3.out.upd0 hU4)
      have HO4 := Lib.hid (HO.out.upd0 hU4)
      clear hU4 HU3 HD3 HO x0
      obtain ⟨k, hk⟩ : ∃ k : Nat, (k : Int) = sizeB c.op ∧ 6 ≤ k ∧ 0 ≤ c.op ∧ c.op ≤ 255 := by
        obtain ⟨l, hp, _⟩ := buildB_zero HE.out.symm
        have h2 := sizeB_none c.op
        have h3 := sizeB_vals c.op
        have h4 : sizeB c.op ≠ 0 := fun h' => by rw [h2.1 h'] at hp; cases hp
        exact ⟨(sizeB c.op).toNat, by omega, by omega, by omega⟩
      obtain ⟨bs, hbs⟩ : ∃ bs, bs = (buildB c).2 := ⟨_, rfl⟩
      rw [← hbs] at HO4 h16
      have HBS := Lib.hid hbs
      rw [← hk.1]
      obtain ⟨g0, off, cap', he, hlc, hcm, hc⟩ := HO4.out.rb.open_pos (by omega)
      injection he with e1 e2 e3
      subst e1; subst e3
      have l6 : decide ((k : Int) < 6) = false := by simp; omega
      have c0 : w4.cell? ⟨g0, off, none⟩ = some (.int .u8 c.op) := by
        have h1 := hc 0 (by omega)
        have h2 := build_first HE.out.symm
        rw [← hbs, List.getElem?_eq_getElem (by omega)] at h2
        injection h2 with h2
        have h3 := op_byte hk.2.2
        rw [← h2] at h3
        rw [h3] at h1
        simpa using h1
      have hk16 : k ≤ 16 := by have := sizeB_vals c.op; omega
      have HL := Lib.hid h16
      have HX := Lib.hid hc
      have y0 := HD4.out.cell 0 _ rfl
      obtain ⟨hk1, hk2, hk3, hk4⟩ := hk
      have HK1 := Lib.hid hk1
      clear hk1 hbs hc h16 e2 HO4
      go_wp2_with fail
      go_quiet (fail)
      go_wp2_with fail
      go_loopw [9] (fun vi wr => ∃ i n : Nat, k ≤ i + 1 ∧ i ≤ 16 ∧ vi = .int .i64 (i : Int) ∧ wr = w4.drewN n) (fun vi _ => 16 - (intOf vi).toNat)
      case atStart => exact ⟨k - 1, _, by omega, by omega, by congr 1; omega, rfl⟩
      case round =>
        obtain ⟨i, nd, hi1, hi2, rfl, rfl⟩ := hrel
        by_cases hlt : i < 16
        · have hi0 : (0 : Int) ≤ (i : Int) := by omega
          have hi16 : (i : Int) < 16 := by omega
          have ci := HX.out i (by have := HL.out; omega)
          obtain ⟨z, hz⟩ : ∃ z : Nat, z = (bs[i]'(by have := HL.out; omega)).toNat := ⟨_, rfl⟩
          rw [← hz] at ci
          by_cases hzz : z = 0
          · subst hzz
            clear hz
            have hb : (((0 : Nat) : Int) != 0) = false := rfl
            go_wp2_with fail
            go_roundw
            case rel => exact ⟨i + 1, _, by omega, by omega, by go_num, rfl⟩
            case measure => simp [intOf]; omega
          · have hb : ((z : Int) != 0) = true := by rw [bne_iff_ne]; omega
            obtain ⟨hi4, hop3⟩ : i = 4 ∧ c.op = 3 := by
              have h1 := build_tail HE.out.symm i (by omega) hlt (by have := HK1.out; omega)
              rcases h1 with h1 | h1
              · exact ⟨h1.2, h1.1⟩
              · exfalso
                rw [← HBS.out, List.getElem?_eq_getElem (by have := HL.out; omega)] at h1
                injection h1 with h1
                rw [h1] at hz
                exact hzz hz
            have hk6 : k = 6 := by
              have := HK1.out
              rw [hop3] at this
              have e : sizeB 3 = 6 := by decide
              omega
            have hop : (c.op != 3) = false := by rw [hop3]; rfl
            have g1 : decide ((k : Int) ≤ (i : Int)) = false := by rw [decide_eq_false_iff_not]; omega
            have g2 : (i : Int) < (k : Int) := by omega
            have g2' : i < k := by omega
            have g3 : ((i : Int) != 4) = false := by rw [hi4]; rfl
            have HI4 := Lib.hid hi4
            clear hz hzz hop3 hi4 hk6
            have y0d : (w4.drewN nd).cell? ⟨w.heap.size, 0, none⟩ = some (.int .i64 c.op) := y0
            go_wp2_with fail
            all_goals first | (exfalso; omega) | skip
            go_roundw
            case rel => exact ⟨i + 1, _, by omega, by omega, by go_num, rfl⟩
            case measure => simp [intOf]; omega
        · obtain rfl : i = 16 := by omega
          go_wp2_with fail
          refine (known_c _ (HT.out.upd0 (HU4.out.drewN _))).mono ?_
          rintro e w5 ⟨rfl, hU5⟩
          go_wp2_with fail
          go_ret
          exact ⟨rfl, (HU4.out.drewN _).trans hU5⟩
    · have hb : (er != 0) = true := by rw [bne_iff_ne]; exact hz
      clear hz
      go_wp2_with fail
      refine (size_c c.op _ (HT.out.upd0 HU3.out) (HS.out.upd0 HU3.out)).mono ?_
      rintro e w4 ⟨rfl, hU4⟩
      have HU4 := Lib.hid (HU3.out.trans hU4)
      clear hU4 HU3 HD3 HO
      have hq : (decide (0 < sizeB c.op) == (er != 1)) = true := by
        rw [beq_iff_eq, Bool.eq_iff_iff, decide_eq_true_iff, bne_iff_ne, HE.out]
        have h1 := buildB_one (c := c)
        have h2 := sizeB_none c.op
        have h3 := sizeB_vals c.op
        constructor
        · intro h h'
          have := h2.2 (h1.1 h')
          omega
        · intro h
          have : sizeB c.op ≠ 0 := fun h' => h (h1.2 (h2.1 h'))
          omega
      go_wp2_with fail
      refine (known_c _ (HT.out.upd0 HU4.out)).mono ?_
      rintro e w5 ⟨rfl, hU5⟩
      go_wp2_with fail
      go_ret
      exact ⟨rfl, HU4.out.trans hU5⟩
end Go.Proofs.YtpkljdjdapgmjaaDoor
