/- Contracts of field.Put and slices.Equal. -/
import Derived.Test.YtpkljdjdapgmjaaDoorFw
namespace Go.Proofs.YtpkljdjdapgmjaaDoor
open Go.RowKit
set_option linter.unusedVariables false
set_option linter.unusedSimpArgs false

/-- What Put makes. -/
def putB (bs : List UInt8) (i size n : Nat) : List UInt8 := over bs i (be size n)
theorem putB_length {bs : List UInt8} {i size n : Nat} (h : i + size ≤ bs.length) : (putB bs i size n).length = bs.length := over_length (by rw [be_length]; exact h)

theorem put_c1 (v : Value) (bs : List UInt8) (i n : Nat) (w : World) (hb : RB w v bs) (hi : i + 1 ≤ bs.length) (hn : n < 18446744073709551616) (hfit : fitsB n 1 = true) (hl : bs.length ≤ lim) :
    Calls Tryd.prog 35 #[v, .int .i64 i, .int .i64 1, .int .u64 n] w (Ret fun r w' => ∃ v', r = .tuple #[v', .int .i64 0] ∧ OB w' w.heap.size v' (putB bs i 1 n) ∧ Upd [] w w') := by
  obtain ⟨g, off, cap, rfl, hlc, hcm, hc⟩ := hb.open_pos (by omega)
  have Hb := Lib.hid hb
  have Hl := Lib.hid hl
  have hd : decide ((i : Int) + 1 ≤ (bs.length : Int)) = true := by simp; omega
  clear hc hb hl
  go_enter Tryd.func35, Tryd.ntmps35
  go_wp2_with fail
  refine (there_c _ _ _ _ _ _ (by omega) (by omega) (by omega) (by omega)).mono ?_
  rintro e w1 ⟨rfl, rfl⟩
  go_wp2_with fail
  refine (fits_c n 1 _ hn (by omega) (by omega)).mono ?_
  rintro e w1 ⟨rfl, rfl⟩
  have hf' : fitsB n (Int.toNat 1) = true := hfit
  go_wp2_with fail
  refine (clone_c _ _ _ Hb.out Hl.out).mono ?_
  rintro e w1 ⟨r, rfl, h1, h2⟩
  obtain ⟨g1, cap1, rfl, hg1, hc1⟩ := World.ownsRow.form h1 (by omega)
  have H1 := Lib.hid h1
  have H2 := Lib.hid h2
  have hrc := H1.out.rb.open_
  obtain ⟨A', cap', he, hlc1, hcm1, _⟩ := hrc
  injection he with e1 _ e3
  subst e1; subst e3
  clear h1 h2
  go_wp2_with fail
  refine (number_c n _ hn).mono ?_
  rintro e w2 ⟨rfl, hu⟩
  have HU := Lib.hid hu
  clear hu
  have hic : i ≤ cap1 := by omega
  have hib : i ≤ bs.length := by omega
  have hne : (cap1 = i) = False := by simp; omega
  go_wp2_with fail
  have ks : IntKind.i64.wrap (8 - 1) = 8 - 1 := rfl
  simp only [Int.reduceSub] at ks
  go_region_law (refine step_copyB rfl (.tmp 29) (.tmp 32) rfl w.heap.size g1 bs.length cap1 i _ _ bs (be 1 n) (.slice (some ⟨w2.heap.size, 8 - 1, none⟩) 1 1) (by simp [Act.eval, Act.put]; exact ⟨rfl, rfl⟩) (by simp [Act.eval, Act.put]) (by exact ((H1.out.upd0 HU.out).upd0 ((Upd.refl _ _).alloc _).drew)) (by exact rb_be (Blk.new w2 _ _).drew 1 (by decide)) (by rw [be_length]; decide) (by rw [be_length]; omega) (by rw [be_length]; omega) ?_; intro w3 h3 h4)
  have fin : OB w3 w.heap.size (.slice (some ⟨g1, 0, none⟩) bs.length cap1) (putB bs i 1 n) ∧ Upd [] w w3 := ⟨h3, (H2.out.trans ((HU.out.alloc _).drew)).trans' h4 (by simpa using hg1)⟩
  have HF := Lib.hid fin
  clear fin h3 h4
  go_wp2
  go_ret2
  exact ⟨_, rfl, _, rfl, HF.out⟩
theorem put_c2 (v : Value) (bs : List UInt8) (i n : Nat) (w : World) (hb : RB w v bs) (hi : i + 2 ≤ bs.length) (hn : n < 18446744073709551616) (hfit : fitsB n 2 = true) (hl : bs.length ≤ lim) :
    Calls Tryd.prog 35 #[v, .int .i64 i, .int .i64 2, .int .u64 n] w (Ret fun r w' => ∃ v', r = .tuple #[v', .int .i64 0] ∧ OB w' w.heap.size v' (putB bs i 2 n) ∧ Upd [] w w') := by
  obtain ⟨g, off, cap, rfl, hlc, hcm, hc⟩ := hb.open_pos (by omega)
  have Hb := Lib.hid hb
  have Hl := Lib.hid hl
  have hd : decide ((i : Int) + 2 ≤ (bs.length : Int)) = true := by simp; omega
  clear hc hb hl
  go_enter Tryd.func35, Tryd.ntmps35
  go_wp2_with fail
  refine (there_c _ _ _ _ _ _ (by omega) (by omega) (by omega) (by omega)).mono ?_
  rintro e w1 ⟨rfl, rfl⟩
  go_wp2_with fail
  refine (fits_c n 2 _ hn (by omega) (by omega)).mono ?_
  rintro e w1 ⟨rfl, rfl⟩
  have hf' : fitsB n (Int.toNat 2) = true := hfit
  go_wp2_with fail
  refine (clone_c _ _ _ Hb.out Hl.out).mono ?_
  rintro e w1 ⟨r, rfl, h1, h2⟩
  obtain ⟨g1, cap1, rfl, hg1, hc1⟩ := World.ownsRow.form h1 (by omega)
  have H1 := Lib.hid h1
  have H2 := Lib.hid h2
  have hrc := H1.out.rb.open_
  obtain ⟨A', cap', he, hlc1, hcm1, _⟩ := hrc
  injection he with e1 _ e3
  subst e1; subst e3
  clear h1 h2
  go_wp2_with fail
  refine (number_c n _ hn).mono ?_
  rintro e w2 ⟨rfl, hu⟩
  have HU := Lib.hid hu
  clear hu
  have hic : i ≤ cap1 := by omega
  have hib : i ≤ bs.length := by omega
  have hne : (cap1 = i) = False := by simp; omega
  go_wp2_with fail
  have ks : IntKind.i64.wrap (8 - 2) = 8 - 2 := rfl
  simp only [Int.reduceSub] at ks
  go_region_law (refine step_copyB rfl (.tmp 29) (.tmp 32) rfl w.heap.size g1 bs.length cap1 i _ _ bs (be 2 n) (.slice (some ⟨w2.heap.size, 8 - 2, none⟩) 2 2) (by simp [Act.eval, Act.put]; exact ⟨rfl, rfl⟩) (by simp [Act.eval, Act.put]) (by exact ((H1.out.upd0 HU.out).upd0 ((Upd.refl _ _).alloc _).drew)) (by exact rb_be (Blk.new w2 _ _).drew 2 (by decide)) (by rw [be_length]; decide) (by rw [be_length]; omega) (by rw [be_length]; omega) ?_; intro w3 h3 h4)
  have fin : OB w3 w.heap.size (.slice (some ⟨g1, 0, none⟩) bs.length cap1) (putB bs i 2 n) ∧ Upd [] w w3 := ⟨h3, (H2.out.trans ((HU.out.alloc _).drew)).trans' h4 (by simpa using hg1)⟩
  have HF := Lib.hid fin
  clear fin h3 h4
  go_wp2
  go_ret2
  exact ⟨_, rfl, _, rfl, HF.out⟩
theorem put_c4 (v : Value) (bs : List UInt8) (i n : Nat) (w : World) (hb : RB w v bs) (hi : i + 4 ≤ bs.length) (hn : n < 18446744073709551616) (hfit : fitsB n 4 = true) (hl : bs.length ≤ lim) :
    Calls Tryd.prog 35 #[v, .int .i64 i, .int .i64 4, .int .u64 n] w (Ret fun r w' => ∃ v', r = .tuple #[v', .int .i64 0] ∧ OB w' w.heap.size v' (putB bs i 4 n) ∧ Upd [] w w') := by
  obtain ⟨g, off, cap, rfl, hlc, hcm, hc⟩ := hb.open_pos (by omega)
  have Hb := Lib.hid hb
  have Hl := Lib.hid hl
  have hd : decide ((i : Int) + 4 ≤ (bs.length : Int)) = true := by simp; omega
  clear hc hb hl
  go_enter Tryd.func35, Tryd.ntmps35
  go_wp2_with fail
  refine (there_c _ _ _ _ _ _ (by omega) (by omega) (by omega) (by omega)).mono ?_
  rintro e w1 ⟨rfl, rfl⟩
  go_wp2_with fail
  refine (fits_c n 4 _ hn (by omega) (by omega)).mono ?_
  rintro e w1 ⟨rfl, rfl⟩
  have hf' : fitsB n (Int.toNat 4) = true := hfit
  go_wp2_with fail
  refine (clone_c _ _ _ Hb.out Hl.out).mono ?_
  rintro e w1 ⟨r, rfl, h1, h2⟩
  obtain ⟨g1, cap1, rfl, hg1, hc1⟩ := World.ownsRow.form h1 (by omega)
  have H1 := Lib.hid h1
  have H2 := Lib.hid h2
  have hrc := H1.out.rb.open_
  obtain ⟨A', cap', he, hlc1, hcm1, _⟩ := hrc
  injection he with e1 _ e3
  subst e1; subst e3
  clear h1 h2
  go_wp2_with fail
  refine (number_c n _ hn).mono ?_
  rintro e w2 ⟨rfl, hu⟩
  have HU := Lib.hid hu
  clear hu
  have hic : i ≤ cap1 := by omega
  have hib : i ≤ bs.length := by omega
  have hne : (cap1 = i) = False := by simp; omega
  go_wp2_with fail
  have ks : IntKind.i64.wrap (8 - 4) = 8 - 4 := rfl
  simp only [Int.reduceSub] at ks
  go_region_law (refine step_copyB rfl (.tmp 29) (.tmp 32) rfl w.heap.size g1 bs.length cap1 i _ _ bs (be 4 n) (.slice (some ⟨w2.heap.size, 8 - 4, none⟩) 4 4) (by simp [Act.eval, Act.put]; exact ⟨rfl, rfl⟩) (by simp [Act.eval, Act.put]) (by exact ((H1.out.upd0 HU.out).upd0 ((Upd.refl _ _).alloc _).drew)) (by exact rb_be (Blk.new w2 _ _).drew 4 (by decide)) (by rw [be_length]; decide) (by rw [be_length]; omega) (by rw [be_length]; omega) ?_; intro w3 h3 h4)
  have fin : OB w3 w.heap.size (.slice (some ⟨g1, 0, none⟩) bs.length cap1) (putB bs i 4 n) ∧ Upd [] w w3 := ⟨h3, (H2.out.trans ((HU.out.alloc _).drew)).trans' h4 (by simpa using hg1)⟩
  have HF := Lib.hid fin
  clear fin h3 h4
  go_wp2
  go_ret2
  exact ⟨_, rfl, _, rfl, HF.out⟩
theorem put_c8 (v : Value) (bs : List UInt8) (i n : Nat) (w : World) (hb : RB w v bs) (hi : i + 8 ≤ bs.length) (hn : n < 18446744073709551616) (hfit : fitsB n 8 = true) (hl : bs.length ≤ lim) :
    Calls Tryd.prog 35 #[v, .int .i64 i, .int .i64 8, .int .u64 n] w (Ret fun r w' => ∃ v', r = .tuple #[v', .int .i64 0] ∧ OB w' w.heap.size v' (putB bs i 8 n) ∧ Upd [] w w') := by
  obtain ⟨g, off, cap, rfl, hlc, hcm, hc⟩ := hb.open_pos (by omega)
  have Hb := Lib.hid hb
  have Hl := Lib.hid hl
  have hd : decide ((i : Int) + 8 ≤ (bs.length : Int)) = true := by simp; omega
  clear hc hb hl
  go_enter Tryd.func35, Tryd.ntmps35
  go_wp2_with fail
  refine (there_c _ _ _ _ _ _ (by omega) (by omega) (by omega) (by omega)).mono ?_
  rintro e w1 ⟨rfl, rfl⟩
  go_wp2_with fail
  refine (fits_c n 8 _ hn (by omega) (by omega)).mono ?_
  rintro e w1 ⟨rfl, rfl⟩
  have hf' : fitsB n (Int.toNat 8) = true := hfit
  go_wp2_with fail
  refine (clone_c _ _ _ Hb.out Hl.out).mono ?_
  rintro e w1 ⟨r, rfl, h1, h2⟩
  obtain ⟨g1, cap1, rfl, hg1, hc1⟩ := World.ownsRow.form h1 (by omega)
  have H1 := Lib.hid h1
  have H2 := Lib.hid h2
  have hrc := H1.out.rb.open_
  obtain ⟨A', cap', he, hlc1, hcm1, _⟩ := hrc
  injection he with e1 _ e3
  subst e1; subst e3
  clear h1 h2
  go_wp2_with fail
  refine (number_c n _ hn).mono ?_
  rintro e w2 ⟨rfl, hu⟩
  have HU := Lib.hid hu
  clear hu
  have hic : i ≤ cap1 := by omega
  have hib : i ≤ bs.length := by omega
  have hne : (cap1 = i) = False := by simp; omega
  go_wp2_with fail
  have ks : IntKind.i64.wrap (8 - 8) = 8 - 8 := rfl
  simp only [Int.reduceSub] at ks
  go_region_law (refine step_copyB rfl (.tmp 29) (.tmp 32) rfl w.heap.size g1 bs.length cap1 i _ _ bs (be 8 n) (.slice (some ⟨w2.heap.size, 8 - 8, none⟩) 8 8) (by simp [Act.eval, Act.put]; exact ⟨rfl, rfl⟩) (by simp [Act.eval, Act.put]) (by exact ((H1.out.upd0 HU.out).upd0 ((Upd.refl _ _).alloc _).drew)) (by exact rb_be (Blk.new w2 _ _).drew 8 (by decide)) (by rw [be_length]; decide) (by rw [be_length]; omega) (by rw [be_length]; omega) ?_; intro w3 h3 h4)
  have fin : OB w3 w.heap.size (.slice (some ⟨g1, 0, none⟩) bs.length cap1) (putB bs i 8 n) ∧ Upd [] w w3 := ⟨h3, (H2.out.trans ((HU.out.alloc _).drew)).trans' h4 (by simpa using hg1)⟩
  have HF := Lib.hid fin
  clear fin h3 h4
  go_wp2
  go_ret2
  exact ⟨_, rfl, _, rfl, HF.out⟩
theorem put_c (v : Value) (bs : List UInt8) (i size n : Nat) (w : World) (hs : size = 1 ∨ size = 2 ∨ size = 4 ∨ size = 8) (hb : RB w v bs) (hi : i + size ≤ bs.length) (hn : n < 18446744073709551616) (hfit : fitsB n size = true) (hl : bs.length ≤ lim) :
    Calls Tryd.prog 35 #[v, .int .i64 i, .int .i64 size, .int .u64 n] w (Ret fun r w' => ∃ v', r = .tuple #[v', .int .i64 0] ∧ OB w' w.heap.size v' (putB bs i size n) ∧ Upd [] w w') := by
  obtain rfl | rfl | rfl | rfl := hs
  · exact put_c1 v bs i n w hb hi hn hfit hl
  · exact put_c2 v bs i n w hb hi hn hfit hl
  · exact put_c4 v bs i n w hb hi hn hfit hl
  · exact put_c8 v bs i n w hb hi hn hfit hl

theorem put_big (v : Value) (bs : List UInt8) (i size n : Nat) (w : World) (hb : RB w v bs) (h1 : 1 ≤ size) (h8 : size ≤ 8) (hi : i + size ≤ bs.length) (hn : n < 18446744073709551616) (hfit : fitsB n size = false) :
    Calls Tryd.prog 35 #[v, .int .i64 i, .int .i64 size, .int .u64 n] w fun e w' => e = .returned (.tuple #[.slice none 0 0, .int .i64 3]) ∧ w = w' := by
  obtain ⟨g, off, cap, rfl, hlc, hcm, hc⟩ := hb.open_pos (by omega)
  have hd : decide ((i : Int) + size ≤ (bs.length : Int)) = true := by simp; omega
  clear hc hb
  go_enter Tryd.func35, Tryd.ntmps35
  go_wp2_with fail
  refine (there_c _ _ _ _ _ _ (by omega) (by omega) (by omega) (by omega)).mono ?_
  rintro e w1 ⟨rfl, rfl⟩
  go_wp2_with fail
  refine (fits_c n size _ hn (by omega) (by omega)).mono ?_
  rintro e w1 ⟨rfl, rfl⟩
  have hf' : fitsB n ((size : Int)).toNat = false := by simpa using hfit
  go_wp2
  go_ret2
  exact ⟨rfl, rfl⟩

theorem eq_of_takes {bs cs : List UInt8} (hl : bs.length = cs.length) (h : bs.take bs.length = cs.take bs.length) : bs = cs := by
  rw [List.take_length] at h
  rw [h, List.take_of_length_le (by omega)]
theorem ne_of_at {bs cs : List UInt8} {k : Nat} (h1 : k < bs.length) (h2 : k < cs.length) (h : ¬ (bs[k].toNat : Int) = (cs[k].toNat : Int)) : (bs == cs) = false := by
  rw [beq_eq_false_iff_ne]
  rintro rfl
  exact h rfl
theorem takes_step {bs cs : List UInt8} {k : Nat} (h1 : k < bs.length) (h2 : k < cs.length) (h : bs.take k = cs.take k) (he : (bs[k].toNat : Int) = (cs[k].toNat : Int)) : bs.take (k + 1) = cs.take (k + 1) := by
  rw [take_snoc _ k h1, take_snoc _ k h2, h]
  congr 2
  exact UInt8.toNat_inj.1 (by omega)

set_option maxHeartbeats 400000 in
theorem equal_c (v1 v2 : Value) (bs cs : List UInt8) (w : World) (h1 : RB w v1 bs) (h2 : RB w v2 cs) :
    Calls Tryd.prog 37 #[v1, v2] w fun e w' => e = .returned (.bool (bs == cs)) ∧ Upd [] w w' := by
  by_cases hlen : bs.length = cs.length
  · by_cases h0 : 0 < bs.length
    · obtain ⟨g1, o1, c1, rfl, l1, m1, e1⟩ := h1.open_pos h0
      obtain ⟨g2, o2, c2, rfl, l2, m2, e2⟩ := h2.open_pos (by omega)
      have E1 := Lib.hid e1
      have E2 := Lib.hid e2
      clear h1 h2 e1 e2
      obtain ⟨n, hn⟩ : ∃ n, n = cs.length := ⟨_, rfl⟩
      rw [← hn] at hlen l2 ⊢
      have HN := Lib.hid hn
      subst hlen
      clear hn
      go_enter Tryd.func37, Tryd.ntmps37
      go_wp2
      go_loopw [13] (fun t wr => ∃ k n : Nat, k ≤ bs.length ∧ t = .int .i64 (k : Int) ∧ wr = w.drewN n ∧ bs.take k = cs.take k) (fun t _ => bs.length - (intOf t).toNat)
      case atStart => exact ⟨0, 0, by omega, rfl, rfl, by simp⟩
      case round =>
        obtain ⟨k, n, hk, rfl, rfl, ht⟩ := hrel
        have HT := Lib.hid ht
        clear ht
        by_cases hlt : k < bs.length
        · have d1 := E1.out k hlt
          have d2 := E2.out k (by have := HN.out; omega)
          have hi0 : (0 : Int) ≤ (k : Int) := by omega
          have hi1 : (k : Int) < (bs.length : Int) := by omega
          by_cases heq : (bs[k].toNat : Int) = ((cs[k]'(by have := HN.out; omega)).toNat : Int)
          · have hb : (((bs[k].toNat : Int)) != (((cs[k]'(by have := HN.out; omega)).toNat : Int))) = false := by simpa using heq
            have HQ := Lib.hid heq
            clear heq
            go_wp2
            go_quiet (fail)
            go_wp2
            go_roundw
            case rel => exact ⟨k + 1, _, by omega, by go_num, rfl, takes_step hlt (by have := HN.out; omega) HT.out HQ.out⟩
            case measure => simp [intOf]; omega
          · have hb : (((bs[k].toNat : Int)) != (((cs[k]'(by have := HN.out; omega)).toNat : Int))) = true := by simpa using heq
            have HQ := Lib.hid heq
            clear heq
            go_wp2
            go_quiet (fail)
            go_wp2
            go_ret
            exact ⟨ret_bool (ne_of_at hlt (by have := HN.out; omega) HQ.out).symm, ((Upd.refl _ _).drewN _).drewN _⟩
        · obtain rfl : k = bs.length := by omega
          go_wp2
          go_ret
          exact ⟨ret_bool (by rw [eq_of_takes HN.out HT.out]; simp), (Upd.refl _ _).drewN _⟩
    · obtain rfl : bs = [] := List.eq_nil_of_length_eq_zero (by omega)
      obtain rfl : cs = [] := List.eq_nil_of_length_eq_zero (by simpa using hlen.symm)
      obtain ⟨A1, c1, rfl, l1, m1, _, e1⟩ := h1.open_
      obtain ⟨A2, c2, rfl, l2, m2, _, e2⟩ := h2.open_
      clear h1 h2 e1 e2 h0 hlen
      go_enter Tryd.func37, Tryd.ntmps37
      go_wp2
      refine wp_loop_rounds 1 ?_
      rw [rounds_succ]
      go_wp2
      go_ret
      exact ⟨rfl, Upd.refl _ _⟩
  · obtain ⟨A1, c1, rfl, l1, m1, _, e1⟩ := h1.open_
    obtain ⟨A2, c2, rfl, l2, m2, _, e2⟩ := h2.open_
    clear h1 h2 e1 e2
    have hne : ((bs.length : Int) != (cs.length : Int)) = true := by rw [bne_iff_ne]; omega
    have hf : (bs == cs) = false := by rw [beq_eq_false_iff_ne]; rintro rfl; exact hlen rfl
    have HF := Lib.hid hf
    clear hf
    go_enter Tryd.func37, Tryd.ntmps37
    go_wp2
    go_ret
    exact ⟨ret_bool HF.out.symm, Upd.refl _ _⟩
end Go.Proofs.YtpkljdjdapgmjaaDoor
