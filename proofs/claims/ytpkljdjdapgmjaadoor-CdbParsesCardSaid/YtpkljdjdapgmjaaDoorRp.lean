/- Contracts of the reference's fits and Put (caissonref02). -/
import Derived.Test.YtpkljdjdapgmjaaDoorGa
import Derived.Test.YtpkljdjdapgmjaaDoorFp
import Derived.Test.YtpkljdjdapgmjaaDoorLa
namespace Go.Proofs.YtpkljdjdapgmjaaDoor
open Go.RowKit
set_option linter.unusedVariables false
set_option linter.unusedSimpArgs false

theorem rfits_c (n : Nat) (size : Nat) (w : World) (hn : n < 18446744073709551616) (h1 : 1 ≤ size) (h8 : size ≤ 8) :
    Calls Tryd.prog 61 #[.int .u64 n, .int .i64 size] w fun e w' => e = .returned (.bool (fitsB n size)) ∧ w = w' := by
  obtain rfl | rfl | rfl | rfl | rfl | rfl | rfl | rfl : size = 1 ∨ size = 2 ∨ size = 3 ∨ size = 4 ∨ size = 5 ∨ size = 6 ∨ size = 7 ∨ size = 8 := by omega
  all_goals
    go_enter Tryd.func61, Tryd.ntmps61
    go_wp2
    go_ret
    refine ⟨ret_bool ?_, rfl⟩
    rw [Bool.eq_iff_iff]
    simp [fitsB]
    try omega

/-- A byte is stored in a row of the call's own. -/
theorem OB.put {w : World} {base g n cap : Nat} {bs : List UInt8} (h : OB w base (.slice (some ⟨g, 0, none⟩) n cap) bs) (j : Nat) (c : UInt8) (hj : j < bs.length) :
    OB (w.setCell ⟨g, j, none⟩ (bv c)) base (.slice (some ⟨g, 0, none⟩) n cap) (bs.set j c) := by
  obtain ⟨hl, hrest⟩ := h
  rcases hrest with ⟨he, _⟩ | ⟨g', cap', cur, he, hb, hg, hn, hm, hsz, ht⟩
  · cases he
  · injection he with e1 e2 e3
    injection e1 with e1
    injection e1 with e1
    subst e1; subst e3
    have hl' : (bs.set j c).length = bs.length := by simp
    refine ⟨by simp, .inr ⟨g, cap, cur.set! j (bv c), ?_, hb, ?_, ?_, hm, ?_, ?_⟩⟩
    · rw [hl', e2]
    · simp [World.setCell, Array.getElem?_modify, hg]
    · rw [hl']; exact hn
    · simpa using hsz
    · rw [hl']
      simp only [Nat.mul_one] at ht ⊢
      simp only [Array.set!_eq_setIfInBounds, Array.toList_setIfInBounds, List.map_set]
      rw [List.take_set, ht]
theorem OB.free {w : World} {base g n cap : Nat} {bs : List UInt8} (h : OB w base (.slice (some ⟨g, 0, none⟩) n cap) bs) (j : Nat) : w.frozen? ⟨g, j, none⟩ = false := by
  rcases h.2 with ⟨he, _⟩ | ⟨g', cap', cur, he, hb, hg, hn, hm, hsz, ht⟩
  · cases he
  · injection he with e1 e2 e3
    injection e1 with e1
    injection e1 with e1
    subst e1
    simp [World.frozen?, hg]
theorem OB.cell {w : World} {base g n cap : Nat} {bs : List UInt8} (h : OB w base (.slice (some ⟨g, 0, none⟩) n cap) bs) (j : Nat) (hj : j < bs.length) : w.cell? ⟨g, j, none⟩ = some (.int .u8 ((bs[j]'hj).toNat : Int)) := by
  obtain ⟨A, cap', hv, _, _, _, h4⟩ := h.rb.open_
  injection hv with e1 e2 e3
  obtain ⟨g', off, he, hc⟩ := h4 j hj
  rw [← e1] at he
  injection he with he; injection he with e4 e5
  subst e4; subst e5
  simpa using hc

theorem over_snoc (bs : List UInt8) (off : Nat) (cs : List UInt8) (c : UInt8) (h : off + cs.length < bs.length) : (over bs off cs).set (off + cs.length) c = over bs off (cs ++ [c]) := by
  unfold over
  have hl : (bs.take off).length = off := by rw [List.length_take]; omega
  rw [List.set_append_right _ _ (by omega), hl, Nat.add_sub_cancel_left, List.set_append_right _ _ (Nat.le_refl _), Nat.sub_self, List.append_assoc]
  congr 2
  rw [List.drop_eq_getElem_cons (by omega), List.set_cons_zero]
  simp [Nat.add_assoc]
theorem over_nil (bs : List UInt8) (off : Nat) : over bs off [] = bs := by simp [over]

set_option maxHeartbeats 1000000 in
theorem rput_c1 (v : Value) (bs : List UInt8) (i n : Nat) (w : World) (hb : RB w v bs) (hi : i + 1 ≤ bs.length) (hn : n < 18446744073709551616) (hfit : fitsB n 1 = true) (hl : bs.length ≤ lim) :
    Calls Tryd.prog 60 #[v, .int .i64 i, .int .i64 1, .int .u64 n] w (Ret fun r w' => ∃ v', r = .tuple #[v', .int .i64 0] ∧ OB w' w.heap.size v' (putB bs i 1 n) ∧ Upd [] w w') := by
  obtain ⟨g0, off, cap, rfl, hlc, hcm, hc⟩ := hb.open_pos (by omega)
  have Hb := Lib.hid hb
  have Hl := Lib.hid hl
  have Hn := Lib.hid (byte_shift (n : Int))
  have hn0 : ((n : Int) % 18446744073709551616).toNat = n := by omega
  have Hn0 := Lib.hid hn0
  clear hc hb hl hn0
  go_enter Tryd.func60, Tryd.ntmps60
  go_wp2_with fail
  refine (rfits_c n 1 _ hn (by omega) (by omega)).mono ?_
  rintro e w1 ⟨rfl, rfl⟩
  go_wp2_with (at_builtin; refine wpList_appB rfl (.tmp 34) (.tmp 35) rfl w.heap.size _ [] rfl ?p2 _ bs rfl ?p4 ?p5 ?p6 ?_)
  case p2 => exact OB.nil _ _
  case p4 => exact Hb.out
  case p5 => have := Hl.out; simpa using this
  case p6 => exact Nat.le_refl _
  intro A1 n1 c1 w1 g1
  have o1 := g1.own
  have u1 := g1.from_new (Upd.refl [] w) (by simp [Value.ownBlock])
  have z1 := g1.n_eq
  simp only [List.nil_append, List.length_nil, Nat.zero_add] at o1 z1
  subst z1
  obtain ⟨g, cap', he, hc1, hc2⟩ := o1.ptr (by omega)
  injection he with e1 e2 e3
  subst e1; subst e3
  clear e2
  have O1 := Lib.hid o1
  have U1 := Lib.hid u1
  clear g1 o1 u1
  go_wp2_with fail
  go_loopw [11] (fun t wr => ∃ k : Nat, k ≤ 1 ∧ t = .int .i64 (k : Int) ∧ OB wr w.heap.size (.slice (some ⟨g, 0, none⟩) bs.length c1) (over bs i ((be 1 n).take k)) ∧ Upd [] w wr) (fun t _ => 1 - (intOf t).toNat)
  case atStart => exact ⟨0, by omega, rfl, by simpa [over_nil] using O1.out, U1.out⟩
  case round =>
    obtain ⟨k, hk, rfl, r1, r2⟩ := hrel
    by_cases hlt : k < 1
    · have hlen : (over bs i ((be 1 n).take k)).length = bs.length := over_length (by simp [be_length]; omega)
      have hce := r1.cell (i + k) (by rw [hlen]; omega)
      have hfr := r1.free (i + k)
      obtain ⟨z, hz⟩ : ∃ z : Int, z = (((over bs i ((be 1 n).take k))[i + k]'(by rw [hlen]; omega)).toNat : Int) := ⟨_, rfl⟩
      rw [← hz] at hce
      clear hz
      have R1 := Lib.hid r1
      have R2 := Lib.hid r2
      have HL := Lib.hid hlen
      clear r1 r2 hlen
      go_wp2_with fail
      go_roundw
      case rel =>
        have hb := Hn.out (1 - 1 - k) (by omega)
        rw [Hn0.out] at hb
        refine ⟨k + 1, by omega, by go_num, ?_, R2.out.setCell (.inr (R1.out.lt g rfl).1) _⟩
        have hp := R1.out.put (i + k) (bb n (1 - 1 - k)) (by rw [HL.out]; omega)
        have hk2 : ((be 1 n).take k).length = k := by simp [be_length]; omega
        have hs := over_snoc bs i ((be 1 n).take k) (bb n (1 - 1 - k)) (by rw [hk2]; omega)
        rw [hk2] at hs
        rw [hs] at hp
        rw [take_snoc _ k (by rw [be_length]; omega), be_getElem]
        unfold bv at hp
        rw [← hb] at hp
        first | (simpa using hp) | (obtain rfl : k = 0 := by omega
                                    simpa using hp)
      case measure => simp [intOf]; omega
    · obtain rfl : k = 1 := by omega
      have R1 := Lib.hid r1
      have R2 := Lib.hid r2
      clear r1 r2
      go_wp2_with fail
      go_ret2
      refine ⟨_, rfl, _, rfl, ?_, R2.out⟩
      have := R1.out
      rwa [List.take_of_length_le (by simp [be_length])] at this
set_option maxHeartbeats 1000000 in
theorem rput_c2 (v : Value) (bs : List UInt8) (i n : Nat) (w : World) (hb : RB w v bs) (hi : i + 2 ≤ bs.length) (hn : n < 18446744073709551616) (hfit : fitsB n 2 = true) (hl : bs.length ≤ lim) :
    Calls Tryd.prog 60 #[v, .int .i64 i, .int .i64 2, .int .u64 n] w (Ret fun r w' => ∃ v', r = .tuple #[v', .int .i64 0] ∧ OB w' w.heap.size v' (putB bs i 2 n) ∧ Upd [] w w') := by
  obtain ⟨g0, off, cap, rfl, hlc, hcm, hc⟩ := hb.open_pos (by omega)
  have Hb := Lib.hid hb
  have Hl := Lib.hid hl
  have Hn := Lib.hid (byte_shift (n : Int))
  have hn0 : ((n : Int) % 18446744073709551616).toNat = n := by omega
  have Hn0 := Lib.hid hn0
  clear hc hb hl hn0
  go_enter Tryd.func60, Tryd.ntmps60
  go_wp2_with fail
  refine (rfits_c n 2 _ hn (by omega) (by omega)).mono ?_
  rintro e w1 ⟨rfl, rfl⟩
  go_wp2_with (at_builtin; refine wpList_appB rfl (.tmp 34) (.tmp 35) rfl w.heap.size _ [] rfl ?p2 _ bs rfl ?p4 ?p5 ?p6 ?_)
  case p2 => exact OB.nil _ _
  case p4 => exact Hb.out
  case p5 => have := Hl.out; simpa using this
  case p6 => exact Nat.le_refl _
  intro A1 n1 c1 w1 g1
  have o1 := g1.own
  have u1 := g1.from_new (Upd.refl [] w) (by simp [Value.ownBlock])
  have z1 := g1.n_eq
  simp only [List.nil_append, List.length_nil, Nat.zero_add] at o1 z1
  subst z1
  obtain ⟨g, cap', he, hc1, hc2⟩ := o1.ptr (by omega)
  injection he with e1 e2 e3
  subst e1; subst e3
  clear e2
  have O1 := Lib.hid o1
  have U1 := Lib.hid u1
  clear g1 o1 u1
  go_wp2_with fail
  go_loopw [11] (fun t wr => ∃ k : Nat, k ≤ 2 ∧ t = .int .i64 (k : Int) ∧ OB wr w.heap.size (.slice (some ⟨g, 0, none⟩) bs.length c1) (over bs i ((be 2 n).take k)) ∧ Upd [] w wr) (fun t _ => 2 - (intOf t).toNat)
  case atStart => exact ⟨0, by omega, rfl, by simpa [over_nil] using O1.out, U1.out⟩
  case round =>
    obtain ⟨k, hk, rfl, r1, r2⟩ := hrel
    by_cases hlt : k < 2
    · have hlen : (over bs i ((be 2 n).take k)).length = bs.length := over_length (by simp [be_length]; omega)
      have hce := r1.cell (i + k) (by rw [hlen]; omega)
      have hfr := r1.free (i + k)
      obtain ⟨z, hz⟩ : ∃ z : Int, z = (((over bs i ((be 2 n).take k))[i + k]'(by rw [hlen]; omega)).toNat : Int) := ⟨_, rfl⟩
      rw [← hz] at hce
      clear hz
      have R1 := Lib.hid r1
      have R2 := Lib.hid r2
      have HL := Lib.hid hlen
      clear r1 r2 hlen
      go_wp2_with fail
      go_roundw
      case rel =>
        have hb := Hn.out (2 - 1 - k) (by omega)
        rw [Hn0.out] at hb
        refine ⟨k + 1, by omega, by go_num, ?_, R2.out.setCell (.inr (R1.out.lt g rfl).1) _⟩
        have hp := R1.out.put (i + k) (bb n (2 - 1 - k)) (by rw [HL.out]; omega)
        have hk2 : ((be 2 n).take k).length = k := by simp [be_length]; omega
        have hs := over_snoc bs i ((be 2 n).take k) (bb n (2 - 1 - k)) (by rw [hk2]; omega)
        rw [hk2] at hs
        rw [hs] at hp
        rw [take_snoc _ k (by rw [be_length]; omega), be_getElem]
        unfold bv at hp
        rw [← hb] at hp
        first | (simpa using hp) | (obtain rfl : k = 0 := by omega
                                    simpa using hp)
      case measure => simp [intOf]; omega
    · obtain rfl : k = 2 := by omega
      have R1 := Lib.hid r1
      have R2 := Lib.hid r2
      clear r1 r2
      go_wp2_with fail
      go_ret2
      refine ⟨_, rfl, _, rfl, ?_, R2.out⟩
      have := R1.out
      rwa [List.take_of_length_le (by simp [be_length])] at this
set_option maxHeartbeats 1000000 in
theorem rput_c4 (v : Value) (bs : List UInt8) (i n : Nat) (w : World) (hb : RB w v bs) (hi : i + 4 ≤ bs.length) (hn : n < 18446744073709551616) (hfit : fitsB n 4 = true) (hl : bs.length ≤ lim) :
    Calls Tryd.prog 60 #[v, .int .i64 i, .int .i64 4, .int .u64 n] w (Ret fun r w' => ∃ v', r = .tuple #[v', .int .i64 0] ∧ OB w' w.heap.size v' (putB bs i 4 n) ∧ Upd [] w w') := by
  obtain ⟨g0, off, cap, rfl, hlc, hcm, hc⟩ := hb.open_pos (by omega)
  have Hb := Lib.hid hb
  have Hl := Lib.hid hl
  have Hn := Lib.hid (byte_shift (n : Int))
  have hn0 : ((n : Int) % 18446744073709551616).toNat = n := by omega
  have Hn0 := Lib.hid hn0
  clear hc hb hl hn0
  go_enter Tryd.func60, Tryd.ntmps60
  go_wp2_with fail
  refine (rfits_c n 4 _ hn (by omega) (by omega)).mono ?_
  rintro e w1 ⟨rfl, rfl⟩
  go_wp2_with (at_builtin; refine wpList_appB rfl (.tmp 34) (.tmp 35) rfl w.heap.size _ [] rfl ?p2 _ bs rfl ?p4 ?p5 ?p6 ?_)
  case p2 => exact OB.nil _ _
  case p4 => exact Hb.out
  case p5 => have := Hl.out; simpa using this
  case p6 => exact Nat.le_refl _
  intro A1 n1 c1 w1 g1
  have o1 := g1.own
  have u1 := g1.from_new (Upd.refl [] w) (by simp [Value.ownBlock])
  have z1 := g1.n_eq
  simp only [List.nil_append, List.length_nil, Nat.zero_add] at o1 z1
  subst z1
  obtain ⟨g, cap', he, hc1, hc2⟩ := o1.ptr (by omega)
  injection he with e1 e2 e3
  subst e1; subst e3
  clear e2
  have O1 := Lib.hid o1
  have U1 := Lib.hid u1
  clear g1 o1 u1
  go_wp2_with fail
  go_loopw [11] (fun t wr => ∃ k : Nat, k ≤ 4 ∧ t = .int .i64 (k : Int) ∧ OB wr w.heap.size (.slice (some ⟨g, 0, none⟩) bs.length c1) (over bs i ((be 4 n).take k)) ∧ Upd [] w wr) (fun t _ => 4 - (intOf t).toNat)
  case atStart => exact ⟨0, by omega, rfl, by simpa [over_nil] using O1.out, U1.out⟩
  case round =>
    obtain ⟨k, hk, rfl, r1, r2⟩ := hrel
    by_cases hlt : k < 4
    · have hlen : (over bs i ((be 4 n).take k)).length = bs.length := over_length (by simp [be_length]; omega)
      have hce := r1.cell (i + k) (by rw [hlen]; omega)
      have hfr := r1.free (i + k)
      obtain ⟨z, hz⟩ : ∃ z : Int, z = (((over bs i ((be 4 n).take k))[i + k]'(by rw [hlen]; omega)).toNat : Int) := ⟨_, rfl⟩
      rw [← hz] at hce
      clear hz
      have R1 := Lib.hid r1
      have R2 := Lib.hid r2
      have HL := Lib.hid hlen
      clear r1 r2 hlen
      go_wp2_with fail
      go_roundw
      case rel =>
        have hb := Hn.out (4 - 1 - k) (by omega)
        rw [Hn0.out] at hb
        refine ⟨k + 1, by omega, by go_num, ?_, R2.out.setCell (.inr (R1.out.lt g rfl).1) _⟩
        have hp := R1.out.put (i + k) (bb n (4 - 1 - k)) (by rw [HL.out]; omega)
        have hk2 : ((be 4 n).take k).length = k := by simp [be_length]; omega
        have hs := over_snoc bs i ((be 4 n).take k) (bb n (4 - 1 - k)) (by rw [hk2]; omega)
        rw [hk2] at hs
        rw [hs] at hp
        rw [take_snoc _ k (by rw [be_length]; omega), be_getElem]
        unfold bv at hp
        rw [← hb] at hp
        first | (simpa using hp) | (obtain rfl : k = 0 := by omega
                                    simpa using hp)
      case measure => simp [intOf]; omega
    · obtain rfl : k = 4 := by omega
      have R1 := Lib.hid r1
      have R2 := Lib.hid r2
      clear r1 r2
      go_wp2_with fail
      go_ret2
      refine ⟨_, rfl, _, rfl, ?_, R2.out⟩
      have := R1.out
      rwa [List.take_of_length_le (by simp [be_length])] at this
set_option maxHeartbeats 1000000 in
theorem rput_c8 (v : Value) (bs : List UInt8) (i n : Nat) (w : World) (hb : RB w v bs) (hi : i + 8 ≤ bs.length) (hn : n < 18446744073709551616) (hfit : fitsB n 8 = true) (hl : bs.length ≤ lim) :
    Calls Tryd.prog 60 #[v, .int .i64 i, .int .i64 8, .int .u64 n] w (Ret fun r w' => ∃ v', r = .tuple #[v', .int .i64 0] ∧ OB w' w.heap.size v' (putB bs i 8 n) ∧ Upd [] w w') := by
  obtain ⟨g0, off, cap, rfl, hlc, hcm, hc⟩ := hb.open_pos (by omega)
  have Hb := Lib.hid hb
  have Hl := Lib.hid hl
  have Hn := Lib.hid (byte_shift (n : Int))
  have hn0 : ((n : Int) % 18446744073709551616).toNat = n := by omega
  have Hn0 := Lib.hid hn0
  clear hc hb hl hn0
  go_enter Tryd.func60, Tryd.ntmps60
  go_wp2_with fail
  refine (rfits_c n 8 _ hn (by omega) (by omega)).mono ?_
  rintro e w1 ⟨rfl, rfl⟩
  go_wp2_with (at_builtin; refine wpList_appB rfl (.tmp 34) (.tmp 35) rfl w.heap.size _ [] rfl ?p2 _ bs rfl ?p4 ?p5 ?p6 ?_)
  case p2 => exact OB.nil _ _
  case p4 => exact Hb.out
  case p5 => have := Hl.out; simpa using this
  case p6 => exact Nat.le_refl _
  intro A1 n1 c1 w1 g1
  have o1 := g1.own
  have u1 := g1.from_new (Upd.refl [] w) (by simp [Value.ownBlock])
  have z1 := g1.n_eq
  simp only [List.nil_append, List.length_nil, Nat.zero_add] at o1 z1
  subst z1
  obtain ⟨g, cap', he, hc1, hc2⟩ := o1.ptr (by omega)
  injection he with e1 e2 e3
  subst e1; subst e3
  clear e2
  have O1 := Lib.hid o1
  have U1 := Lib.hid u1
  clear g1 o1 u1
  go_wp2_with fail
  go_loopw [11] (fun t wr => ∃ k : Nat, k ≤ 8 ∧ t = .int .i64 (k : Int) ∧ OB wr w.heap.size (.slice (some ⟨g, 0, none⟩) bs.length c1) (over bs i ((be 8 n).take k)) ∧ Upd [] w wr) (fun t _ => 8 - (intOf t).toNat)
  case atStart => exact ⟨0, by omega, rfl, by simpa [over_nil] using O1.out, U1.out⟩
  case round =>
    obtain ⟨k, hk, rfl, r1, r2⟩ := hrel
    by_cases hlt : k < 8
    · have hlen : (over bs i ((be 8 n).take k)).length = bs.length := over_length (by simp [be_length]; omega)
      have hce := r1.cell (i + k) (by rw [hlen]; omega)
      have hfr := r1.free (i + k)
      obtain ⟨z, hz⟩ : ∃ z : Int, z = (((over bs i ((be 8 n).take k))[i + k]'(by rw [hlen]; omega)).toNat : Int) := ⟨_, rfl⟩
      rw [← hz] at hce
      clear hz
      have R1 := Lib.hid r1
      have R2 := Lib.hid r2
      have HL := Lib.hid hlen
      clear r1 r2 hlen
      go_wp2_with fail
      go_roundw
      case rel =>
        have hb := Hn.out (8 - 1 - k) (by omega)
        rw [Hn0.out] at hb
        refine ⟨k + 1, by omega, by go_num, ?_, R2.out.setCell (.inr (R1.out.lt g rfl).1) _⟩
        have hp := R1.out.put (i + k) (bb n (8 - 1 - k)) (by rw [HL.out]; omega)
        have hk2 : ((be 8 n).take k).length = k := by simp [be_length]; omega
        have hs := over_snoc bs i ((be 8 n).take k) (bb n (8 - 1 - k)) (by rw [hk2]; omega)
        rw [hk2] at hs
        rw [hs] at hp
        rw [take_snoc _ k (by rw [be_length]; omega), be_getElem]
        unfold bv at hp
        rw [← hb] at hp
        first | (simpa using hp) | (obtain rfl : k = 0 := by omega
                                    simpa using hp)
      case measure => simp [intOf]; omega
    · obtain rfl : k = 8 := by omega
      have R1 := Lib.hid r1
      have R2 := Lib.hid r2
      clear r1 r2
      go_wp2_with fail
      go_ret2
      refine ⟨_, rfl, _, rfl, ?_, R2.out⟩
      have := R1.out
      rwa [List.take_of_length_le (by simp [be_length])] at this
theorem rput_c (v : Value) (bs : List UInt8) (i size n : Nat) (w : World) (hs : size = 1 ∨ size = 2 ∨ size = 4 ∨ size = 8) (hb : RB w v bs) (hi : i + size ≤ bs.length) (hn : n < 18446744073709551616) (hfit : fitsB n size = true) (hl : bs.length ≤ lim) :
    Calls Tryd.prog 60 #[v, .int .i64 i, .int .i64 size, .int .u64 n] w (Ret fun r w' => ∃ v', r = .tuple #[v', .int .i64 0] ∧ OB w' w.heap.size v' (putB bs i size n) ∧ Upd [] w w') := by
  obtain rfl | rfl | rfl | rfl := hs
  · exact rput_c1 v bs i n w hb hi hn hfit hl
  · exact rput_c2 v bs i n w hb hi hn hfit hl
  · exact rput_c4 v bs i n w hb hi hn hfit hl
  · exact rput_c8 v bs i n w hb hi hn hfit hl
theorem rput_big (v : Value) (bs : List UInt8) (i size n : Nat) (w : World) (hb : RB w v bs) (h1 : 1 ≤ size) (h8 : size ≤ 8) (hi : i + size ≤ bs.length) (hn : n < 18446744073709551616) (hfit : fitsB n size = false) :
    Calls Tryd.prog 60 #[v, .int .i64 i, .int .i64 size, .int .u64 n] w fun e w' => e = .returned (.tuple #[.slice none 0 0, .int .i64 3]) ∧ w = w' := by
  obtain ⟨g0, off, cap, rfl, hlc, hcm, hc⟩ := hb.open_pos (by omega)
  have e1 : ((size : Int) < 1) = False := by simp; omega
  have e2 : ((8 : Int) < size) = False := by simp; omega
  have e3 : ((bs.length : Int) - size < i) = False := by simp; omega
  clear hc hb
  go_enter Tryd.func60, Tryd.ntmps60
  go_wp2_with fail
  refine (rfits_c n size _ hn h1 h8).mono ?_
  rintro e w1 ⟨rfl, rfl⟩
  go_wp2_with fail
  go_ret2
  exact ⟨rfl, rfl⟩
end Go.Proofs.YtpkljdjdapgmjaaDoor
