/- Contracts of PutRanges, the program's and the reference's: the walks. -/
import Derived.Test.YtpkljdjdapgmjaaDoorRo
namespace Go.Proofs.YtpkljdjdapgmjaaDoor
open Go.RowKit
set_option linter.unusedVariables false
set_option linter.unusedSimpArgs false

/-- The numbers of ranges are such numbers. -/
def OkR (l : List (Nat × Int)) : Prop := ∀ x ∈ l, x.1 < 18446744073709551616 ∧ -9223372036854775808 ≤ x.2 ∧ x.2 ≤ 9223372036854775807
theorem Wx.nilK {T : TypeId} {w0 w : World} {K : List Nat} {p : Nat} {st : List UInt8 × Int} (h : Wx T w0 w K p st) : Wx T w0 w [] p st := by
  obtain ⟨S, h1, h2, h3, h4, h5⟩ := h.ex
  exact ⟨S, h1, h2, h3, by simp, by simp⟩
theorem prB_neg {l : List (Nat × Int)} {k : Nat} (hk : k < l.length) (h : fitR (l[k]'hk) = false) : prB l = (3, []) := by
  unfold prB
  split
  · rfl
  · rw [if_neg]
    intro ha
    have := List.all_eq_true.1 ha _ (List.getElem_mem hk)
    rw [h] at this
    cases this
theorem prB_long {l : List (Nat × Int)} (h : 32 < l.length) : prB l = (3, []) := by unfold prB; rw [if_pos h]
theorem prB_end {l : List (Nat × Int)} (hl : OkR l) (hn : l.length ≤ 32) (h0 : ∀ x ∈ l, 0 ≤ x.2) : ((foldR l.length l).2, if (foldR l.length l).2 = 0 then (foldR l.length l).1 else []) = prB l := by
  have e : prB l = if l.all fitR then (0, headB l.length ++ l.flatMap rangeB) else (3, []) := by unfold prB; exact if_neg (by omega)
  rw [e]
  rcases foldR_inv (n := l.length) hn (fun x hx => (hl x hx).1) h0 with ⟨h1, h2⟩ | ⟨h1, h2⟩
  · rw [h1, h2]; rfl
  · rw [h1, h2]; rfl

set_option maxHeartbeats 2000000 in
theorem putRanges_c (v : Value) (l : List (Nat × Int)) (w : World) (hb : RR w v l) (hok : OkR l) (hl : l.length * 16 ≤ 140737488355328) :
    Calls Tryd.prog 26 #[v] w (Ret fun r w' => ∃ u, r = .tuple #[u, .int .i64 (prB l).1] ∧ OB w' w.heap.size u (prB l).2 ∧ Upd [] w w') := by
  have HB := Lib.hid hb
  have HOK := Lib.hid hok
  obtain ⟨A, cap, rfl, h1, h2, _⟩ := hb.open_
  clear hb hok
  by_cases h32 : 32 < l.length
  · have hp := prB_long h32
    have HP := Lib.hid hp
    clear hp
    go_enter Tryd.func26, Tryd.ntmps26
    go_wp2_with fail
    go_ret2
    rw [HP.out]
    exact ⟨_, rfl, _, rfl, OB.nil _ _, Upd.refl _ _⟩
  · go_enter Tryd.func26, Tryd.ntmps26
    go_wp2_with fail
    refine (newWriter_c _).mono ?_
    rintro e w1 ⟨r, rfl, p, rfl, hW, hp, hU⟩
    have X1 := Lib.hid (Wx.made hW hp hU)
    clear hW hp hU
    go_wp2_with fail
    refine (wx_num w 2 _ [] p _ _ X1.out (by decide) (by omega) (by omega) (by decide)).mono ?_
    rintro e w2 ⟨rfl, g1, _⟩
    have X2 := Lib.hid g1
    clear g1
    go_wp2_with fail
    refine (wx_num w 2 _ [] p _ _ X2.out (by decide) (by omega) (by omega) (by have := numW_length 2 (16 * (l.length : Int) + 6) ([], 0); simp only [List.length_nil] at this; unfold lim; omega)).mono ?_
    rintro e w3 ⟨rfl, g1, _⟩
    have X3 := Lib.hid g1
    clear g1
    go_wp2_with fail
    refine (wx_num w 4 _ [] p _ _ X3.out (by decide) (by omega) (by omega) (by have := numW_length 2 (16 * (l.length : Int) + 6) ([], 0); have := numW_length 2 (16 * (l.length : Int)) (numW 2 (16 * (l.length : Int) + 6) ([], 0)); simp only [List.length_nil] at *; unfold lim; omega)).mono ?_
    rintro e w4 ⟨rfl, g1, _⟩
    have X4 := Lib.hid g1
    clear g1
    go_wp2_with fail
    go_loopw [26] (fun vi wr => ∃ k : Nat, k ≤ l.length ∧ vi = .int .i64 (k : Int) ∧ Wx 110 w wr [] p (foldR l.length (l.take k)) ∧ ∀ x ∈ l.take k, 0 ≤ x.2) (fun vi _ => l.length - (intOf vi).toNat)
    case atStart => exact ⟨0, by omega, rfl, X4.out, by simp⟩
    case round =>
      obtain ⟨k, hk, rfl, r1, r2⟩ := hrel
      have R1 := Lib.hid r1
      have R2 := Lib.hid r2
      by_cases hlt : k < l.length
      · obtain ⟨g, off, cap', he, _, _, hc⟩ := (HB.out.upd r1.u).open_pos (by omega)
        injection he with e1 e2 e3
        subst e1; subst e3
        obtain ⟨c0, c1⟩ := hc k hlt
        have hxo := HOK.out _ (List.getElem_mem hlt)
        have hle := take_snocR l k hlt
        obtain ⟨a, ha⟩ : ∃ x, x = (l[k]'hlt).1 := ⟨_, rfl⟩
        obtain ⟨b, hb⟩ : ∃ x, x = (l[k]'hlt).2 := ⟨_, rfl⟩
        have hab : l[k]'hlt = (a, b) := by rw [ha, hb]
        rw [hab] at hxo hle
        rw [← ha] at c0
        rw [← hb] at c1
        obtain ⟨hx1, hx2, hx3⟩ := hxo
        have HLE := Lib.hid hle
        have HAB := Lib.hid hab
        have hk0 : (0 : Int) ≤ (k : Int) := by omega
        have hkl : (k : Int) < (l.length : Int) := by omega
        have hlen := foldR_length l.length (l.take k)
        have htk : (l.take k).length = k := by simp; omega
        rw [htk] at hlen
        have HLEN := Lib.hid hlen
        clear hc e2 r1 r2 ha hb hab hle hlen htk
        by_cases hb0 : b < 0
        · have hp : prB l = (3, []) := prB_neg hlt (by rw [HAB.out]; simp [fitR]; omega)
          have HP := Lib.hid hp
          clear hp
          go_wp2_with fail
          go_ret2
          rw [HP.out]
          exact ⟨_, rfl, _, rfl, OB.nil _ _, R1.out.u.alloc _⟩
        · have HBx := Lib.hid (Blk.new wr [.int .u64 (a : Int), .int .i64 b] 100)
          have Y0 := Lib.hid (R1.out.keep (.cells ([.int .u64 (a : Int), .int .i64 b] : List Value).toArray 100))
          have h64 := w64_bd (a : Int)
          obtain ⟨h64a, h64b⟩ := h64
          go_wp2_with fail
          refine (wx_num w 8 _ [wr.heap.size] p _ _ Y0.out (by decide) h64a h64b (by have := HLEN.out; unfold lim; omega)).mono ?_
          rintro e v1 ⟨rfl, g1, g2⟩
          have Y1 := Lib.hid g1
          have B1 : Blk v1 wr.heap.size [.int .u64 (a : Int), .int .i64 b] 100 := (g2 wr.heap.size (by simp)).trans HBx.out
          have y1 := B1.cell 1 _ rfl
          clear g1 g2 B1 c0 c1
          go_wp2_with fail
          refine (wx_num w 4 _ [wr.heap.size] p _ _ Y1.out (by decide) hx2 hx3 (by have := HLEN.out; have := numW_length 8 (wrap64 (a : Int)) (foldR l.length (l.take k)); unfold lim; omega)).mono ?_
          rintro e v2 ⟨rfl, g1, g2⟩
          have Y2 := Lib.hid g1
          clear g1 g2 y1
          go_wp2_with fail
          refine (wx_num w 4 _ [wr.heap.size] p _ _ Y2.out (by decide) (by decide) (by decide) (by have := HLEN.out; have := numW_length 8 (wrap64 (a : Int)) (foldR l.length (l.take k)); have := numW_length 4 b (numW 8 (wrap64 (a : Int)) (foldR l.length (l.take k))); unfold lim; omega)).mono ?_
          rintro e v3 ⟨rfl, g1, g2⟩
          have hst : foldR l.length (l.take (k + 1)) = numW 4 0 (numW 4 b (numW 8 (wrap64 (a : Int)) (foldR l.length (l.take k)))) := by rw [HLE.out, foldR_snoc]; rfl
          rw [← hst] at g1
          have Y3 := Lib.hid g1.nilK
          have hpos : ∀ x ∈ l.take (k + 1), 0 ≤ x.2 := by
            rw [HLE.out]
            intro x hx
            rcases List.mem_append.1 hx with h | h
            · exact R2.out x h
            · simp at h; subst h; show 0 ≤ b; omega
          have HPOS := Lib.hid hpos
          clear g1 g2 hst hpos
          go_wp2_with fail
          go_roundw
          case rel => exact ⟨k + 1, by omega, by go_num, Y3.out, HPOS.out⟩
          case measure => simp [intOf]; omega
      · obtain rfl : k = l.length := by omega
        rw [List.take_length] at r1 r2
        have R3 := Lib.hid r1
        have hpe := prB_end HOK.out (by omega) r2
        have hlen := foldR_length l.length l
        have HPE := Lib.hid hpe
        have HLEN := Lib.hid hlen
        clear r1 r2 hpe hlen
        go_wp2_with fail
        refine (wx_end w [] p _ _ R3.out (by have := HLEN.out; unfold lim; omega)).mono ?_
        rintro e w5 ⟨r, rfl, u, rfl, hO, hU⟩
        have hs := R3.out.u.size
        have HO := Lib.hid (hO.base (fun g hg => Nat.le_trans hs (hO.lt g hg).1))
        have HU := Lib.hid (R3.out.u.trans hU)
        clear hO hU hs
        go_wp2_with fail
        go_ret2
        have e1 : (prB l).1 = (foldR l.length l).2 := by rw [← HPE.out]
        have e2 : (prB l).2 = if (foldR l.length l).2 = 0 then (foldR l.length l).1 else [] := by rw [← HPE.out]
        rw [e1, e2]
        exact ⟨_, rfl, _, rfl, HO.out, HU.out⟩

set_option maxHeartbeats 2000000 in
theorem rputRanges_c (v : Value) (l : List (Nat × Int)) (w : World) (hb : RR w v l) (hok : OkR l) (hl : l.length * 16 ≤ 140737488355328) :
    Calls Tryd.prog 28 #[v] w (Ret fun r w' => ∃ u, r = .tuple #[u, .int .i64 (prB l).1] ∧ OB w' w.heap.size u (prB l).2 ∧ Upd [] w w') := by
  have HB := Lib.hid hb
  have HOK := Lib.hid hok
  obtain ⟨A, cap, rfl, h1, h2, _⟩ := hb.open_
  clear hb hok
  by_cases h32 : 32 < l.length
  · have hp := prB_long h32
    have HP := Lib.hid hp
    clear hp
    go_enter Tryd.func28, Tryd.ntmps28
    go_wp2_with fail
    go_ret2
    rw [HP.out]
    exact ⟨_, rfl, _, rfl, OB.nil _ _, Upd.refl _ _⟩
  · have X1 := Lib.hid (Wx.zero w 98)
    go_enter Tryd.func28, Tryd.ntmps28
    go_wp2_with fail
    refine (wy_num w 2 _ [] _ _ _ X1.out (by decide) (by omega) (by omega) (by decide)).mono ?_
    rintro e w2 ⟨rfl, g1, _⟩
    rw [Int.add_comm 6] at g1
    have X2 := Lib.hid g1
    clear g1
    go_wp2_with fail
    refine (wy_num w 2 _ [] _ _ _ X2.out (by decide) (by omega) (by omega) (by have := numW_length 2 (16 * (l.length : Int) + 6) ([], 0); simp only [List.length_nil] at this; unfold lim; omega)).mono ?_
    rintro e w3 ⟨rfl, g1, _⟩
    have X3 := Lib.hid g1
    clear g1
    go_wp2_with fail
    refine (wy_num w 4 _ [] _ _ _ X3.out (by decide) (by omega) (by omega) (by have := numW_length 2 (16 * (l.length : Int) + 6) ([], 0); have := numW_length 2 (16 * (l.length : Int)) (numW 2 (16 * (l.length : Int) + 6) ([], 0)); simp only [List.length_nil] at *; unfold lim; omega)).mono ?_
    rintro e w4 ⟨rfl, g1, _⟩
    have X4 := Lib.hid g1
    clear g1
    go_wp2_with fail
    go_loopw [5] (fun vi wr => ∃ k : Nat, k ≤ l.length ∧ vi = .int .i64 (k : Int) ∧ Wx 98 w wr [] w.heap.size (foldR l.length (l.take k)) ∧ ∀ x ∈ l.take k, 0 ≤ x.2) (fun vi _ => l.length - (intOf vi).toNat)
    case atStart => exact ⟨0, by omega, rfl, X4.out, by simp⟩
    case round =>
      obtain ⟨k, hk, rfl, r1, r2⟩ := hrel
      have R1 := Lib.hid r1
      have R2 := Lib.hid r2
      by_cases hlt : k < l.length
      · obtain ⟨g, off, cap', he, _, _, hc⟩ := (HB.out.upd r1.u).open_pos (by omega)
        injection he with e1 e2 e3
        subst e1; subst e3
        have HC0 := fun w' (hu : Upd [] w w') => (HB.out.upd hu).open_pos (by omega)
        obtain ⟨c0, c1⟩ := hc k hlt
        have hxo := HOK.out _ (List.getElem_mem hlt)
        have hle := take_snocR l k hlt
        obtain ⟨a, ha⟩ : ∃ x, x = (l[k]'hlt).1 := ⟨_, rfl⟩
        obtain ⟨b, hb⟩ : ∃ x, x = (l[k]'hlt).2 := ⟨_, rfl⟩
        have hab : l[k]'hlt = (a, b) := by rw [ha, hb]
        have hcell : ∀ w', Upd [] w w' → w'.cell? ⟨g, off + k * 2 + 1, none⟩ = some (.int .i64 b) := by
          intro w' hu
          obtain ⟨g', off', cap', he, _, _, hc⟩ := HC0 w' hu
          injection he with e1 e2 e3
          injection e1 with e1
          injection e1 with e4 e5
          subst e4; subst e5
          rw [hb]
          exact (hc k hlt).2
        have HCELL := Lib.hid hcell
        rw [hab] at hxo hle
        rw [← ha] at c0
        rw [← hb] at c1
        obtain ⟨hx1, hx2, hx3⟩ := hxo
        have HLE := Lib.hid hle
        have HAB := Lib.hid hab
        have hk0 : (0 : Int) ≤ (k : Int) := by omega
        have hkl : (k : Int) < (l.length : Int) := by omega
        have hlen := foldR_length l.length (l.take k)
        have htk : (l.take k).length = k := by simp; omega
        rw [htk] at hlen
        have HLEN := Lib.hid hlen
        clear hc e2 r1 r2 ha hb hab hle hlen htk HC0 hcell
        by_cases hb0 : b < 0
        · have hp : prB l = (3, []) := prB_neg hlt (by rw [HAB.out]; simp [fitR]; omega)
          have HP := Lib.hid hp
          clear hp
          go_wp2_with fail
          go_ret2
          rw [HP.out]
          exact ⟨_, rfl, _, rfl, OB.nil _ _, R1.out.u⟩
        · by_cases hb1 : 4294967296 ≤ b
          · have hp : prB l = (3, []) := prB_neg hlt (by rw [HAB.out]; simp [fitR]; omega)
            have HP := Lib.hid hp
            clear hp
            go_wp2_with fail
            go_ret2
            rw [HP.out]
            exact ⟨_, rfl, _, rfl, OB.nil _ _, R1.out.u⟩
          · have h64 := w64_bd (a : Int)
            obtain ⟨h64a, h64b⟩ := h64
            go_wp2_with fail
            refine (wy_num w 8 _ [] _ _ _ R1.out (by decide) h64a h64b (by have := HLEN.out; unfold lim; omega)).mono ?_
            rintro e v1 ⟨rfl, g1, g2⟩
            have Y1 := Lib.hid g1
            have y1 := HCELL.out _ g1.u
            clear g1 g2 c0 c1
            go_wp2_with fail
            refine (wy_num w 4 _ [] _ _ _ Y1.out (by decide) hx2 hx3 (by have := HLEN.out; have := numW_length 8 (wrap64 (a : Int)) (foldR l.length (l.take k)); unfold lim; omega)).mono ?_
            rintro e v2 ⟨rfl, g1, g2⟩
            have Y2 := Lib.hid g1
            clear g1 g2 y1
            go_wp2_with fail
            refine (wy_num w 4 _ [] _ _ _ Y2.out (by decide) (by decide) (by decide) (by have := HLEN.out; have := numW_length 8 (wrap64 (a : Int)) (foldR l.length (l.take k)); have := numW_length 4 b (numW 8 (wrap64 (a : Int)) (foldR l.length (l.take k))); unfold lim; omega)).mono ?_
            rintro e v3 ⟨rfl, g1, g2⟩
            have hst : foldR l.length (l.take (k + 1)) = numW 4 0 (numW 4 b (numW 8 (wrap64 (a : Int)) (foldR l.length (l.take k)))) := by rw [HLE.out, foldR_snoc]; rfl
            rw [← hst] at g1
            have Y3 := Lib.hid g1
            have hpos : ∀ x ∈ l.take (k + 1), 0 ≤ x.2 := by
              rw [HLE.out]
              intro x hx
              rcases List.mem_append.1 hx with h | h
              · exact R2.out x h
              · simp at h; subst h; show 0 ≤ b; omega
            have HPOS := Lib.hid hpos
            clear g1 g2 hst hpos
            go_wp2_with fail
            go_roundw
            case rel => exact ⟨k + 1, by omega, by go_num, Y3.out, HPOS.out⟩
            case measure => simp [intOf]; omega
      · obtain rfl : k = l.length := by omega
        rw [List.take_length] at r1 r2
        have R3 := Lib.hid r1
        have hpe := prB_end HOK.out (by omega) r2
        have hlen := foldR_length l.length l
        have HPE := Lib.hid hpe
        have HLEN := Lib.hid hlen
        clear r1 r2 hpe hlen
        go_wp2_with fail
        refine (wy_end w [] _ _ _ R3.out (by have := HLEN.out; unfold lim; omega)).mono ?_
        rintro e w5 ⟨r, rfl, u, rfl, hO, hU⟩
        have hs := R3.out.u.size
        have HO := Lib.hid (hO.base (fun g hg => Nat.le_trans hs (hO.lt g hg).1))
        have HU := Lib.hid (R3.out.u.trans hU)
        clear hO hU hs
        go_wp2_with fail
        go_ret2
        have e1 : (prB l).1 = (foldR l.length l).2 := by rw [← HPE.out]
        have e2 : (prB l).2 = if (foldR l.length l).2 = 0 then (foldR l.length l).1 else [] := by rw [← HPE.out]
        rw [e1, e2]
        exact ⟨_, rfl, _, rfl, HO.out, HU.out⟩
end Go.Proofs.YtpkljdjdapgmjaaDoor
