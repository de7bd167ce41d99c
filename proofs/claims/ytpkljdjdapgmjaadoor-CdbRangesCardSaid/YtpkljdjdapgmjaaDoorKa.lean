/- Contracts of cdb.PutKeys, cdb.Keys and the reference's. -/
import Derived.Test.YtpkljdjdapgmjaaDoorWx
import Derived.Test.YtpkljdjdapgmjaaDoorCd
namespace Go.Proofs.YtpkljdjdapgmjaaDoor
open Go.RowKit
set_option linter.unusedVariables false
set_option linter.unusedSimpArgs false

/-- A Writer of eight-byte numbers. -/
def ksW (ks : List Nat) : List UInt8 × Int := ks.foldl (fun st (n : Nat) => numW 8 (wrap64 (n : Int)) st) ([], 0)
theorem ksW_snoc (ks : List Nat) (n : Nat) : ksW (ks ++ [n]) = numW 8 (wrap64 (n : Int)) (ksW ks) := by simp [ksW]
theorem num8 (n : Nat) (hn : n < 18446744073709551616) : (wrap64 (n : Int) % 18446744073709551616).toNat = n := by unfold wrap64; omega
theorem numW8 (n : Nat) (hn : n < 18446744073709551616) (bs : List UInt8) : numW 8 (wrap64 (n : Int)) (bs, 0) = (bs ++ be 8 n, 0) := by
  unfold numW
  rw [if_neg (by simp), if_neg (by simp), num8 n hn]
theorem ksW_eq (ks : List Nat) (h : ∀ n ∈ ks, n < 18446744073709551616) : ksW ks = (ks.flatMap (be 8), 0) := by
  have key : ∀ (ks : List Nat) (bs : List UInt8), (∀ n ∈ ks, n < 18446744073709551616) → ks.foldl (fun st (n : Nat) => numW 8 (wrap64 (n : Int)) st) (bs, 0) = (bs ++ ks.flatMap (be 8), 0) := by
    intro ks
    induction ks with
    | nil => intro bs _; simp
    | cons n ks ih =>
      intro bs h
      rw [List.foldl_cons, numW8 n (h n (by simp)), ih _ (fun m hm => h m (by simp [hm]))]
      simp [List.append_assoc]
  simpa [ksW] using key ks [] h
def keysB (key next : Nat) : List UInt8 := [key, next, 0].flatMap (be 8)
theorem keysB_length (key next : Nat) : (keysB key next).length = 24 := by simp [keysB, be_length]
theorem w64_bd (n : Int) : -9223372036854775808 ≤ wrap64 n ∧ wrap64 n ≤ 9223372036854775807 := by unfold wrap64; omega

/-- A Writer that was just made. -/
theorem Wx.zero (w : World) (T : TypeId) : Wx T w (w.alloc (.cells #[.slice none 0 0, .int .i64 0] T)) [] w.heap.size ([], 0) := by
  refine ⟨[w.heap.size], ⟨.slice none 0 0, Blk.new w [.slice none 0 0, .int .i64 0] T, OB.nil _ _, by simp [Value.ownBlock], by simp [Value.ownBlock]⟩, (Upd.refl _ _).alloc _, by simp, by simp, by simp⟩
theorem Wx.made {T : TypeId} {w w1 : World} {p : Nat} (hW : Wr T w1 [p] p [] 0) (hp : w.heap.size ≤ p) (hU : Upd [] w w1) : Wx T w w1 [] p ([], 0) :=
  ⟨[p], hW, hU, by simpa using hp, by simp, by simp⟩

set_option maxHeartbeats 400000 in
theorem putKeys_c (key next : Nat) (w : World) (hk : key < 18446744073709551616) (hn : next < 18446744073709551616) :
    Calls Tryd.prog 22 #[.int .u64 (key : Int), .int .u64 (next : Int)] w (Ret fun r w' => OB w' w.heap.size r (keysB key next) ∧ Upd [] w w') := by
  have hks : ∀ n ∈ [key, next, 0], n < 18446744073709551616 := by simp; omega
  have HKS := Lib.hid hks
  clear hks hk hn
  go_enter Tryd.func22, Tryd.ntmps22
  go_wp2_with fail
  refine (newWriter_c _).mono ?_
  rintro e w1 ⟨r, rfl, p, rfl, hW, hp, hU⟩
  have HX := Lib.hid (Wx.made hW hp hU)
  clear hW hp hU
  go_wp2_with fail
  have HB := Lib.hid (Blk.new w1 (numsU [key, next, 0]) 22)
  have HX1 := Lib.hid (HX.out.keep (.cells (numsU [key, next, 0]).toArray 22))
  obtain ⟨gv, hgv⟩ : ∃ gv, gv = w1.heap.size := ⟨_, rfl⟩
  rw [← hgv] at HB HX1
  go_loopw [15] (fun t wr => ∃ k : Nat, k ≤ 3 ∧ t = .int .i64 (k : Int) ∧ Wx 110 w wr [gv] p (ksW ([key, next, 0].take k)) ∧ Blk wr gv (numsU [key, next, 0]) 22) (fun t _ => 3 - (intOf t).toNat)
  case atStart => exact ⟨0, by omega, rfl, HX1.out, HB.out⟩
  case round =>
    obtain ⟨k, hk, rfl, r1, r2⟩ := hrel
    have R1 := Lib.hid r1
    have R2 := Lib.hid r2
    by_cases hlt : k < 3
    · obtain ⟨n, hnn⟩ : ∃ n, n = [key, next, 0].getD k 0 := ⟨_, rfl⟩
      have hc := r2.cell k (.int .u64 (n : Int)) (by
        rw [hnn]
        obtain rfl | rfl | rfl : k = 0 ∨ k = 1 ∨ k = 2 := by omega
        all_goals rfl)
      have hn0 : ksW ([key, next, 0].take (k + 1)) = numW 8 (wrap64 (n : Int)) (ksW ([key, next, 0].take k)) := by
        rw [← ksW_snoc, hnn]
        obtain rfl | rfl | rfl : k = 0 ∨ k = 1 ∨ k = 2 := by omega
        all_goals rfl
      have hlen : (ksW ([key, next, 0].take k)).1.length + 8 ≤ lim := by
        rw [ksW_eq _ (fun n hn => HKS.out n (List.mem_of_mem_take hn))]
        obtain rfl | rfl | rfl : k = 0 ∨ k = 1 ∨ k = 2 := by omega
        all_goals simp [be_length, lim]
      have HN0 := Lib.hid hn0
      have HLEN := Lib.hid hlen
      have h64 := w64_bd (n : Int)
      subst hgv
      clear hnn hn0 hlen r1 r2
      go_wp2_with fail
      refine (wx_num w 8 _ [w1.heap.size] p _ _ R1.out (by decide) h64.1 h64.2 HLEN.out).mono ?_
      rintro e w2 ⟨rfl, g1, g2⟩
      have G1 := Lib.hid g1
      have G2 := Lib.hid (g2 w1.heap.size (by simp))
      clear g1 g2
      go_wp2_with fail
      go_roundw
      case rel => exact ⟨k + 1, by omega, by go_num, by rw [HN0.out]; exact G1.out, G2.out.trans R2.out⟩
      case measure => simp [intOf]; omega
    · obtain rfl : k = 3 := by omega
      have e : ksW ([key, next, 0].take 3) = (keysB key next, 0) := ksW_eq _ HKS.out
      rw [e] at r1
      have R3 := Lib.hid r1
      subst hgv
      clear e r1 r2
      go_wp2_with fail
      refine (wx_end w [w1.heap.size] p _ _ R3.out (by rw [keysB_length]; decide)).mono ?_
      rintro e w2 ⟨r, rfl, v, rfl, hO, hU⟩
      rw [if_pos rfl] at hO
      have hU' := R3.out.u.trans hU
      have hs := R3.out.u.size
      have HO := Lib.hid (hO.base (fun g hg => Nat.le_trans hs (hO.lt g hg).1))
      have HU := Lib.hid hU'
      clear hO hU hU' hs
      go_wp2_with fail
      go_ret
      exact ⟨_, rfl, HO.out, HU.out⟩

theorem rputKeys_c (key next : Nat) (w : World) (hk : key < 18446744073709551616) (hn : next < 18446744073709551616) :
    Calls Tryd.prog 25 #[.int .u64 (key : Int), .int .u64 (next : Int)] w (Ret fun r w' => OB w' w.heap.size r (keysB key next) ∧ Upd [] w w') := by
  have HX := Lib.hid (Wx.zero w 98)
  have e1 : numW 8 (wrap64 (key : Int)) ([], 0) = (be 8 key, 0) := by rw [numW8 key hk]; rfl
  have e2 : numW 8 (wrap64 (next : Int)) (be 8 key, 0) = (be 8 key ++ be 8 next, 0) := numW8 next hn _
  have e3 : numW 8 0 (be 8 key ++ be 8 next, 0) = (keysB key next, 0) := by
    have := numW8 0 (by decide) (be 8 key ++ be 8 next)
    have e0 : wrap64 ((0 : Nat) : Int) = 0 := by unfold wrap64; omega
    rw [e0] at this
    rw [this]
    simp [keysB, List.append_assoc]
  have E1 := Lib.hid e1
  have E2 := Lib.hid e2
  have E3 := Lib.hid e3
  have h1 := w64_bd (key : Int)
  have h2 := w64_bd (next : Int)
  clear e1 e2 e3
  go_enter Tryd.func25, Tryd.ntmps25
  go_wp2_with fail
  refine (wy_num w 8 _ [] _ _ _ HX.out (by decide) h1.1 h1.2 (by decide)).mono ?_
  rintro e w1 ⟨rfl, g1, _⟩
  rw [E1.out] at g1
  have G1 := Lib.hid g1
  clear g1
  go_wp2_with fail
  refine (wy_num w 8 _ [] _ _ _ G1.out (by decide) h2.1 h2.2 (by simp [be_length, lim])).mono ?_
  rintro e w2 ⟨rfl, g1, _⟩
  rw [E2.out] at g1
  have G2 := Lib.hid g1
  clear g1
  go_wp2_with fail
  refine (wy_num w 8 _ [] _ _ _ G2.out (by decide) (by decide) (by decide) (by simp [be_length, lim])).mono ?_
  rintro e w3 ⟨rfl, g1, _⟩
  rw [E3.out] at g1
  have G3 := Lib.hid g1
  clear g1
  go_wp2_with fail
  refine (wy_end w [] _ _ _ G3.out (by rw [keysB_length]; decide)).mono ?_
  rintro e w4 ⟨r, rfl, v, rfl, hO, hU⟩
  rw [if_pos rfl] at hO
  have hU' := G3.out.u.trans hU
  have hs := G3.out.u.size
  have HO := Lib.hid (hO.base (fun g hg => Nat.le_trans hs (hO.lt g hg).1))
  have HU := Lib.hid hU'
  clear hO hU hU' hs
  go_wp2_with fail
  go_ret
  exact ⟨_, rfl, HO.out, HU.out⟩

/-- What Keys answers: two numbers and the error. -/
def keysP (bs : List UInt8) : Nat × Nat × Int :=
  if bs.length < 24 then (0, 0, 10)
  else if nb (((bs.drop 8).drop 8).take 8) ≠ 0 ∨ 24 < bs.length then (0, 0, 11) else (nb (bs.take 8), nb ((bs.drop 8).take 8), 0)
theorem nb8 (bs : List UInt8) : nb (bs.take 8) < 18446744073709551616 := by
  have h1 := nb_lt (bs.take 8)
  have h2 : 256 ^ (bs.take 8).length ≤ 256 ^ 8 := Nat.pow_le_pow_right (by omega) (by rw [List.length_take]; omega)
  have h3 : (256 : Nat) ^ 8 = 18446744073709551616 := by decide
  omega
theorem u64w64 (n : Nat) (hn : n < 18446744073709551616) : IntKind.u64.wrap (wrap64 (n : Int)) = (n : Int) := by rw [IntKind.wrap_u64]; unfold wrap64; omega
theorem numR8 (bs : List UInt8) (h : 8 ≤ bs.length) : numR 8 (bs, 0) = (wrap64 (nb (bs.take 8) : Nat), (bs.drop 8, 0)) := by
  unfold numR
  rw [if_neg (by simp), if_neg (by simp; omega)]

theorem keys_c (v : Value) (bs : List UInt8) (w : World) (hb : RB w v bs) (hl : bs.length ≤ lim) :
    Calls Tryd.prog 23 #[v] w fun e w' => e = .returned (.tuple #[.int .u64 ((keysP bs).1 : Nat), .int .u64 ((keysP bs).2.1 : Nat), .int .i64 (keysP bs).2.2]) ∧ Upd [] w w' := by
  have HB := Lib.hid hb
  have HL := Lib.hid hl
  obtain ⟨A, cap, rfl, hb1, hb2, _, _⟩ := hb.open_
  clear hb hl
  by_cases h24 : bs.length < 24
  · have hp : keysP bs = (0, 0, 10) := by unfold keysP; rw [if_pos h24]
    rw [hp]
    clear hp
    go_enter Tryd.func23, Tryd.ntmps23
    go_wp2_with fail
    refine bodyPost_ret (v := .tuple #[.int .u64 0, .int .u64 0, .int .i64 10]) (by simp [results, Tryd.results23, go_sem]) rfl ?_
    exact ⟨rfl, Upd.refl _ _⟩
  · have a1 := numR8 bs (by omega)
    have a2 := numR8 (bs.drop 8) (by simp; omega)
    have a3 := numR8 ((bs.drop 8).drop 8) (by simp; omega)
    have A1 := Lib.hid a1
    have A2 := Lib.hid a2
    have A3 := Lib.hid a3
    have x1 := nb8 bs
    have x2 := nb8 (bs.drop 8)
    have x3 := nb8 ((bs.drop 8).drop 8)
    have hp0 : keysP bs = if nb (((bs.drop 8).drop 8).take 8) ≠ 0 ∨ 24 < bs.length then (0, 0, 11) else (nb (bs.take 8), nb ((bs.drop 8).take 8), 0) := by unfold keysP; rw [if_neg h24]
    have hl3 : (((bs.drop 8).drop 8).drop 8).length = bs.length - 24 := by simp [Nat.sub_sub]
    have HL3 := Lib.hid hl3
    have HP0 := Lib.hid hp0
    obtain ⟨n1, hn1⟩ : ∃ n, n = nb (bs.take 8) := ⟨_, rfl⟩
    obtain ⟨n2, hn2⟩ : ∃ n, n = nb ((bs.drop 8).take 8) := ⟨_, rfl⟩
    obtain ⟨n3, hn3⟩ : ∃ n, n = nb (((bs.drop 8).drop 8).take 8) := ⟨_, rfl⟩
    rw [← hn1] at A1 HP0 x1
    rw [← hn2] at A2 HP0 x2
    rw [← hn3] at A3 HP0 x3
    have q1 := u64w64 n1 x1
    have q2 := u64w64 n2 x2
    clear hn1 hn2 hn3 a1 a2 a3 hp0 hl3
    go_enter Tryd.func23, Tryd.ntmps23
    go_wp2_with fail
    refine (rx_new [] _ bs _ HB.out HL.out (by simp)).mono ?_
    rintro e w1 ⟨r, rfl, p, rfl, g, hU⟩
    have G0 := Lib.hid g
    clear g hU
    go_wp2_with fail
    refine (rx_num w 8 [] p _ _ G0.out (by decide) (by decide)).mono ?_
    rintro e w2 ⟨rfl, g, _, _⟩
    rw [A1.out] at g ⊢
    have G1 := Lib.hid g
    clear g
    go_wp2_with fail
    refine (rx_num w 8 [] p _ _ G1.out (by decide) (by decide)).mono ?_
    rintro e w3 ⟨rfl, g, _, _⟩
    rw [A2.out] at g ⊢
    have G2 := Lib.hid g
    clear g
    go_wp2_with fail
    refine (rx_num w 8 [] p _ _ G2.out (by decide) (by decide)).mono ?_
    rintro e w4 ⟨rfl, g, _, _⟩
    rw [A3.out] at g ⊢
    have G3 := Lib.hid g
    clear g
    by_cases hz : n3 = 0
    · subst hz
      by_cases hl : 24 < bs.length
      · have hp : keysP bs = (0, 0, 11) := by rw [HP0.out, if_pos (.inr hl)]
        have HPP := Lib.hid hp
        have e0 : wrap64 ((0 : Nat) : Int) = 0 := by unfold wrap64; omega
        rw [e0]
        clear e0 hp
        go_wp2_with fail
        refine (rx_end w [] p _ _ G3.out).mono ?_
        rintro e w5 ⟨rfl, rfl⟩
        have hend : endB 0 (((bs.drop 8).drop 8).drop 8).length = 11 := by rw [HL3.out]; unfold endB; simp; omega
        rw [hend]
        clear hend
        go_wp2_with fail
        refine bodyPost_ret (v := .tuple #[.int .u64 0, .int .u64 0, .int .i64 11]) (by simp [results, Tryd.results23, go_sem]) rfl ?_
        refine ⟨?_, G3.out.u⟩
        rw [HPP.out] <;> rfl
      · have hp : keysP bs = (n1, n2, 0) := by rw [HP0.out, if_neg (by simp; omega)]
        have HPP := Lib.hid hp
        have e0 : wrap64 ((0 : Nat) : Int) = 0 := by unfold wrap64; omega
        rw [e0]
        clear e0 hp
        go_wp2_with fail
        refine (rx_end w [] p _ _ G3.out).mono ?_
        rintro e w5 ⟨rfl, rfl⟩
        have hend : endB 0 (((bs.drop 8).drop 8).drop 8).length = 0 := by rw [HL3.out]; unfold endB; simp; omega
        rw [hend]
        clear hend
        go_wp2_with fail
        refine bodyPost_ret (v := .tuple #[.int .u64 (n1 : Int), .int .u64 (n2 : Int), .int .i64 0]) (by simp [results, Tryd.results23, go_sem]) rfl ?_
        refine ⟨?_, G3.out.u⟩
        rw [HPP.out] <;> rfl
    · have hp : keysP bs = (0, 0, 11) := by rw [HP0.out, if_pos (.inl hz)]
      have hne : (wrap64 (n3 : Int) != 0) = true := by rw [bne_iff_ne]; unfold wrap64; omega
      have HPP := Lib.hid hp
      clear hp hz
      go_wp2_with fail
      refine bodyPost_ret (v := .tuple #[.int .u64 0, .int .u64 0, .int .i64 11]) (by simp [results, Tryd.results23, go_sem]) rfl ?_
      refine ⟨?_, G3.out.u⟩
      rw [HPP.out] <;> rfl

theorem rkeys_c (v : Value) (bs : List UInt8) (w : World) (hb : RB w v bs) (hl : bs.length ≤ lim) :
    Calls Tryd.prog 24 #[v] w fun e w' => e = .returned (.tuple #[.int .u64 ((keysP bs).1 : Nat), .int .u64 ((keysP bs).2.1 : Nat), .int .i64 (keysP bs).2.2]) ∧ Upd [] w w' := by
  have HB := Lib.hid hb
  have HL := Lib.hid hl
  obtain ⟨A, cap, rfl, hb1, hb2, _, _⟩ := hb.open_
  clear hb hl
  by_cases h24 : bs.length < 24
  · have hp : keysP bs = (0, 0, 10) := by unfold keysP; rw [if_pos h24]
    rw [hp]
    clear hp
    go_enter Tryd.func24, Tryd.ntmps24
    go_wp2_with fail
    refine bodyPost_ret (v := .tuple #[.int .u64 0, .int .u64 0, .int .i64 10]) (by simp [results, Tryd.results24, go_sem]) rfl ?_
    exact ⟨rfl, Upd.refl _ _⟩
  · have a1 := numR8 bs (by omega)
    have a2 := numR8 (bs.drop 8) (by simp; omega)
    have a3 := numR8 ((bs.drop 8).drop 8) (by simp; omega)
    have A1 := Lib.hid a1
    have A2 := Lib.hid a2
    have A3 := Lib.hid a3
    have x1 := nb8 bs
    have x2 := nb8 (bs.drop 8)
    have x3 := nb8 ((bs.drop 8).drop 8)
    have hp0 : keysP bs = if nb (((bs.drop 8).drop 8).take 8) ≠ 0 ∨ 24 < bs.length then (0, 0, 11) else (nb (bs.take 8), nb ((bs.drop 8).take 8), 0) := by unfold keysP; rw [if_neg h24]
    have hl3 : (((bs.drop 8).drop 8).drop 8).length = bs.length - 24 := by simp [Nat.sub_sub]
    have HL3 := Lib.hid hl3
    have HP0 := Lib.hid hp0
    obtain ⟨n1, hn1⟩ : ∃ n, n = nb (bs.take 8) := ⟨_, rfl⟩
    obtain ⟨n2, hn2⟩ : ∃ n, n = nb ((bs.drop 8).take 8) := ⟨_, rfl⟩
    obtain ⟨n3, hn3⟩ : ∃ n, n = nb (((bs.drop 8).drop 8).take 8) := ⟨_, rfl⟩
    rw [← hn1] at A1 HP0 x1
    rw [← hn2] at A2 HP0 x2
    rw [← hn3] at A3 HP0 x3
    have q1 := u64w64 n1 x1
    have q2 := u64w64 n2 x2
    clear hn1 hn2 hn3 a1 a2 a3 hp0 hl3
    go_enter Tryd.func24, Tryd.ntmps24
    go_wp2_with fail
    refine (ry_new [] _ bs _ HB.out HL.out (by simp)).mono ?_
    rintro e w1 ⟨r, rfl, p, rfl, g, hU⟩
    have G0 := Lib.hid g
    clear g hU
    go_wp2_with fail
    refine (ry_num w 8 [] p _ _ G0.out (by decide) (by decide)).mono ?_
    rintro e w2 ⟨rfl, g, _, _⟩
    rw [A1.out] at g ⊢
    have G1 := Lib.hid g
    clear g
    go_wp2_with fail
    refine (ry_num w 8 [] p _ _ G1.out (by decide) (by decide)).mono ?_
    rintro e w3 ⟨rfl, g, _, _⟩
    rw [A2.out] at g ⊢
    have G2 := Lib.hid g
    clear g
    go_wp2_with fail
    refine (ry_num w 8 [] p _ _ G2.out (by decide) (by decide)).mono ?_
    rintro e w4 ⟨rfl, g, _, _⟩
    rw [A3.out] at g ⊢
    have G3 := Lib.hid g
    clear g
    by_cases hz : n3 = 0
    · subst hz
      by_cases hl : 24 < bs.length
      · have hp : keysP bs = (0, 0, 11) := by rw [HP0.out, if_pos (.inr hl)]
        have HPP := Lib.hid hp
        have e0 : wrap64 ((0 : Nat) : Int) = 0 := by unfold wrap64; omega
        rw [e0]
        clear e0 hp
        go_wp2_with fail
        refine bodyPost_ret (v := .tuple #[.int .u64 0, .int .u64 0, .int .i64 11]) (by simp [results, Tryd.results24, go_sem]) rfl ?_
        refine ⟨?_, G3.out.u⟩
        rw [HPP.out] <;> rfl
      · have hp : keysP bs = (n1, n2, 0) := by rw [HP0.out, if_neg (by simp; omega)]
        have HPP := Lib.hid hp
        have e0 : wrap64 ((0 : Nat) : Int) = 0 := by unfold wrap64; omega
        rw [e0]
        clear e0 hp
        go_wp2_with fail
        refine bodyPost_ret (v := .tuple #[.int .u64 (n1 : Int), .int .u64 (n2 : Int), .int .i64 0]) (by simp [results, Tryd.results24, go_sem]) rfl ?_
        refine ⟨?_, G3.out.u⟩
        rw [HPP.out] <;> rfl
    · have hp : keysP bs = (0, 0, 11) := by rw [HP0.out, if_pos (.inl hz)]
      have hne : (wrap64 (n3 : Int) != 0) = true := by rw [bne_iff_ne]; unfold wrap64; omega
      have HPP := Lib.hid hp
      clear hp hz
      go_wp2_with fail
      refine bodyPost_ret (v := .tuple #[.int .u64 0, .int .u64 0, .int .i64 11]) (by simp [results, Tryd.results24, go_sem]) rfl ?_
      refine ⟨?_, G3.out.u⟩
      rw [HPP.out] <;> rfl
end Go.Proofs.YtpkljdjdapgmjaaDoor
