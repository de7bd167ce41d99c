/- Contracts of field.Writer. -/
import Derived.Test.YtpkljdjdapgmjaaDoorFb
namespace Go.Proofs.YtpkljdjdapgmjaaDoor
open Go.RowKit
set_option linter.unusedVariables false
set_option linter.unusedSimpArgs false

/-- A pointer to block p. -/
abbrev ptr (p : Nat) : Value := .pointer (some ⟨p, 0, none⟩)

/-- Block p is a field.Writer that holds bs and the error why; what it writes to lies in the blocks of S. -/
structure Wr (T : TypeId) (w : World) (S : List Nat) (p : Nat) (bs : List UInt8) (why : Int) : Prop where
  ex : ∃ v, Blk w p [v, .int .i64 why] T ∧ OB w 0 v bs ∧ v.ownBlock ≠ some p ∧ S = p :: v.ownBlock.toList

theorem Wr.upd {T : TypeId} {w w' : World} {S R : List Nat} {p : Nat} {bs : List UInt8} {why : Int} (h : Wr T w S p bs why) (hu : Upd R w w') (hd : ∀ x ∈ S, x ∉ R) : Wr T w' S p bs why := by
  obtain ⟨v, h1, h2, h3, rfl⟩ := h.ex
  exact ⟨v, h1.upd hu (hd p (by simp)), h2.upd hu (fun g hg => hd g (by simp [hg])), h3, rfl⟩
theorem Wr.lt {T : TypeId} {w : World} {S : List Nat} {p : Nat} {bs : List UInt8} {why : Int} (h : Wr T w S p bs why) : ∀ x ∈ S, x < w.heap.size := by
  obtain ⟨v, h1, h2, h3, rfl⟩ := h.ex
  intro x hx
  simp at hx
  rcases hx with rfl | hx
  · exact h1.lt
  · exact (h2.lt x hx).2

theorem newWriter_c (w : World) :
    Calls Tryd.prog 43 #[] w (Ret fun r w' => ∃ p, r = ptr p ∧ Wr 110 w' [p] p [] 0 ∧ w.heap.size ≤ p ∧ Upd [] w w') := by
  go_enter Tryd.func43, Tryd.ntmps43
  go_wp2
  go_ret
  refine ⟨_, rfl, w.heap.size, rfl, ⟨.slice none 0 0, ?_, OB.nil _ _, by simp [Value.ownBlock], by simp [Value.ownBlock]⟩, Nat.le_refl _, (Upd.refl _ _).alloc _⟩
  exact Blk.new w [.slice none 0 0, .int .i64 0] _

/-- The last s bytes of number's array. -/
theorem rb_be {w : World} {g : Nat} {t : TypeId} {m : Nat} (h : Blk w g [.int .u8 (bb m 7).toNat, .int .u8 (bb m 6).toNat, .int .u8 (bb m 5).toNat, .int .u8 (bb m 4).toNat, .int .u8 (bb m 3).toNat, .int .u8 (bb m 2).toNat, .int .u8 (bb m 1).toNat, .int .u8 (bb m 0).toNat] t) (s : Nat) (hs : s ≤ 8) :
    RB w (.slice (some ⟨g, 8 - s, none⟩) s s) (be s m) := by
  refine RB.of_blk (l := be 8 m) h (8 - s) s s _ ?_ (by simp [be_length]; omega) (Nat.le_refl _) (by omega)
  obtain rfl | rfl | rfl | rfl | rfl | rfl | rfl | rfl | rfl : s = 0 ∨ s = 1 ∨ s = 2 ∨ s = 3 ∨ s = 4 ∨ s = 5 ∨ s = 6 ∨ s = 7 ∨ s = 8 := by omega
  all_goals rfl

/-- What a Writer is behind an append to its bytes. -/
theorem wr_put {T : TypeId} {w w1 w2 : World} {p : Nat} {v : Value} {bs cs : List UInt8} {A : Option Addr} {n cap : Nat} (hB : Blk w p [v, .int .i64 0] T) (hne : v.ownBlock ≠ some p)
    (hu : Upd [] w w1) (h : AppB 0 v bs cs w1 w2 A n cap) :
    ∃ S', Wr T (w2.setCell ⟨p, 0, none⟩ (.slice A n cap)) S' p (bs ++ cs) 0 ∧ Upd (p :: v.ownBlock.toList) w (w2.setCell ⟨p, 0, none⟩ (.slice A n cap)) ∧ ∀ x ∈ S', x ∈ p :: v.ownBlock.toList ∨ w.heap.size ≤ x := by
  have hA : (Value.slice A n cap).ownBlock = A.map (·.block) := by cases A <;> rfl
  have hB2 := h.blk (hB.upd0 hu) hne
  have hsz := hu.size
  have hneA : (Value.slice A n cap).ownBlock ≠ some p := by
    rw [hA]
    rcases h.at_ with h | h
    · rw [h]; exact hne
    · rw [h]; intro e; injection e with e; have := hB.lt; omega
  have hU : Upd (p :: v.ownBlock.toList) w (w2.setCell ⟨p, 0, none⟩ (.slice A n cap)) :=
    ((hu.mono (by simp)).trans (h.upd.mono (fun k hk => List.mem_cons_of_mem _ hk))).setCell (.inl (by simp)) _
  refine ⟨_, ⟨_, hB2.set 0 _, h.own.upd ((Upd.refl [p] _).setCell (.inl (by simp)) _) ?_, hneA, rfl⟩, hU, ?_⟩
  · intro g hg
    simp
    rintro rfl
    exact hneA hg
  · intro x hx
    simp only [List.mem_cons, hA, Option.mem_toList] at hx ⊢
    rcases hx with rfl | hx
    · simp
    · rcases h.at_ with h | h
      · rw [h] at hx; exact .inl (.inr hx)
      · rw [h] at hx; injection hx with hx; right; omega

set_option maxHeartbeats 400000 in
theorem num_c1 (S : List Nat) (p : Nat) (bs : List UInt8) (n : Int) (w : World) (hW : Wr 110 w S p bs 0)
    (hlo : -9223372036854775808 ≤ n) (hhi : n ≤ 9223372036854775807) (hfit : 1 < 8 → -(2 ^ (8 * 1 - 1) : Nat) ≤ n ∧ n < (2 ^ (8 * 1) : Nat)) (hl : bs.length + 8 ≤ lim) :
    Calls Tryd.prog 44 #[ptr p, .int .i64 1, .int .i64 n] w fun e w' => e = .returned (.tuple #[]) ∧ ∃ S', Wr 110 w' S' p (bs ++ be 1 (n % 18446744073709551616).toNat) 0 ∧ Upd S w w' ∧ ∀ x ∈ S', x ∈ S ∨ w.heap.size ≤ x := by
  obtain ⟨v, hB, hO, hne, rfl⟩ := hW.ex
  have c0 := hB.cell 0 _ rfl
  have c1 := hB.cell 1 _ rfl
  have f0 := hB.free 0
  have f1 := hB.free 1
  obtain ⟨m, hm⟩ : ∃ m, m = (n % 18446744073709551616).toNat := ⟨_, rfl⟩
  have hm' : IntKind.u64.wrap n = (m : Int) := by rw [IntKind.wrap_u64]; omega
  have hml : m < 18446744073709551616 := by omega
  rw [← hm]
  have Hm := Lib.hid hm'
  have Hl := Lib.hid hl
  have HB := Lib.hid hB
  have HO := Lib.hid hO
  have Hne := Lib.hid hne
  clear hm hm' hl hB hO hne hW
  obtain ⟨hf1, hf2⟩ : -(2 ^ (8 * 1 - 1) : Nat) ≤ n ∧ n < (2 ^ (8 * 1) : Nat) := by
    rcases Nat.lt_or_ge 1 8 with hk | hk
    · exact hfit hk
    · simp only [Nat.reduceMul, Nat.reduceSub, Nat.reducePow]; omega
  simp only [Nat.reduceMul, Nat.reduceSub, Nat.reducePow] at hf1 hf2
  clear hfit
  go_enter Tryd.func44, Tryd.ntmps44
  go_wp2_with fail
  rw [Hm.out]
  refine (number_c m _ hml).mono ?_
  rintro e w1 ⟨rfl, hu⟩
  go_wp2_with fail
  have hB1 := (HB.out.upd hu (by simp)).alloc (.cells #[.int .u8 (bb m 7).toNat, .int .u8 (bb m 6).toNat, .int .u8 (bb m 5).toNat, .int .u8 (bb m 4).toNat, .int .u8 (bb m 3).toNat, .int .u8 (bb m 2).toNat, .int .u8 (bb m 1).toNat, .int .u8 (bb m 0).toNat] 105)
  have c0 := hB1.cell 0 _ rfl
  have f0 := hB1.free 0
  have HB1 := Lib.hid hB1
  clear hB1
  have ks : IntKind.i64.wrap (8 - 1) = 8 - 1 := rfl
  simp only [Int.reduceSub] at ks
  go_region_law (refine step_appB rfl (.tmp 23) (.tmp 26) rfl 0 v bs rfl (by exact (HO.out.upd0 hu).upd0 (((Upd.refl _ _).alloc _).drew)) _ (be 1 m) rfl (by exact rb_be (Blk.new w1 _ _).drew 1 (by decide)) (by have := Hl.out; rw [be_length]; omega) (Nat.zero_le _) ?_; intro A n2 cap w2 h1; have c2 := (h1.blk HB1.out.drew Hne.out).cell 0 _ rfl; have f2 := (h1.blk HB1.out.drew Hne.out).free 0)
  go_end0
  exact ⟨rfl, wr_put HB.out Hne.out (hu.alloc _).drew h1⟩
set_option maxHeartbeats 400000 in
theorem num_c2 (S : List Nat) (p : Nat) (bs : List UInt8) (n : Int) (w : World) (hW : Wr 110 w S p bs 0)
    (hlo : -9223372036854775808 ≤ n) (hhi : n ≤ 9223372036854775807) (hfit : 2 < 8 → -(2 ^ (8 * 2 - 1) : Nat) ≤ n ∧ n < (2 ^ (8 * 2) : Nat)) (hl : bs.length + 8 ≤ lim) :
    Calls Tryd.prog 44 #[ptr p, .int .i64 2, .int .i64 n] w fun e w' => e = .returned (.tuple #[]) ∧ ∃ S', Wr 110 w' S' p (bs ++ be 2 (n % 18446744073709551616).toNat) 0 ∧ Upd S w w' ∧ ∀ x ∈ S', x ∈ S ∨ w.heap.size ≤ x := by
  obtain ⟨v, hB, hO, hne, rfl⟩ := hW.ex
  have c0 := hB.cell 0 _ rfl
  have c1 := hB.cell 1 _ rfl
  have f0 := hB.free 0
  have f1 := hB.free 1
  obtain ⟨m, hm⟩ : ∃ m, m = (n % 18446744073709551616).toNat := ⟨_, rfl⟩
  have hm' : IntKind.u64.wrap n = (m : Int) := by rw [IntKind.wrap_u64]; omega
  have hml : m < 18446744073709551616 := by omega
  rw [← hm]
  have Hm := Lib.hid hm'
  have Hl := Lib.hid hl
  have HB := Lib.hid hB
  have HO := Lib.hid hO
  have Hne := Lib.hid hne
  clear hm hm' hl hB hO hne hW
  obtain ⟨hf1, hf2⟩ : -(2 ^ (8 * 2 - 1) : Nat) ≤ n ∧ n < (2 ^ (8 * 2) : Nat) := by
    rcases Nat.lt_or_ge 2 8 with hk | hk
    · exact hfit hk
    · simp only [Nat.reduceMul, Nat.reduceSub, Nat.reducePow]; omega
  simp only [Nat.reduceMul, Nat.reduceSub, Nat.reducePow] at hf1 hf2
  clear hfit
  go_enter Tryd.func44, Tryd.ntmps44
  go_wp2_with fail
  rw [Hm.out]
  refine (number_c m _ hml).mono ?_
  rintro e w1 ⟨rfl, hu⟩
  go_wp2_with fail
  have hB1 := (HB.out.upd hu (by simp)).alloc (.cells #[.int .u8 (bb m 7).toNat, .int .u8 (bb m 6).toNat, .int .u8 (bb m 5).toNat, .int .u8 (bb m 4).toNat, .int .u8 (bb m 3).toNat, .int .u8 (bb m 2).toNat, .int .u8 (bb m 1).toNat, .int .u8 (bb m 0).toNat] 105)
  have c0 := hB1.cell 0 _ rfl
  have f0 := hB1.free 0
  have HB1 := Lib.hid hB1
  clear hB1
  have ks : IntKind.i64.wrap (8 - 2) = 8 - 2 := rfl
  simp only [Int.reduceSub] at ks
  go_region_law (refine step_appB rfl (.tmp 23) (.tmp 26) rfl 0 v bs rfl (by exact (HO.out.upd0 hu).upd0 (((Upd.refl _ _).alloc _).drew)) _ (be 2 m) rfl (by exact rb_be (Blk.new w1 _ _).drew 2 (by decide)) (by have := Hl.out; rw [be_length]; omega) (Nat.zero_le _) ?_; intro A n2 cap w2 h1; have c2 := (h1.blk HB1.out.drew Hne.out).cell 0 _ rfl; have f2 := (h1.blk HB1.out.drew Hne.out).free 0)
  go_end0
  exact ⟨rfl, wr_put HB.out Hne.out (hu.alloc _).drew h1⟩
set_option maxHeartbeats 400000 in
theorem num_c4 (S : List Nat) (p : Nat) (bs : List UInt8) (n : Int) (w : World) (hW : Wr 110 w S p bs 0)
    (hlo : -9223372036854775808 ≤ n) (hhi : n ≤ 9223372036854775807) (hfit : 4 < 8 → -(2 ^ (8 * 4 - 1) : Nat) ≤ n ∧ n < (2 ^ (8 * 4) : Nat)) (hl : bs.length + 8 ≤ lim) :
    Calls Tryd.prog 44 #[ptr p, .int .i64 4, .int .i64 n] w fun e w' => e = .returned (.tuple #[]) ∧ ∃ S', Wr 110 w' S' p (bs ++ be 4 (n % 18446744073709551616).toNat) 0 ∧ Upd S w w' ∧ ∀ x ∈ S', x ∈ S ∨ w.heap.size ≤ x := by
  obtain ⟨v, hB, hO, hne, rfl⟩ := hW.ex
  have c0 := hB.cell 0 _ rfl
  have c1 := hB.cell 1 _ rfl
  have f0 := hB.free 0
  have f1 := hB.free 1
  obtain ⟨m, hm⟩ : ∃ m, m = (n % 18446744073709551616).toNat := ⟨_, rfl⟩
  have hm' : IntKind.u64.wrap n = (m : Int) := by rw [IntKind.wrap_u64]; omega
  have hml : m < 18446744073709551616 := by omega
  rw [← hm]
  have Hm := Lib.hid hm'
  have Hl := Lib.hid hl
  have HB := Lib.hid hB
  have HO := Lib.hid hO
  have Hne := Lib.hid hne
  clear hm hm' hl hB hO hne hW
  obtain ⟨hf1, hf2⟩ : -(2 ^ (8 * 4 - 1) : Nat) ≤ n ∧ n < (2 ^ (8 * 4) : Nat) := by
    rcases Nat.lt_or_ge 4 8 with hk | hk
    · exact hfit hk
    · simp only [Nat.reduceMul, Nat.reduceSub, Nat.reducePow]; omega
  simp only [Nat.reduceMul, Nat.reduceSub, Nat.reducePow] at hf1 hf2
  clear hfit
  go_enter Tryd.func44, Tryd.ntmps44
  go_wp2_with fail
  rw [Hm.out]
  refine (number_c m _ hml).mono ?_
  rintro e w1 ⟨rfl, hu⟩
  go_wp2_with fail
  have hB1 := (HB.out.upd hu (by simp)).alloc (.cells #[.int .u8 (bb m 7).toNat, .int .u8 (bb m 6).toNat, .int .u8 (bb m 5).toNat, .int .u8 (bb m 4).toNat, .int .u8 (bb m 3).toNat, .int .u8 (bb m 2).toNat, .int .u8 (bb m 1).toNat, .int .u8 (bb m 0).toNat] 105)
  have c0 := hB1.cell 0 _ rfl
  have f0 := hB1.free 0
  have HB1 := Lib.hid hB1
  clear hB1
  have ks : IntKind.i64.wrap (8 - 4) = 8 - 4 := rfl
  simp only [Int.reduceSub] at ks
  go_region_law (refine step_appB rfl (.tmp 23) (.tmp 26) rfl 0 v bs rfl (by exact (HO.out.upd0 hu).upd0 (((Upd.refl _ _).alloc _).drew)) _ (be 4 m) rfl (by exact rb_be (Blk.new w1 _ _).drew 4 (by decide)) (by have := Hl.out; rw [be_length]; omega) (Nat.zero_le _) ?_; intro A n2 cap w2 h1; have c2 := (h1.blk HB1.out.drew Hne.out).cell 0 _ rfl; have f2 := (h1.blk HB1.out.drew Hne.out).free 0)
  go_end0
  exact ⟨rfl, wr_put HB.out Hne.out (hu.alloc _).drew h1⟩
set_option maxHeartbeats 400000 in
theorem num_c8 (S : List Nat) (p : Nat) (bs : List UInt8) (n : Int) (w : World) (hW : Wr 110 w S p bs 0)
    (hlo : -9223372036854775808 ≤ n) (hhi : n ≤ 9223372036854775807) (hfit : 8 < 8 → -(2 ^ (8 * 8 - 1) : Nat) ≤ n ∧ n < (2 ^ (8 * 8) : Nat)) (hl : bs.length + 8 ≤ lim) :
    Calls Tryd.prog 44 #[ptr p, .int .i64 8, .int .i64 n] w fun e w' => e = .returned (.tuple #[]) ∧ ∃ S', Wr 110 w' S' p (bs ++ be 8 (n % 18446744073709551616).toNat) 0 ∧ Upd S w w' ∧ ∀ x ∈ S', x ∈ S ∨ w.heap.size ≤ x := by
  obtain ⟨v, hB, hO, hne, rfl⟩ := hW.ex
  have c0 := hB.cell 0 _ rfl
  have c1 := hB.cell 1 _ rfl
  have f0 := hB.free 0
  have f1 := hB.free 1
  obtain ⟨m, hm⟩ : ∃ m, m = (n % 18446744073709551616).toNat := ⟨_, rfl⟩
  have hm' : IntKind.u64.wrap n = (m : Int) := by rw [IntKind.wrap_u64]; omega
  have hml : m < 18446744073709551616 := by omega
  rw [← hm]
  have Hm := Lib.hid hm'
  have Hl := Lib.hid hl
  have HB := Lib.hid hB
  have HO := Lib.hid hO
  have Hne := Lib.hid hne
  clear hm hm' hl hB hO hne hW
  obtain ⟨hf1, hf2⟩ : -(2 ^ (8 * 8 - 1) : Nat) ≤ n ∧ n < (2 ^ (8 * 8) : Nat) := by
    rcases Nat.lt_or_ge 8 8 with hk | hk
    · exact hfit hk
    · simp only [Nat.reduceMul, Nat.reduceSub, Nat.reducePow]; omega
  simp only [Nat.reduceMul, Nat.reduceSub, Nat.reducePow] at hf1 hf2
  clear hfit
  go_enter Tryd.func44, Tryd.ntmps44
  go_wp2_with fail
  rw [Hm.out]
  refine (number_c m _ hml).mono ?_
  rintro e w1 ⟨rfl, hu⟩
  go_wp2_with fail
  have hB1 := (HB.out.upd hu (by simp)).alloc (.cells #[.int .u8 (bb m 7).toNat, .int .u8 (bb m 6).toNat, .int .u8 (bb m 5).toNat, .int .u8 (bb m 4).toNat, .int .u8 (bb m 3).toNat, .int .u8 (bb m 2).toNat, .int .u8 (bb m 1).toNat, .int .u8 (bb m 0).toNat] 105)
  have c0 := hB1.cell 0 _ rfl
  have f0 := hB1.free 0
  have HB1 := Lib.hid hB1
  clear hB1
  have ks : IntKind.i64.wrap (8 - 8) = 8 - 8 := rfl
  simp only [Int.reduceSub] at ks
  go_region_law (refine step_appB rfl (.tmp 23) (.tmp 26) rfl 0 v bs rfl (by exact (HO.out.upd0 hu).upd0 (((Upd.refl _ _).alloc _).drew)) _ (be 8 m) rfl (by exact rb_be (Blk.new w1 _ _).drew 8 (by decide)) (by have := Hl.out; rw [be_length]; omega) (Nat.zero_le _) ?_; intro A n2 cap w2 h1; have c2 := (h1.blk HB1.out.drew Hne.out).cell 0 _ rfl; have f2 := (h1.blk HB1.out.drew Hne.out).free 0)
  go_end0
  exact ⟨rfl, wr_put HB.out Hne.out (hu.alloc _).drew h1⟩

/-- A number that goes in. -/
theorem num_c (S : List Nat) (p : Nat) (bs : List UInt8) (size : Nat) (n : Int) (w : World) (hW : Wr 110 w S p bs 0) (hs : size = 1 ∨ size = 2 ∨ size = 4 ∨ size = 8)
    (hlo : -9223372036854775808 ≤ n) (hhi : n ≤ 9223372036854775807) (hfit : size < 8 → -(2 ^ (8 * size - 1) : Nat) ≤ n ∧ n < (2 ^ (8 * size) : Nat)) (hl : bs.length + 8 ≤ lim) :
    Calls Tryd.prog 44 #[ptr p, .int .i64 size, .int .i64 n] w fun e w' => e = .returned (.tuple #[]) ∧ ∃ S', Wr 110 w' S' p (bs ++ be size (n % 18446744073709551616).toNat) 0 ∧ Upd S w w' ∧ ∀ x ∈ S', x ∈ S ∨ w.heap.size ≤ x := by
  obtain rfl | rfl | rfl | rfl := hs
  · exact num_c1 S p bs n w hW hlo hhi hfit hl
  · exact num_c2 S p bs n w hW hlo hhi hfit hl
  · exact num_c4 S p bs n w hW hlo hhi hfit hl
  · exact num_c8 S p bs n w hW hlo hhi hfit hl

end Go.Proofs.YtpkljdjdapgmjaaDoor
