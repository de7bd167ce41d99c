/- Writers and Readers of bytes (package field, and the reference's) as plain machines: one contract a method, whatever state. Printed by a program (wip/printwx.py). -/
import Derived.Test.YtpkljdjdapgmjaaDoorGr
namespace Go.Proofs.YtpkljdjdapgmjaaDoor
open Go.RowKit
set_option linter.unusedVariables false
set_option linter.unusedSimpArgs false

/-- A Writer's bytes and error behind a number. -/
def numW (size : Nat) (n : Int) (st : List UInt8 × Int) : List UInt8 × Int :=
  if st.2 ≠ 0 then st else if size < 8 ∧ (n < -(2 ^ (8 * size - 1) : Nat) ∨ ((2 ^ (8 * size) : Nat) : Int) ≤ n) then (st.1, 3) else (st.1 ++ be size (n % 18446744073709551616).toNat, 0)
/-- A Reader behind a number, and the number. -/
def numR (size : Nat) (st : List UInt8 × Int) : Int × (List UInt8 × Int) :=
  if st.2 ≠ 0 then (0, st) else if st.1.length < size then (0, (st.1, 10)) else (wrap64 (nb (st.1.take size) : Nat), (st.1.drop size, 0))
theorem numW_length (size : Nat) (n : Int) (st : List UInt8 × Int) : (numW size n st).1.length ≤ st.1.length + size := by
  unfold numW
  split
  · omega
  · split
    · simp
    · simp [be_length]
theorem numR_length (size : Nat) (st : List UInt8 × Int) : (numR size st).2.1.length ≤ st.1.length := by
  unfold numR
  split
  · simp
  · split
    · simp
    · simp

/-- Block p is a Writer in memory made since w0; the blocks of K are none of its own. -/
structure Wx (T : TypeId) (w0 w : World) (K : List Nat) (p : Nat) (st : List UInt8 × Int) : Prop where
  ex : ∃ S, Wr T w S p st.1 st.2 ∧ Upd [] w0 w ∧ (∀ x ∈ S, w0.heap.size ≤ x) ∧ (∀ x ∈ S, x ∉ K) ∧ ∀ k ∈ K, k < w.heap.size
theorem Wx.u {T : TypeId} {w0 w : World} {K : List Nat} {p : Nat} {st : List UInt8 × Int} (h : Wx T w0 w K p st) : Upd [] w0 w := by
  obtain ⟨S, _, h, _⟩ := h.ex
  exact h
theorem Wx.upd {T : TypeId} {w0 w w' : World} {K : List Nat} {p : Nat} {st : List UInt8 × Int} (h : Wx T w0 w K p st) (hu : Upd [] w w') : Wx T w0 w' K p st := by
  obtain ⟨S, h1, h2, h3, h4, h5⟩ := h.ex
  exact ⟨S, h1.upd hu (by simp), h2.trans hu, h3, h4, fun k hk => Nat.lt_of_lt_of_le (h5 k hk) hu.size⟩
theorem Wx.keep {T : TypeId} {w0 w : World} {K : List Nat} {p : Nat} {st : List UInt8 × Int} (h : Wx T w0 w K p st) (o : Obj) : Wx T w0 (w.alloc o) (w.heap.size :: K) p st := by
  obtain ⟨S, h1, h2, h3, h4, h5⟩ := h.ex
  refine ⟨S, h1.upd ((Upd.refl [] _).alloc o) (by simp), h2.alloc o, h3, fun x hx hm => ?_, fun k hk => ?_⟩
  · rcases List.mem_cons.1 hm with rfl | hm
    · exact absurd (h1.lt _ hx) (by omega)
    · exact h4 x hx hm
  · simp
    rcases List.mem_cons.1 hk with rfl | hk
    · omega
    · have := h5 k hk; omega
/-- What a step of the Writer leaves. -/
theorem Wx.step {T : TypeId} {w0 w w' : World} {K S S' : List Nat} {p : Nat} {st' : List UInt8 × Int} (h2 : Upd [] w0 w) (h3 : ∀ x ∈ S, w0.heap.size ≤ x) (h4 : ∀ x ∈ S, x ∉ K) (h5 : ∀ k ∈ K, k < w.heap.size)
    (g1 : Wr T w' S' p st'.1 st'.2) (g2 : Upd S w w') (g3 : ∀ x ∈ S', x ∈ S ∨ w.heap.size ≤ x) : Wx T w0 w' K p st' ∧ ∀ g ∈ K, w'.heap[g]? = w.heap[g]? := by
  have hs := h2.size
  refine ⟨⟨S', g1, h2.trans' g2 (fun x hx => .inr (h3 x hx)), fun x hx => ?_, fun x hx hm => ?_, fun k hk => Nat.lt_of_lt_of_le (h5 k hk) g2.size⟩, fun g hg => g2.block g (h5 g hg) (fun hm => h4 g hm hg)⟩
  · rcases g3 x hx with h | h
    · exact h3 x h
    · omega
  · rcases g3 x hx with h | h
    · exact h4 x h hm
    · have := h5 x hm; omega

/-- Block p is a Reader in memory made since w0; the blocks of K are none of its own. -/
structure Rx (T : TypeId) (w0 w : World) (K : List Nat) (p : Nat) (st : List UInt8 × Int) : Prop where
  ex : ∃ S, Re T w S p st.1 st.2 ∧ Upd [] w0 w ∧ w0.heap.size ≤ p ∧ (∀ x ∈ S, x ∉ K) ∧ ∀ k ∈ K, k < w.heap.size
theorem Re.p_mem {T : TypeId} {w : World} {S : List Nat} {p : Nat} {bs : List UInt8} {why : Int} (h : Re T w S p bs why) : p ∈ S := by
  obtain ⟨v, _, _, _, rfl⟩ := h.ex
  simp
theorem Rx.u {T : TypeId} {w0 w : World} {K : List Nat} {p : Nat} {st : List UInt8 × Int} (h : Rx T w0 w K p st) : Upd [] w0 w := by
  obtain ⟨S, _, h, _⟩ := h.ex
  exact h
theorem Rx.upd {T : TypeId} {w0 w w' : World} {K : List Nat} {p : Nat} {st : List UInt8 × Int} (h : Rx T w0 w K p st) (hu : Upd [] w w') : Rx T w0 w' K p st := by
  obtain ⟨S, h1, h2, h3, h4, h5⟩ := h.ex
  exact ⟨S, h1.upd hu (by simp), h2.trans hu, h3, h4, fun k hk => Nat.lt_of_lt_of_le (h5 k hk) hu.size⟩
theorem Re.lt {T : TypeId} {w : World} {S : List Nat} {p : Nat} {bs : List UInt8} {why : Int} (h : Re T w S p bs why) : p < w.heap.size := by
  obtain ⟨v, hB, _⟩ := h.ex
  exact hB.lt
theorem Rx.lt {T : TypeId} {w0 w : World} {K : List Nat} {p : Nat} {st : List UInt8 × Int} (h : Rx T w0 w K p st) : p < w.heap.size := by
  obtain ⟨S, h1, _⟩ := h.ex
  exact h1.lt
/-- A new block that the Reader's bytes do not lie in (they lie in blocks that are there). -/
theorem Rx.keep {T : TypeId} {w0 w : World} {p : Nat} {K : List Nat} {st : List UInt8 × Int} (h : Rx T w0 w K p st) (hS : ∀ S, Re T w S p st.1 st.2 → ∀ x ∈ S, x < w.heap.size) (o : Obj) : Rx T w0 (w.alloc o) (w.heap.size :: K) p st := by
  obtain ⟨S, h1, h2, h3, h4, h5⟩ := h.ex
  refine ⟨S, h1.upd ((Upd.refl [] _).alloc o) (by simp), h2.alloc o, h3, fun x hx hm => ?_, fun k hk => ?_⟩
  · rcases List.mem_cons.1 hm with rfl | hm
    · exact absurd (hS S h1 _ hx) (by omega)
    · exact h4 x hx hm
  · simp
    rcases List.mem_cons.1 hk with rfl | hk
    · omega
    · have := h5 k hk; omega
theorem Rx.step {T : TypeId} {w0 w w' : World} {K S : List Nat} {p : Nat} {st' : List UInt8 × Int} (h2 : Upd [] w0 w) (h3 : w0.heap.size ≤ p) (h4 : ∀ x ∈ S, x ∉ K) (h5 : ∀ k ∈ K, k < w.heap.size) (hp : p ∈ S)
    (g1 : Re T w' S p st'.1 st'.2) (g2 : Upd [p] w w') : Rx T w0 w' K p st' ∧ Upd [p] w w' ∧ ∀ g ∈ K, w'.heap[g]? = w.heap[g]? := by
  refine ⟨⟨S, g1, h2.trans' g2 (fun x hx => by simp at hx; subst hx; exact .inr h3), h3, h4, fun k hk => Nat.lt_of_lt_of_le (h5 k hk) g2.size⟩, g2, fun g hg => g2.block g (h5 g hg) (fun hm => by simp at hm; subst hm; exact h4 _ hp hg)⟩


/-- A number that does not go in. -/
theorem rwnum_big (S : List Nat) (p : Nat) (bs : List UInt8) (size : Nat) (n : Int) (w : World) (hW : Wr 98 w S p bs 0) (hs : size = 1 ∨ size = 2 ∨ size = 4)
    (hlo : -9223372036854775808 ≤ n) (hhi : n ≤ 9223372036854775807) (hfit : n < -(2 ^ (8 * size - 1) : Nat) ∨ ((2 ^ (8 * size) : Nat) : Int) ≤ n) :
    Calls Tryd.prog 51 #[ptr p, .int .i64 size, .int .i64 n] w fun e w' => e = .returned (.tuple #[]) ∧ Wr 98 w' S p bs 3 ∧ Upd S w w' := by
  obtain ⟨v, hB, hO, hne, rfl⟩ := hW.ex
  have c0 := hB.cell 0 _ rfl
  have c1 := hB.cell 1 _ rfl
  have f0 := hB.free 0
  have f1 := hB.free 1
  have fin : Wr 98 (w.setCell ⟨p, 1, none⟩ (.int .i64 3)) (p :: v.ownBlock.toList) p bs 3 ∧ Upd (p :: v.ownBlock.toList) w (w.setCell ⟨p, 1, none⟩ (.int .i64 3)) := by
    refine ⟨⟨v, hB.set 1 _, hO.upd ((Upd.refl [p] _).setCell (.inl (by simp)) _) ?_, hne, rfl⟩, (Upd.refl _ _).setCell (.inl (by simp)) _⟩
    intro g hg
    simp
    rintro rfl
    exact hne hg
  clear hB hO hne hW
  obtain rfl | rfl | rfl := hs
  all_goals
    simp only [Nat.reduceMul, Nat.reduceSub, Nat.reducePow] at hfit
    have HF := Lib.hid fin
    clear fin
    go_enter Tryd.func51, Tryd.ntmps51
    go_wp2
    all_goals
      first
        | (go_end0; exact ⟨rfl, HF.out⟩)
        | (refine bodyPost_ret (results_none rfl _ _ _) rfl ?_; exact ⟨rfl, HF.out⟩)

theorem wx_num (T0 : World) (size : Nat) (n : Int) (K : List Nat) (p : Nat) (st : List UInt8 × Int) (w : World) (h : Wx 110 T0 w K p st) (hs : size = 1 ∨ size = 2 ∨ size = 4 ∨ size = 8)
    (hlo : -9223372036854775808 ≤ n) (hhi : n ≤ 9223372036854775807) (hl : st.1.length + 8 ≤ lim) :
    Calls Tryd.prog 44 #[ptr p, .int .i64 size, .int .i64 n] w fun e w' => e = .returned (.tuple #[]) ∧ Wx 110 T0 w' K p (numW size n st) ∧ ∀ g ∈ K, w'.heap[g]? = w.heap[g]? := by
  obtain ⟨S, h1, h2, h3, h4, h5⟩ := h.ex
  obtain ⟨bs, why⟩ := st
  by_cases hw : why = 0
  · subst hw
    by_cases hf : size < 8 ∧ (n < -(2 ^ (8 * size - 1) : Nat) ∨ ((2 ^ (8 * size) : Nat) : Int) ≤ n)
    · have e : numW size n (bs, 0) = (bs, 3) := by unfold numW; rw [if_neg (by simp), if_pos hf]
      rw [e]
      refine (num_big S p bs size n w h1 (by omega) hlo hhi hf.2).mono ?_
      rintro e w' ⟨rfl, g1, g2⟩
      exact ⟨rfl, Wx.step (st' := (bs, 3)) h2 h3 h4 h5 g1 g2 (fun x hx => .inl hx)⟩
    · have e : numW size n (bs, 0) = (bs ++ be size (n % 18446744073709551616).toNat, 0) := by unfold numW; rw [if_neg (by simp), if_neg hf]
      rw [e]
      refine (num_c S p bs size n w h1 hs hlo hhi (fun h8 => by omega) hl).mono ?_
      rintro e w' ⟨rfl, S', g1, g2, g3⟩
      exact ⟨rfl, Wx.step (st' := (bs ++ be size (n % 18446744073709551616).toNat, 0)) h2 h3 h4 h5 g1 g2 g3⟩
  · have e : numW size n (bs, why) = (bs, why) := by unfold numW; rw [if_pos hw]
    rw [e]
    refine (num_dead S p bs size n why w h1 hw).mono ?_
    rintro e w' ⟨rfl, rfl⟩
    exact ⟨rfl, h, fun _ _ => rfl⟩
theorem wx_end (T0 : World) (K : List Nat) (p : Nat) (st : List UInt8 × Int) (w : World) (h : Wx 110 T0 w K p st) (hl : st.1.length ≤ lim) :
    Calls Tryd.prog 45 #[ptr p] w (Ret fun r w' => ∃ v, r = .tuple #[v, .int .i64 st.2] ∧ OB w' w.heap.size v (if st.2 = 0 then st.1 else []) ∧ Upd [] w w') := by
  obtain ⟨S, h1, _⟩ := h.ex
  obtain ⟨bs, why⟩ := st
  dsimp only at h1 hl ⊢
  by_cases hw : why = 0
  · subst hw
    rw [if_pos rfl]
    exact wend_c S p bs w h1 hl
  · rw [if_neg hw]
    refine (wend_bad S p bs why w h1 hw).mono ?_
    rintro e w' ⟨rfl, hu⟩
    exact ⟨_, rfl, _, rfl, OB.nil _ _, hu⟩
theorem rx_num (T0 : World) (size : Nat) (K : List Nat) (p : Nat) (st : List UInt8 × Int) (w : World) (h : Rx 111 T0 w K p st) (hs1 : 1 ≤ size) (hs8 : size ≤ 8) :
    Calls Tryd.prog 47 #[ptr p, .int .i64 size] w fun e w' => e = .returned (.int .i64 (numR size st).1) ∧ Rx 111 T0 w' K p (numR size st).2 ∧ Upd [p] w w' ∧ ∀ g ∈ K, w'.heap[g]? = w.heap[g]? := by
  obtain ⟨S, h1, h2, h3, h4, h5⟩ := h.ex
  obtain ⟨bs, why⟩ := st
  by_cases hw : why = 0
  · subst hw
    by_cases hf : bs.length < size
    · have e : numR size (bs, 0) = (0, (bs, 10)) := by unfold numR; rw [if_neg (by simp), if_pos hf]
      rw [e]
      refine (rnum_short S p bs size w h1 hs1 hs8 hf).mono ?_
      rintro e w' ⟨rfl, g1, g2⟩
      exact ⟨rfl, Rx.step (st' := (bs, 10)) h2 h3 h4 h5 h1.p_mem g1 g2⟩
    · have e : numR size (bs, 0) = (wrap64 (nb (bs.take size) : Nat), (bs.drop size, 0)) := by unfold numR; rw [if_neg (by simp), if_neg hf]
      rw [e]
      refine (rnum_c S p bs size w h1 hs1 hs8 (by omega)).mono ?_
      rintro e w' ⟨rfl, g1, g2⟩
      exact ⟨rfl, Rx.step (st' := (bs.drop size, 0)) h2 h3 h4 h5 h1.p_mem g1 g2⟩
  · have e : numR size (bs, why) = (0, (bs, why)) := by unfold numR; rw [if_pos hw]
    rw [e]
    refine (rnum_dead S p bs why size w h1 hw).mono ?_
    rintro e w' ⟨rfl, rfl⟩
    exact ⟨rfl, h, Upd.refl _ _, fun _ _ => rfl⟩
theorem rx_new (K : List Nat) (v : Value) (bs : List UInt8) (w : World) (hb : RB w v bs) (hl : bs.length ≤ lim) (hK : ∀ k ∈ K, k < w.heap.size) :
    Calls Tryd.prog 46 #[v] w (Ret fun r w' => ∃ p, r = ptr p ∧ Rx 111 w w' K p (bs, 0) ∧ Upd [] w w') := by
  refine (newReader_c v bs w hb hl).mono ?_
  rintro e w' ⟨r, rfl, p, S, rfl, h1, h2, h3⟩
  exact ⟨_, rfl, p, rfl, ⟨S, h1, h3, h2 p h1.p_mem, fun x hx hm => by have := h2 x hx; have := hK x hm; omega, fun k hk => Nat.lt_of_lt_of_le (hK k hk) h3.size⟩, h3⟩

theorem wy_num (T0 : World) (size : Nat) (n : Int) (K : List Nat) (p : Nat) (st : List UInt8 × Int) (w : World) (h : Wx 98 T0 w K p st) (hs : size = 1 ∨ size = 2 ∨ size = 4 ∨ size = 8)
    (hlo : -9223372036854775808 ≤ n) (hhi : n ≤ 9223372036854775807) (hl : st.1.length + 8 ≤ lim) :
    Calls Tryd.prog 51 #[ptr p, .int .i64 size, .int .i64 n] w fun e w' => e = .returned (.tuple #[]) ∧ Wx 98 T0 w' K p (numW size n st) ∧ ∀ g ∈ K, w'.heap[g]? = w.heap[g]? := by
  obtain ⟨S, h1, h2, h3, h4, h5⟩ := h.ex
  obtain ⟨bs, why⟩ := st
  by_cases hw : why = 0
  · subst hw
    by_cases hf : size < 8 ∧ (n < -(2 ^ (8 * size - 1) : Nat) ∨ ((2 ^ (8 * size) : Nat) : Int) ≤ n)
    · have e : numW size n (bs, 0) = (bs, 3) := by unfold numW; rw [if_neg (by simp), if_pos hf]
      rw [e]
      refine (rwnum_big S p bs size n w h1 (by omega) hlo hhi hf.2).mono ?_
      rintro e w' ⟨rfl, g1, g2⟩
      exact ⟨rfl, Wx.step (st' := (bs, 3)) h2 h3 h4 h5 g1 g2 (fun x hx => .inl hx)⟩
    · have e : numW size n (bs, 0) = (bs ++ be size (n % 18446744073709551616).toNat, 0) := by unfold numW; rw [if_neg (by simp), if_neg hf]
      rw [e]
      refine (rwnum_c S p bs size n w h1 hs hlo hhi (fun h8 => by omega) hl).mono ?_
      rintro e w' ⟨rfl, S', g1, g2, g3⟩
      exact ⟨rfl, Wx.step (st' := (bs ++ be size (n % 18446744073709551616).toNat, 0)) h2 h3 h4 h5 g1 g2 g3⟩
  · have e : numW size n (bs, why) = (bs, why) := by unfold numW; rw [if_pos hw]
    rw [e]
    refine (rwnum_dead S p bs size n why w h1 hw).mono ?_
    rintro e w' ⟨rfl, rfl⟩
    exact ⟨rfl, h, fun _ _ => rfl⟩
theorem wy_end (T0 : World) (K : List Nat) (p : Nat) (st : List UInt8 × Int) (w : World) (h : Wx 98 T0 w K p st) (hl : st.1.length ≤ lim) :
    Calls Tryd.prog 52 #[ptr p] w (Ret fun r w' => ∃ v, r = .tuple #[v, .int .i64 st.2] ∧ OB w' w.heap.size v (if st.2 = 0 then st.1 else []) ∧ Upd [] w w') := by
  obtain ⟨S, h1, _⟩ := h.ex
  obtain ⟨bs, why⟩ := st
  dsimp only at h1 hl ⊢
  by_cases hw : why = 0
  · subst hw
    rw [if_pos rfl]
    exact rwend_c S p bs w h1 hl
  · rw [if_neg hw]
    refine (rwend_bad S p bs why w h1 hw).mono ?_
    rintro e w' ⟨rfl, hu⟩
    exact ⟨_, rfl, _, rfl, OB.nil _ _, hu⟩
theorem ry_num (T0 : World) (size : Nat) (K : List Nat) (p : Nat) (st : List UInt8 × Int) (w : World) (h : Rx 112 T0 w K p st) (hs1 : 1 ≤ size) (hs8 : size ≤ 8) :
    Calls Tryd.prog 50 #[ptr p, .int .i64 size] w fun e w' => e = .returned (.int .i64 (numR size st).1) ∧ Rx 112 T0 w' K p (numR size st).2 ∧ Upd [p] w w' ∧ ∀ g ∈ K, w'.heap[g]? = w.heap[g]? := by
  obtain ⟨S, h1, h2, h3, h4, h5⟩ := h.ex
  obtain ⟨bs, why⟩ := st
  by_cases hw : why = 0
  · subst hw
    by_cases hf : bs.length < size
    · have e : numR size (bs, 0) = (0, (bs, 10)) := by unfold numR; rw [if_neg (by simp), if_pos hf]
      rw [e]
      refine (rrnum_short S p bs size w h1 hs1 hs8 hf).mono ?_
      rintro e w' ⟨rfl, g1, g2⟩
      exact ⟨rfl, Rx.step (st' := (bs, 10)) h2 h3 h4 h5 h1.p_mem g1 g2⟩
    · have e : numR size (bs, 0) = (wrap64 (nb (bs.take size) : Nat), (bs.drop size, 0)) := by unfold numR; rw [if_neg (by simp), if_neg hf]
      rw [e]
      refine (rrnum_c S p bs size w h1 hs1 hs8 (by omega)).mono ?_
      rintro e w' ⟨rfl, g1, g2⟩
      exact ⟨rfl, Rx.step (st' := (bs.drop size, 0)) h2 h3 h4 h5 h1.p_mem g1 g2⟩
  · have e : numR size (bs, why) = (0, (bs, why)) := by unfold numR; rw [if_pos hw]
    rw [e]
    refine (rrnum_dead S p bs why size w h1 hw).mono ?_
    rintro e w' ⟨rfl, rfl⟩
    exact ⟨rfl, h, Upd.refl _ _, fun _ _ => rfl⟩
theorem ry_new (K : List Nat) (v : Value) (bs : List UInt8) (w : World) (hb : RB w v bs) (hl : bs.length ≤ lim) (hK : ∀ k ∈ K, k < w.heap.size) :
    Calls Tryd.prog 49 #[v] w (Ret fun r w' => ∃ p, r = ptr p ∧ Rx 112 w w' K p (bs, 0) ∧ Upd [] w w') := by
  refine (of_c v bs w hb hl).mono ?_
  rintro e w' ⟨r, rfl, p, S, rfl, h1, h2, h3⟩
  exact ⟨_, rfl, p, rfl, ⟨S, h1, h3, h2 p h1.p_mem, fun x hx hm => by have := h2 x hx; have := hK x hm; omega, fun k hk => Nat.lt_of_lt_of_le (hK k hk) h3.size⟩, h3⟩
theorem rx_end (T0 : World) (K : List Nat) (p : Nat) (st : List UInt8 × Int) (w : World) (h : Rx 111 T0 w K p st) :
    Calls Tryd.prog 48 #[ptr p] w fun e w' => e = .returned (.int .i64 (endB st.2 st.1.length)) ∧ w = w' := by
  obtain ⟨S, h1, _⟩ := h.ex
  exact rend_c S p st.1 st.2 w h1
end Go.Proofs.YtpkljdjdapgmjaaDoor
