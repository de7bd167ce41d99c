/- Contracts of the reference's package field (caissonref02): Reader. -/
import Derived.Test.YtpkljdjdapgmjaaDoorGa
namespace Go.Proofs.YtpkljdjdapgmjaaDoor
open Go.RowKit
set_option linter.unusedVariables false
set_option linter.unusedSimpArgs false

theorem of_c (v : Value) (bs : List UInt8) (w : World) (hb : RB w v bs) (hl : bs.length ≤ lim) :
    Calls Tryd.prog 49 #[v] w (Ret fun r w' => ∃ p S, r = ptr p ∧ Re 112 w' S p bs 0 ∧ (∀ x ∈ S, w.heap.size ≤ x) ∧ Upd [] w w') := by
  have Hb := Lib.hid hb
  have Hl := Lib.hid hl
  clear hb hl
  go_enter Tryd.func49, Tryd.ntmps49
  go_wp2_with (at_builtin; refine wpList_appB rfl (.tmp 10) (.tmp 11) rfl w.heap.size _ [] rfl ?q1 _ bs rfl ?q2 ?q3 ?q4 ?_)
  case q1 => exact OB.nil _ _
  case q2 => exact Hb.out.upd ((Upd.refl _ _).alloc _)
  case q3 => simpa using Hl.out
  case q4 => simp
  intro A n2 cap w2 h1
  have hB := h1.blk (Blk.new w [.slice none 0 0, .int .i64 0] 112) (by simp [Value.ownBlock])
  have c2 := hB.cell 0 _ rfl
  have f2 := hB.free 0
  have HB := Lib.hid hB
  clear hB
  go_wp2
  go_ret
  have hn2 : n2 = bs.length := by simpa using h1.n_eq
  subst hn2
  have hO : OB w2 w.heap.size (.slice A bs.length cap) bs := by simpa using h1.own
  have hneA : (Value.slice A bs.length cap).ownBlock ≠ some w.heap.size := by
    intro e
    have hA : (Value.slice A bs.length cap).ownBlock = A.map (·.block) := by cases A <;> rfl
    rw [hA] at e
    rcases h1.at_ with h | h
    · rw [h] at e; simp [Value.ownBlock] at e
    · rw [h] at e; simp at e
  have hU : Upd [] w (w2.setCell ⟨w.heap.size, 0, none⟩ (.slice A bs.length cap)) := (h1.from_new ((Upd.refl _ _).alloc _) (by simp [Value.ownBlock])).setCell (.inr (Nat.le_refl _)) _
  refine ⟨_, rfl, w.heap.size, w.heap.size :: (Value.slice A bs.length cap).ownBlock.toList, rfl, ⟨_, HB.out.set 0 _, ?_, hneA, rfl⟩, ?_, hU⟩
  · refine hO.rb.keep ((Upd.refl [w.heap.size] _).setCell (.inl (by simp)) _) ?_
    intro g hg
    simp
    rintro rfl
    exact hneA hg
  · intro x hx
    simp at hx
    rcases hx with rfl | hx
    · omega
    · exact (hO.lt _ hx).1

theorem rget0_c (v : Value) (bs : List UInt8) (size : Nat) (w : World) (hb : RB w v bs) (h1 : 1 ≤ size) (h8 : size ≤ 8) (hi : size ≤ bs.length) :
    Calls Tryd.prog 57 #[v, .int .i64 0, .int .i64 size] w fun e w' => e = .returned (.tuple #[.int .u64 (nb (bs.take size) : Nat), .int .i64 0]) ∧ w = w' := by
  have h := rget_c v bs 0 size w hb h1 h8 (by omega)
  simpa using h

theorem rrnum_c (S : List Nat) (p : Nat) (bs : List UInt8) (size : Nat) (w : World) (hR : Re 112 w S p bs 0) (h1 : 1 ≤ size) (h8 : size ≤ 8) (hl : size ≤ bs.length) :
    Calls Tryd.prog 50 #[ptr p, .int .i64 size] w fun e w' => e = .returned (.int .i64 (wrap64 (nb (bs.take size) : Nat))) ∧ Re 112 w' S p (bs.drop size) 0 ∧ Upd [p] w w' := by
  obtain ⟨v, hB, hRb, hne, rfl⟩ := hR.ex
  have c0 := hB.cell 0 _ rfl
  have c1 := hB.cell 1 _ rfl
  have f0 := hB.free 0
  obtain ⟨g, off, cap, rfl, hlc, hcm, hc⟩ := hRb.open_pos (by omega)
  have HB := Lib.hid hB
  have HR := Lib.hid hRb
  have Hne := Lib.hid hne
  clear hc hB hRb hne hR
  have hz : ((size : Int) < 1) = False := by simp; omega
  have hz2 : ((bs.length : Int) < size) = False := by simp; omega
  have hz3 : (bs.length < size) = False := by simp; omega
  go_enter Tryd.func50, Tryd.ntmps50
  go_wp2_with fail
  refine (rget0_c _ _ _ _ HR.out h1 h8 hl).mono ?_
  rintro e w1 ⟨rfl, rfl⟩
  by_cases hcs : cap = size
  · subst hcs
    have R := re_step HB.out Hne.out (RB.cut HR.out rfl hl off (by omega)) rfl
    rw [Nat.sub_self, show bs.length - cap = 0 by omega] at R
    have HF := Lib.hid R
    clear R
    go_wp2
    go_ret
    exact ⟨rfl, HF.out⟩
  · have R := re_step HB.out Hne.out (RB.cut HR.out rfl hl (off + size) (fun _ => rfl)) rfl
    have HF := Lib.hid R
    clear R
    go_wp2
    go_ret
    exact ⟨rfl, HF.out⟩

/-- Too short. -/
theorem rrnum_short (S : List Nat) (p : Nat) (bs : List UInt8) (size : Nat) (w : World) (hR : Re 112 w S p bs 0) (h1 : 1 ≤ size) (h8 : size ≤ 8) (hl : bs.length < size) :
    Calls Tryd.prog 50 #[ptr p, .int .i64 size] w fun e w' => e = .returned (.int .i64 0) ∧ Re 112 w' S p bs 10 ∧ Upd [p] w w' := by
  obtain ⟨v, hB, hRb, hne, rfl⟩ := hR.ex
  have c0 := hB.cell 0 _ rfl
  have c1 := hB.cell 1 _ rfl
  have f1 := hB.free 1
  obtain ⟨A, cap, rfl, hlc, hcm, hc⟩ := hRb.open_
  have HF := Lib.hid (re_why (why' := 10) hB hRb hne)
  have HR := Lib.hid hRb
  clear hc hB hRb hne hR
  have hz : ((size : Int) < 1) = False := by simp; omega
  go_enter Tryd.func50, Tryd.ntmps50
  go_wp2
  go_ret
  exact ⟨rfl, HF.out⟩

/-- A Reader that bears an error answers 0. -/
theorem rrnum_dead (S : List Nat) (p : Nat) (bs : List UInt8) (why : Int) (size : Int) (w : World) (hR : Re 112 w S p bs why) (hw : why ≠ 0) :
    Calls Tryd.prog 50 #[ptr p, .int .i64 size] w fun e w' => e = .returned (.int .i64 0) ∧ w = w' := by
  obtain ⟨v, hB, _, _, rfl⟩ := hR.ex
  have c1 := hB.cell 1 _ rfl
  have hz : (why == 0) = false := by simpa using hw
  have hz2 : (why != 0) = true := by simpa using hw
  clear hB hR
  go_enter Tryd.func50, Tryd.ntmps50
  go_wp2
  go_ret
  exact ⟨rfl, rfl⟩
end Go.Proofs.YtpkljdjdapgmjaaDoor
