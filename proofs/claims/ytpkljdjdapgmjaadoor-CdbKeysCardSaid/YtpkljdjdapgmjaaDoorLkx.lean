/- The walk of CdbKeys. -/
import Derived.Test.YtpkljdjdapgmjaaDoorKb
import Derived.Test.YtpkljdjdapgmjaaDoorLa
import Derived.Test.YtpkljdjdapgmjaaDoorCf
import Derived.Deep.RegionHeld3
namespace Go.Proofs.YtpkljdjdapgmjaaDoor
open Go.RowKit
set_option linter.unusedVariables false
set_option linter.unusedSimpArgs false

set_option maxRecDepth 20000 in
set_option maxHeartbeats 4000000 in
theorem keysLaw_c (key next : Nat) (v : Value) (bs : List UInt8) (w : World) (hk : key < 18446744073709551616) (hn : next < 18446744073709551616) (hb : RB w v bs) (hl : bs.length + 1 ≤ lim) (hT : Tab w) :
    Calls Tryd.prog 6 #[.int .u64 (key : Int), .int .u64 (next : Int), v] w fun e w' => e = .returned (.bool true) ∧ Upd [] w w' := by
  have HT := Lib.hid hT
  have HB := Lib.hid hb
  have HL := Lib.hid hl
  obtain ⟨A, cap, rfl, hb1, hb2, _, _⟩ := hb.open_
  clear hT hb hl
  go_enter Tryd.func6, Tryd.ntmps6
  go_wp2_with fail
  refine (lent_c _ bs _ HB.out HL.out).mono ?_
  rintro e w1 ⟨o, rfl, hO, hU⟩
  have HO1 := Lib.hid hO
  have HU1 := Lib.hid hU
  clear hO hU
  go_wp2_with fail
  refine (putKeys_c key next _ hk hn).mono ?_
  rintro e w2 ⟨x, rfl, hX, hU⟩
  have HO2 := Lib.hid (HO1.out.upd0 hU)
  have HU2 := Lib.hid (HU1.out.trans hU)
  have HX2 := Lib.hid hX
  clear hX hU HO1 HU1
  go_wp2_with fail
  refine (keys_c _ bs _ HO2.out.rb (by have := HL.out; unfold lim at *; omega)).mono ?_
  rintro e w3 ⟨rfl, hU⟩
  have HO3 := Lib.hid (HO2.out.upd0 hU)
  have HU3 := Lib.hid (HU2.out.trans hU)
  have HX3 := Lib.hid (HX2.out.upd0 hU)
  clear hU HO2 HU2 HX2
  obtain ⟨p, q, E, hE⟩ : ∃ p q E, keysP bs = (p, q, E) := ⟨_, _, _, rfl⟩
  rw [hE]
  dsimp only
  have HE := Lib.hid hE
  clear hE
  go_wp2_with fail
  refine (rkeys_c _ bs _ (HB.out.upd HU3.out) (by have := HL.out; unfold lim at *; omega)).mono ?_
  rintro e w4 ⟨rfl, hU⟩
  have HO4 := Lib.hid (HO3.out.upd0 hU)
  have HU4 := Lib.hid (HU3.out.trans hU)
  have HX4 := Lib.hid (HX3.out.upd0 hU)
  clear hU HO3 HU3 HX3
  rw [HE.out]
  dsimp only
  have hpq : p < 18446744073709551616 ∧ q < 18446744073709551616 := by
    have h := HE.out
    unfold keysP at h
    split at h
    · injection h with h1 h; injection h with h2 h; omega
    · split at h
      · injection h with h1 h; injection h with h2 h; omega
      · injection h with h1 h; injection h with h2 h
        rw [← h1, ← h2]
        exact ⟨nb8 _, nb8 _⟩
  obtain ⟨hp, hq⟩ := hpq
  go_wp2_with fail
  have K : ∀ w', Upd [] w4 w' → ((convert 26 9 x).run Tryd.prog w' = .ok (.string (bstr (keysB key next))) w' ∧ (convert 26 9 (.slice A bs.length cap)).run Tryd.prog w' = .ok (.string (bstr bs)) w' ∧ Upd [] w4 w') := fun w' h => ⟨conv_B (HX4.out.upd0 h).rb, conv_B (HB.out.upd (HU4.out.trans h)), h⟩
  by_cases hE0 : E = 0
  · subst hE0
    have hback := keysP_ok HE.out
    have HBK := Lib.hid hback
    clear hback
    refine wp_region_noPanic ?_
    refine wp_region_held_drew (S := (fun w' => (convert 26 9 x).run Tryd.prog w' = .ok (.string (bstr (keysB key next))) w' ∧ (convert 26 9 (.slice A bs.length cap)).run Tryd.prog w' = .ok (.string (bstr bs)) w' ∧ Upd [] w4 w')) (by kernel_rfl) ?_ (fun hH0 => ?_)
    · (try dsimp only)
      (first | exact K _ (Upd.refl _ _).drew | exact K _ (Upd.refl _ _) | (refine K _ (Upd.trans ?_ hUc); go_split_ands; assumption) | (refine K _ ?_; go_split_ands; assumption))
    refine wpAnyH_take (i := 0) (oi := ({ dst := some 35, op := Op.move (Operand.tmp 8), type := 26, pos := "law.go:122", after := #[], guard := none })) (v := ?v1_0) rfl (by kernel_rfl) (by kernel_rfl) (by kernel_rfl) (fun _ _ _ h => h) ?y1_0 (by assumption) ?r1_0
    case y1_0 => (refine Or.inl ⟨?_, ?_⟩; rfl; ((intro w hSw; (try dsimp only at hSw); go_simp) <;> with_reducible rfl))
    (try simp only [Act.put, List.setIfInBounds_toArray, List.set_cons_zero, List.set_cons_succ])
    refine wpAnyH_take (i := 1) (oi := ({ dst := some 36, op := Op.convert 26 9 (Operand.tmp 35), type := 9, pos := "law.go:122", after := #[{ on := 0, ground := Ground.data }], guard := none })) (v := ?v1_1) rfl (by kernel_rfl) (by kernel_rfl) (by kernel_rfl) (fun _ _ _ h => h) ?y1_1 (by assumption) ?r1_1
    case y1_1 => (refine Or.inl ⟨?_, ?_⟩; rfl; ((intro w hSw; (try dsimp only at hSw); go_simp) <;> with_reducible rfl))
    (try simp only [Act.put, List.setIfInBounds_toArray, List.set_cons_zero, List.set_cons_succ])
    refine wpAnyH_take (i := 2) (oi := ({ dst := some 37, op := Op.move (Operand.tmp 0), type := 22, pos := "law.go:122", after := #[], guard := none })) (v := ?v1_2) rfl (by kernel_rfl) (by kernel_rfl) (by kernel_rfl) (fun _ _ _ h => h) ?y1_2 (by assumption) ?r1_2
    case y1_2 => (refine Or.inl ⟨?_, ?_⟩; rfl; ((intro w hSw; (try dsimp only at hSw); go_simp) <;> with_reducible rfl))
    (try simp only [Act.put, List.setIfInBounds_toArray, List.set_cons_zero, List.set_cons_succ])
    refine wpAnyH_take (i := 3) (oi := ({ dst := some 38, op := Op.move (Operand.tmp 1), type := 22, pos := "law.go:122", after := #[], guard := none })) (v := ?v1_3) rfl (by kernel_rfl) (by kernel_rfl) (by kernel_rfl) (fun _ _ _ h => h) ?y1_3 (by assumption) ?r1_3
    case y1_3 => (refine Or.inl ⟨?_, ?_⟩; rfl; ((intro w hSw; (try dsimp only at hSw); go_simp) <;> with_reducible rfl))
    (try simp only [Act.put, List.setIfInBounds_toArray, List.set_cons_zero, List.set_cons_succ])
    refine wpAnyH_ready (rs := [4]) (by kernel_rfl) (by simp) ?_
    refine AllReadyH.cons (o := ({ dst := some 39, op := Op.call { callee := Callee.value (Operand.func 25), args := #[Operand.tmp 37, Operand.tmp 38], argTypes := #[22, 22] }, type := 26, pos := "law.go:122", after := #[{ on := 2, ground := Ground.data }, { on := 3, ground := Ground.data }], guard := none })) rfl (fun KK hKK => ?_) AllReadyH.nil
    go_simp
    (first | (go_at_call 25; refine (rputKeys_c key next _ hk hn).mono ?_; rintro e w5 ⟨y, rfl, hOy, hUc⟩; have hcy := conv_B hOy.rb) | (go_at_call 22; refine (putKeys_c p q _ hp hq).mono ?_; rintro e w5 ⟨y, rfl, hOy, hUc⟩; rw [HBK.out] at hOy; have hcy := conv_B hOy.rb) | (go_at_call 18; refine (kept_c _ _ bs _ _ (HO4.out.upd0 (by go_split_ands; assumption)) (HB.out.upd (HU4.out.trans (by go_split_ands; assumption)))).mono ?_; rintro e w5 ⟨rfl, rfl⟩))
    go_wp2_with fail
    refine hKK.out _ _ ?_ (fun hH1 => ?_)
    · (try dsimp only)
      (first | exact K _ (Upd.refl _ _).drew | exact K _ (Upd.refl _ _) | (refine K _ (Upd.trans ?_ hUc); go_split_ands; assumption) | (refine K _ ?_; go_split_ands; assumption))
    clear hKK KK hH0
    (try simp only [Act.put, List.setIfInBounds_toArray, List.set_cons_zero, List.set_cons_succ])
    refine wpAnyH_ready (rs := [5]) (by kernel_rfl) (by simp) ?_
    refine AllReadyH.cons (o := ({ dst := some 40, op := Op.convert 26 9 (Operand.tmp 39), type := 9, pos := "law.go:122", after := #[{ on := 4, ground := Ground.data }], guard := none })) rfl (fun KK hKK => ?_) AllReadyH.nil
    go_simp
    refine hKK.out _ _ ?_ (fun hH2 => ?_)
    · (try dsimp only)
      (first | exact K _ (Upd.refl _ _).drew | exact K _ (Upd.refl _ _) | (refine K _ (Upd.trans ?_ hUc); go_split_ands; assumption) | (refine K _ ?_; go_split_ands; assumption))
    clear hKK KK hH1
    (try simp only [Act.put, List.setIfInBounds_toArray, List.set_cons_zero, List.set_cons_succ])
    refine wpAnyH_take (i := 6) (oi := ({ dst := some 41, op := Op.binOp BinOp.neq 9 (Operand.tmp 36) (Operand.tmp 40) 9, type := 4, pos := "law.go:122", after := #[{ on := 1, ground := Ground.data }, { on := 5, ground := Ground.data }], guard := none })) (v := ?v3_6) rfl (by kernel_rfl) (by kernel_rfl) (by kernel_rfl) (fun _ _ _ h => h) ?y3_6 (by assumption) ?r3_6
    case y3_6 => (refine Or.inl ⟨?_, ?_⟩; rfl; ((intro w hSw; (try dsimp only at hSw); go_simp) <;> with_reducible rfl))
    (try simp only [Act.put, List.setIfInBounds_toArray, List.set_cons_zero, List.set_cons_succ])
    refine wpAnyH_take (i := 7) (oi := ({ dst := some 42, op := Op.move (Operand.tmp 41), type := 4, pos := "law.go:122", after := #[{ on := 6, ground := Ground.data }, { on := 4, ground := Ground.chain }], guard := none })) (v := ?v3_7) rfl (by kernel_rfl) (by kernel_rfl) (by kernel_rfl) (fun _ _ _ h => h) ?y3_7 (by assumption) ?r3_7
    case y3_7 => (refine Or.inl ⟨?_, ?_⟩; rfl; ((intro w hSw; (try dsimp only at hSw); go_simp) <;> with_reducible rfl))
    (try simp only [Act.put, List.setIfInBounds_toArray, List.set_cons_zero, List.set_cons_succ])
    refine wpAnyH_take (i := 8) (oi := ({ dst := some 43, op := Op.move (Operand.tmp 9), type := 22, pos := "law.go:122", after := #[{ on := 7, ground := Ground.guard }], guard := some (7, false) })) (v := ?v3_8) rfl (by kernel_rfl) (by kernel_rfl) (by kernel_rfl) (fun _ _ _ h => h) ?y3_8 (by assumption) ?r3_8
    case y3_8 => (first | (refine Or.inl ⟨?_, ?_⟩; rfl; ((intro w hSw; (try dsimp only at hSw); go_simp) <;> with_reducible rfl)) | (refine Or.inr ⟨?_, ?_⟩ <;> rfl))
    (try simp only [Act.put, List.setIfInBounds_toArray, List.set_cons_zero, List.set_cons_succ])
    refine wpAnyH_take (i := 9) (oi := ({ dst := some 44, op := Op.move (Operand.tmp 12), type := 22, pos := "law.go:122", after := #[{ on := 7, ground := Ground.guard }], guard := some (7, false) })) (v := ?v3_9) rfl (by kernel_rfl) (by kernel_rfl) (by kernel_rfl) (fun _ _ _ h => h) ?y3_9 (by assumption) ?r3_9
    case y3_9 => (first | (refine Or.inl ⟨?_, ?_⟩; rfl; ((intro w hSw; (try dsimp only at hSw); go_simp) <;> with_reducible rfl)) | (refine Or.inr ⟨?_, ?_⟩ <;> rfl))
    (try simp only [Act.put, List.setIfInBounds_toArray, List.set_cons_zero, List.set_cons_succ])
    refine wpAnyH_take (i := 10) (oi := ({ dst := some 45, op := Op.binOp BinOp.neq 22 (Operand.tmp 43) (Operand.tmp 44) 22, type := 4, pos := "law.go:122", after := #[{ on := 8, ground := Ground.data }, { on := 9, ground := Ground.data }, { on := 7, ground := Ground.guard }], guard := some (7, false) })) (v := ?v3_10) rfl (by kernel_rfl) (by kernel_rfl) (by kernel_rfl) (fun _ _ _ h => h) ?y3_10 (by assumption) ?r3_10
    case y3_10 => (first | (refine Or.inl ⟨?_, ?_⟩; rfl; ((intro w hSw; (try dsimp only at hSw); go_simp) <;> with_reducible rfl)) | (refine Or.inr ⟨?_, ?_⟩ <;> rfl))
    (try simp only [Act.put, List.setIfInBounds_toArray, List.set_cons_zero, List.set_cons_succ])
    refine wpAnyH_take (i := 11) (oi := ({ dst := some 46, op := Op.pick (Operand.tmp 42) (Operand.const (Value.bool true)) (Operand.tmp 45), type := 4, pos := "law.go:122", after := #[{ on := 7, ground := Ground.data }, { on := 10, ground := Ground.data }], guard := none })) (v := ?v3_11) rfl (by kernel_rfl) (by kernel_rfl) (by kernel_rfl) (fun _ _ _ h => h) ?y3_11 (by assumption) ?r3_11
    case y3_11 => (refine Or.inl ⟨?_, ?_⟩; rfl; ((intro w hSw; (try dsimp only at hSw); go_simp) <;> with_reducible rfl))
    (try simp only [Act.put, List.setIfInBounds_toArray, List.set_cons_zero, List.set_cons_succ])
    refine wpAnyH_take (i := 12) (oi := ({ dst := some 47, op := Op.move (Operand.tmp 46), type := 4, pos := "law.go:122", after := #[{ on := 11, ground := Ground.data }, { on := 7, ground := Ground.chain }], guard := none })) (v := ?v3_12) rfl (by kernel_rfl) (by kernel_rfl) (by kernel_rfl) (fun _ _ _ h => h) ?y3_12 (by assumption) ?r3_12
    case y3_12 => (refine Or.inl ⟨?_, ?_⟩; rfl; ((intro w hSw; (try dsimp only at hSw); go_simp) <;> with_reducible rfl))
    (try simp only [Act.put, List.setIfInBounds_toArray, List.set_cons_zero, List.set_cons_succ])
    refine wpAnyH_take (i := 13) (oi := ({ dst := some 48, op := Op.move (Operand.tmp 10), type := 22, pos := "law.go:122", after := #[{ on := 12, ground := Ground.guard }], guard := some (12, false) })) (v := ?v3_13) rfl (by kernel_rfl) (by kernel_rfl) (by kernel_rfl) (fun _ _ _ h => h) ?y3_13 (by assumption) ?r3_13
    case y3_13 => (first | (refine Or.inl ⟨?_, ?_⟩; rfl; ((intro w hSw; (try dsimp only at hSw); go_simp) <;> with_reducible rfl)) | (refine Or.inr ⟨?_, ?_⟩ <;> rfl))
    (try simp only [Act.put, List.setIfInBounds_toArray, List.set_cons_zero, List.set_cons_succ])
    refine wpAnyH_take (i := 14) (oi := ({ dst := some 49, op := Op.move (Operand.tmp 13), type := 22, pos := "law.go:122", after := #[{ on := 12, ground := Ground.guard }], guard := some (12, false) })) (v := ?v3_14) rfl (by kernel_rfl) (by kernel_rfl) (by kernel_rfl) (fun _ _ _ h => h) ?y3_14 (by assumption) ?r3_14
    case y3_14 => (first | (refine Or.inl ⟨?_, ?_⟩; rfl; ((intro w hSw; (try dsimp only at hSw); go_simp) <;> with_reducible rfl)) | (refine Or.inr ⟨?_, ?_⟩ <;> rfl))
    (try simp only [Act.put, List.setIfInBounds_toArray, List.set_cons_zero, List.set_cons_succ])
    refine wpAnyH_take (i := 15) (oi := ({ dst := some 50, op := Op.binOp BinOp.neq 22 (Operand.tmp 48) (Operand.tmp 49) 22, type := 4, pos := "law.go:122", after := #[{ on := 13, ground := Ground.data }, { on := 14, ground := Ground.data }, { on := 12, ground := Ground.guard }], guard := some (12, false) })) (v := ?v3_15) rfl (by kernel_rfl) (by kernel_rfl) (by kernel_rfl) (fun _ _ _ h => h) ?y3_15 (by assumption) ?r3_15
    case y3_15 => (first | (refine Or.inl ⟨?_, ?_⟩; rfl; ((intro w hSw; (try dsimp only at hSw); go_simp) <;> with_reducible rfl)) | (refine Or.inr ⟨?_, ?_⟩ <;> rfl))
    (try simp only [Act.put, List.setIfInBounds_toArray, List.set_cons_zero, List.set_cons_succ])
    refine wpAnyH_take (i := 16) (oi := ({ dst := some 51, op := Op.pick (Operand.tmp 47) (Operand.const (Value.bool true)) (Operand.tmp 50), type := 4, pos := "law.go:122", after := #[{ on := 12, ground := Ground.data }, { on := 15, ground := Ground.data }], guard := none })) (v := ?v3_16) rfl (by kernel_rfl) (by kernel_rfl) (by kernel_rfl) (fun _ _ _ h => h) ?y3_16 (by assumption) ?r3_16
    case y3_16 => (refine Or.inl ⟨?_, ?_⟩; rfl; ((intro w hSw; (try dsimp only at hSw); go_simp) <;> with_reducible rfl))
    (try simp only [Act.put, List.setIfInBounds_toArray, List.set_cons_zero, List.set_cons_succ])
    refine wpAnyH_take (i := 17) (oi := ({ dst := some 52, op := Op.move (Operand.tmp 51), type := 4, pos := "law.go:122", after := #[{ on := 16, ground := Ground.data }, { on := 12, ground := Ground.chain }], guard := none })) (v := ?v3_17) rfl (by kernel_rfl) (by kernel_rfl) (by kernel_rfl) (fun _ _ _ h => h) ?y3_17 (by assumption) ?r3_17
    case y3_17 => (refine Or.inl ⟨?_, ?_⟩; rfl; ((intro w hSw; (try dsimp only at hSw); go_simp) <;> with_reducible rfl))
    (try simp only [Act.put, List.setIfInBounds_toArray, List.set_cons_zero, List.set_cons_succ])
    refine wpAnyH_take (i := 18) (oi := ({ dst := some 53, op := Op.move (Operand.tmp 11), type := 27, pos := "law.go:122", after := #[{ on := 17, ground := Ground.guard }], guard := some (17, false) })) (v := ?v3_18) rfl (by kernel_rfl) (by kernel_rfl) (by kernel_rfl) (fun _ _ _ h => h) ?y3_18 (by assumption) ?r3_18
    case y3_18 => (first | (refine Or.inl ⟨?_, ?_⟩; rfl; ((intro w hSw; (try dsimp only at hSw); go_simp) <;> with_reducible rfl)) | (refine Or.inr ⟨?_, ?_⟩ <;> rfl))
    (try simp only [Act.put, List.setIfInBounds_toArray, List.set_cons_zero, List.set_cons_succ])
    refine wpAnyH_take (i := 19) (oi := ({ dst := some 54, op := Op.move (Operand.tmp 14), type := 27, pos := "law.go:122", after := #[{ on := 17, ground := Ground.guard }], guard := some (17, false) })) (v := ?v3_19) rfl (by kernel_rfl) (by kernel_rfl) (by kernel_rfl) (fun _ _ _ h => h) ?y3_19 (by assumption) ?r3_19
    case y3_19 => (first | (refine Or.inl ⟨?_, ?_⟩; rfl; ((intro w hSw; (try dsimp only at hSw); go_simp) <;> with_reducible rfl)) | (refine Or.inr ⟨?_, ?_⟩ <;> rfl))
    (try simp only [Act.put, List.setIfInBounds_toArray, List.set_cons_zero, List.set_cons_succ])
    refine wpAnyH_take (i := 20) (oi := ({ dst := some 55, op := Op.binOp BinOp.neq 27 (Operand.tmp 53) (Operand.tmp 54) 27, type := 4, pos := "law.go:122", after := #[{ on := 18, ground := Ground.data }, { on := 19, ground := Ground.data }, { on := 17, ground := Ground.guard }], guard := some (17, false) })) (v := ?v3_20) rfl (by kernel_rfl) (by kernel_rfl) (by kernel_rfl) (fun _ _ _ h => h) ?y3_20 (by assumption) ?r3_20
    case y3_20 => (first | (refine Or.inl ⟨?_, ?_⟩; rfl; ((intro w hSw; (try dsimp only at hSw); go_simp) <;> with_reducible rfl)) | (refine Or.inr ⟨?_, ?_⟩ <;> rfl))
    (try simp only [Act.put, List.setIfInBounds_toArray, List.set_cons_zero, List.set_cons_succ])
    refine wpAnyH_take (i := 21) (oi := ({ dst := some 56, op := Op.pick (Operand.tmp 52) (Operand.const (Value.bool true)) (Operand.tmp 55), type := 4, pos := "law.go:122", after := #[{ on := 17, ground := Ground.data }, { on := 20, ground := Ground.data }], guard := none })) (v := ?v3_21) rfl (by kernel_rfl) (by kernel_rfl) (by kernel_rfl) (fun _ _ _ h => h) ?y3_21 (by assumption) ?r3_21
    case y3_21 => (refine Or.inl ⟨?_, ?_⟩; rfl; ((intro w hSw; (try dsimp only at hSw); go_simp) <;> with_reducible rfl))
    (try simp only [Act.put, List.setIfInBounds_toArray, List.set_cons_zero, List.set_cons_succ])
    refine wpAnyH_take (i := 22) (oi := ({ dst := some 57, op := Op.move (Operand.tmp 56), type := 4, pos := "law.go:122", after := #[{ on := 21, ground := Ground.data }, { on := 17, ground := Ground.chain }], guard := none })) (v := ?v3_22) rfl (by kernel_rfl) (by kernel_rfl) (by kernel_rfl) (fun _ _ _ h => h) ?y3_22 (by assumption) ?r3_22
    case y3_22 => (refine Or.inl ⟨?_, ?_⟩; rfl; ((intro w hSw; (try dsimp only at hSw); go_simp) <;> with_reducible rfl))
    (try simp only [Act.put, List.setIfInBounds_toArray, List.set_cons_zero, List.set_cons_succ])
    refine wpAnyH_take (i := 23) (oi := ({ dst := some 58, op := Op.move (Operand.tmp 7), type := 26, pos := "law.go:122", after := #[{ on := 22, ground := Ground.guard }], guard := some (22, false) })) (v := ?v3_23) rfl (by kernel_rfl) (by kernel_rfl) (by kernel_rfl) (fun _ _ _ h => h) ?y3_23 (by assumption) ?r3_23
    case y3_23 => (first | (refine Or.inl ⟨?_, ?_⟩; rfl; ((intro w hSw; (try dsimp only at hSw); go_simp) <;> with_reducible rfl)) | (refine Or.inr ⟨?_, ?_⟩ <;> rfl))
    (try simp only [Act.put, List.setIfInBounds_toArray, List.set_cons_zero, List.set_cons_succ])
    refine wpAnyH_take (i := 24) (oi := ({ dst := some 59, op := Op.move (Operand.tmp 2), type := 26, pos := "law.go:122", after := #[{ on := 22, ground := Ground.guard }], guard := some (22, false) })) (v := ?v3_24) rfl (by kernel_rfl) (by kernel_rfl) (by kernel_rfl) (fun _ _ _ h => h) ?y3_24 (by assumption) ?r3_24
    case y3_24 => (first | (refine Or.inl ⟨?_, ?_⟩; rfl; ((intro w hSw; (try dsimp only at hSw); go_simp) <;> with_reducible rfl)) | (refine Or.inr ⟨?_, ?_⟩ <;> rfl))
    (try simp only [Act.put, List.setIfInBounds_toArray, List.set_cons_zero, List.set_cons_succ])
    refine wpAnyH_ready (rs := [25]) (by kernel_rfl) (by simp) ?_
    refine AllReadyH.cons (o := ({ dst := some 60, op := Op.call { callee := Callee.value (Operand.func 18), args := #[Operand.tmp 58, Operand.tmp 59], argTypes := #[26, 26] }, type := 4, pos := "law.go:122", after := #[{ on := 23, ground := Ground.data }, { on := 24, ground := Ground.data }, { on := 22, ground := Ground.chain }, { on := 22, ground := Ground.guard }], guard := some (22, false) })) rfl (fun KK hKK => ?_) AllReadyH.nil
    go_simp
    try (first | (go_at_call 25; refine (rputKeys_c key next _ hk hn).mono ?_; rintro e w5 ⟨y, rfl, hOy, hUc⟩; have hcy := conv_B hOy.rb) | (go_at_call 22; refine (putKeys_c p q _ hp hq).mono ?_; rintro e w5 ⟨y, rfl, hOy, hUc⟩; rw [HBK.out] at hOy; have hcy := conv_B hOy.rb) | (go_at_call 18; refine (kept_c _ _ bs _ _ (HO4.out.upd0 (by go_split_ands; assumption)) (HB.out.upd (HU4.out.trans (by go_split_ands; assumption)))).mono ?_; rintro e w5 ⟨rfl, rfl⟩))
    try go_wp2_with fail
    refine hKK.out _ _ ?_ (fun hH3 => ?_)
    · (try dsimp only)
      (first | exact K _ (Upd.refl _ _).drew | exact K _ (Upd.refl _ _) | (refine K _ (Upd.trans ?_ hUc); go_split_ands; assumption) | (refine K _ ?_; go_split_ands; assumption))
    clear hKK KK hH2
    (try simp only [Act.put, List.setIfInBounds_toArray, List.set_cons_zero, List.set_cons_succ])
    refine wpAnyH_take (i := 26) (oi := ({ dst := some 61, op := Op.unOp UnOp.not 4 (Operand.tmp 60), type := 4, pos := "law.go:122", after := #[{ on := 25, ground := Ground.data }, { on := 22, ground := Ground.guard }], guard := some (22, false) })) (v := ?v4_26) rfl (by kernel_rfl) (by kernel_rfl) (by kernel_rfl) (fun _ _ _ h => h) ?y4_26 (by assumption) ?r4_26
    case y4_26 => (first | (refine Or.inl ⟨?_, ?_⟩; rfl; ((intro w hSw; (try dsimp only at hSw); go_simp) <;> with_reducible rfl)) | (refine Or.inr ⟨?_, ?_⟩ <;> rfl))
    (try simp only [Act.put, List.setIfInBounds_toArray, List.set_cons_zero, List.set_cons_succ])
    refine wpAnyH_take (i := 27) (oi := ({ dst := some 62, op := Op.pick (Operand.tmp 57) (Operand.const (Value.bool true)) (Operand.tmp 61), type := 4, pos := "law.go:122", after := #[{ on := 22, ground := Ground.data }, { on := 26, ground := Ground.data }], guard := none })) (v := ?v4_27) rfl (by kernel_rfl) (by kernel_rfl) (by kernel_rfl) (fun _ _ _ h => h) ?y4_27 (by assumption) ?r4_27
    case y4_27 => (refine Or.inl ⟨?_, ?_⟩; rfl; ((intro w hSw; (try dsimp only at hSw); go_simp) <;> with_reducible rfl))
    (try simp only [Act.put, List.setIfInBounds_toArray, List.set_cons_zero, List.set_cons_succ])
    refine wpAnyH_take (i := 28) (oi := ({ dst := some 63, op := Op.move (Operand.tmp 62), type := 4, pos := "law.go:122", after := #[{ on := 27, ground := Ground.data }, { on := 25, ground := Ground.chain }], guard := none })) (v := ?v4_28) rfl (by kernel_rfl) (by kernel_rfl) (by kernel_rfl) (fun _ _ _ h => h) ?y4_28 (by assumption) ?r4_28
    case y4_28 => (refine Or.inl ⟨?_, ?_⟩; rfl; ((intro w hSw; (try dsimp only at hSw); go_simp) <;> with_reducible rfl))
    (try simp only [Act.put, List.setIfInBounds_toArray, List.set_cons_zero, List.set_cons_succ])
    refine wpAnyH_take (i := 29) (oi := ({ dst := some 64, op := Op.move (Operand.tmp 11), type := 27, pos := "law.go:122", after := #[{ on := 28, ground := Ground.guard }], guard := some (28, false) })) (v := ?v4_29) rfl (by kernel_rfl) (by kernel_rfl) (by kernel_rfl) (fun _ _ _ h => h) ?y4_29 (by assumption) ?r4_29
    case y4_29 => (first | (refine Or.inl ⟨?_, ?_⟩; rfl; ((intro w hSw; (try dsimp only at hSw); go_simp) <;> with_reducible rfl)) | (refine Or.inr ⟨?_, ?_⟩ <;> rfl))
    (try simp only [Act.put, List.setIfInBounds_toArray, List.set_cons_zero, List.set_cons_succ])
    refine wpAnyH_take (i := 30) (oi := ({ dst := some 65, op := Op.binOp BinOp.eql 27 (Operand.tmp 64) (Operand.const (Value.int IntKind.i64 0)) 27, type := 4, pos := "law.go:122", after := #[{ on := 29, ground := Ground.data }, { on := 28, ground := Ground.guard }], guard := some (28, false) })) (v := ?v4_30) rfl (by kernel_rfl) (by kernel_rfl) (by kernel_rfl) (fun _ _ _ h => h) ?y4_30 (by assumption) ?r4_30
    case y4_30 => (first | (refine Or.inl ⟨?_, ?_⟩; rfl; ((intro w hSw; (try dsimp only at hSw); go_simp) <;> with_reducible rfl)) | (refine Or.inr ⟨?_, ?_⟩ <;> rfl))
    (try simp only [Act.put, List.setIfInBounds_toArray, List.set_cons_zero, List.set_cons_succ])
    refine wpAnyH_take (i := 31) (oi := ({ dst := some 66, op := Op.move (Operand.tmp 65), type := 4, pos := "law.go:122", after := #[{ on := 30, ground := Ground.data }, { on := 28, ground := Ground.chain }, { on := 28, ground := Ground.guard }], guard := some (28, false) })) (v := ?v4_31) rfl (by kernel_rfl) (by kernel_rfl) (by kernel_rfl) (fun _ _ _ h => h) ?y4_31 (by assumption) ?r4_31
    case y4_31 => (first | (refine Or.inl ⟨?_, ?_⟩; rfl; ((intro w hSw; (try dsimp only at hSw); go_simp) <;> with_reducible rfl)) | (refine Or.inr ⟨?_, ?_⟩ <;> rfl))
    (try simp only [Act.put, List.setIfInBounds_toArray, List.set_cons_zero, List.set_cons_succ])
    refine wpAnyH_take (i := 32) (oi := ({ dst := some 67, op := Op.move (Operand.tmp 9), type := 22, pos := "law.go:122", after := #[{ on := 31, ground := Ground.guard }], guard := some (31, true) })) (v := ?v4_32) rfl (by kernel_rfl) (by kernel_rfl) (by kernel_rfl) (fun _ _ _ h => h) ?y4_32 (by assumption) ?r4_32
    case y4_32 => (first | (refine Or.inl ⟨?_, ?_⟩; rfl; ((intro w hSw; (try dsimp only at hSw); go_simp) <;> with_reducible rfl)) | (refine Or.inr ⟨?_, ?_⟩ <;> rfl))
    (try simp only [Act.put, List.setIfInBounds_toArray, List.set_cons_zero, List.set_cons_succ])
    refine wpAnyH_take (i := 33) (oi := ({ dst := some 68, op := Op.move (Operand.tmp 10), type := 22, pos := "law.go:122", after := #[{ on := 31, ground := Ground.guard }], guard := some (31, true) })) (v := ?v4_33) rfl (by kernel_rfl) (by kernel_rfl) (by kernel_rfl) (fun _ _ _ h => h) ?y4_33 (by assumption) ?r4_33
    case y4_33 => (first | (refine Or.inl ⟨?_, ?_⟩; rfl; ((intro w hSw; (try dsimp only at hSw); go_simp) <;> with_reducible rfl)) | (refine Or.inr ⟨?_, ?_⟩ <;> rfl))
    (try simp only [Act.put, List.setIfInBounds_toArray, List.set_cons_zero, List.set_cons_succ])
    refine wpAnyH_take (i := 36) (oi := ({ dst := some 71, op := Op.move (Operand.tmp 2), type := 26, pos := "law.go:122", after := #[{ on := 31, ground := Ground.guard }], guard := some (31, true) })) (v := ?v4_36) rfl (by kernel_rfl) (by kernel_rfl) (by kernel_rfl) (fun _ _ _ h => h) ?y4_36 (by assumption) ?r4_36
    case y4_36 => (first | (refine Or.inl ⟨?_, ?_⟩; rfl; ((intro w hSw; (try dsimp only at hSw); go_simp) <;> with_reducible rfl)) | (refine Or.inr ⟨?_, ?_⟩ <;> rfl))
    (try simp only [Act.put, List.setIfInBounds_toArray, List.set_cons_zero, List.set_cons_succ])
    refine wpAnyH_take (i := 37) (oi := ({ dst := some 72, op := Op.convert 26 9 (Operand.tmp 71), type := 9, pos := "law.go:122", after := #[{ on := 36, ground := Ground.data }, { on := 31, ground := Ground.guard }], guard := some (31, true) })) (v := ?v4_37) rfl (by kernel_rfl) (by kernel_rfl) (by kernel_rfl) (fun _ _ _ h => h) ?y4_37 (by assumption) ?r4_37
    case y4_37 => (first | (refine Or.inl ⟨?_, ?_⟩; rfl; ((intro w hSw; (try dsimp only at hSw); go_simp) <;> with_reducible rfl)) | (refine Or.inr ⟨?_, ?_⟩ <;> rfl))
    (try simp only [Act.put, List.setIfInBounds_toArray, List.set_cons_zero, List.set_cons_succ])
    refine wpAnyH_ready (rs := [34]) (by kernel_rfl) (by simp) ?_
    refine AllReadyH.cons (o := ({ dst := some 69, op := Op.call { callee := Callee.value (Operand.func 22), args := #[Operand.tmp 67, Operand.tmp 68], argTypes := #[22, 22] }, type := 26, pos := "law.go:122", after := #[{ on := 32, ground := Ground.data }, { on := 33, ground := Ground.data }, { on := 31, ground := Ground.chain }, { on := 31, ground := Ground.guard }], guard := some (31, true) })) rfl (fun KK hKK => ?_) AllReadyH.nil
    go_simp
    try (first | (go_at_call 25; refine (rputKeys_c key next _ hk hn).mono ?_; rintro e w5 ⟨y, rfl, hOy, hUc⟩; have hcy := conv_B hOy.rb) | (go_at_call 22; refine (putKeys_c p q _ hp hq).mono ?_; rintro e w5 ⟨y, rfl, hOy, hUc⟩; rw [HBK.out] at hOy; have hcy := conv_B hOy.rb) | (go_at_call 18; refine (kept_c _ _ bs _ _ (HO4.out.upd0 (by go_split_ands; assumption)) (HB.out.upd (HU4.out.trans (by go_split_ands; assumption)))).mono ?_; rintro e w5 ⟨rfl, rfl⟩))
    try go_wp2_with fail
    refine hKK.out _ _ ?_ (fun hH4 => ?_)
    · (try dsimp only)
      (first | exact K _ (Upd.refl _ _).drew | exact K _ (Upd.refl _ _) | (refine K _ (Upd.trans ?_ hUc); go_split_ands; assumption) | (refine K _ ?_; go_split_ands; assumption))
    clear hKK KK hH3
    (try simp only [Act.put, List.setIfInBounds_toArray, List.set_cons_zero, List.set_cons_succ])
    refine wpAnyH_ready (rs := [35]) (by kernel_rfl) (by simp) ?_
    refine AllReadyH.cons (o := ({ dst := some 70, op := Op.convert 26 9 (Operand.tmp 69), type := 9, pos := "law.go:122", after := #[{ on := 34, ground := Ground.data }, { on := 31, ground := Ground.guard }], guard := some (31, true) })) rfl (fun KK hKK => ?_) AllReadyH.nil
    go_simp
    refine hKK.out _ _ ?_ (fun hH5 => ?_)
    · (try dsimp only)
      (first | exact K _ (Upd.refl _ _).drew | exact K _ (Upd.refl _ _) | (refine K _ (Upd.trans ?_ hUc); go_split_ands; assumption) | (refine K _ ?_; go_split_ands; assumption))
    clear hKK KK hH4
    (try simp only [Act.put, List.setIfInBounds_toArray, List.set_cons_zero, List.set_cons_succ])
    refine wpAnyH_take (i := 38) (oi := ({ dst := some 73, op := Op.binOp BinOp.neq 9 (Operand.tmp 70) (Operand.tmp 72) 9, type := 4, pos := "law.go:122", after := #[{ on := 35, ground := Ground.data }, { on := 37, ground := Ground.data }, { on := 31, ground := Ground.guard }], guard := some (31, true) })) (v := ?v6_38) rfl (by kernel_rfl) (by kernel_rfl) (by kernel_rfl) (fun _ _ _ h => h) ?y6_38 (by assumption) ?r6_38
    case y6_38 => (first | (refine Or.inl ⟨?_, ?_⟩; rfl; ((intro w hSw; (try dsimp only at hSw); go_simp) <;> with_reducible rfl)) | (refine Or.inr ⟨?_, ?_⟩ <;> rfl))
    (try simp only [Act.put, List.setIfInBounds_toArray, List.set_cons_zero, List.set_cons_succ])
    refine wpAnyH_take (i := 39) (oi := ({ dst := some 74, op := Op.pick (Operand.tmp 66) (Operand.tmp 73) (Operand.const (Value.bool false)), type := 4, pos := "law.go:122", after := #[{ on := 31, ground := Ground.data }, { on := 38, ground := Ground.data }, { on := 28, ground := Ground.guard }], guard := some (28, false) })) (v := ?v6_39) rfl (by kernel_rfl) (by kernel_rfl) (by kernel_rfl) (fun _ _ _ h => h) ?y6_39 (by assumption) ?r6_39
    case y6_39 => (first | (refine Or.inl ⟨?_, ?_⟩; rfl; ((intro w hSw; (try dsimp only at hSw); go_simp) <;> with_reducible rfl)) | (refine Or.inr ⟨?_, ?_⟩ <;> rfl))
    (try simp only [Act.put, List.setIfInBounds_toArray, List.set_cons_zero, List.set_cons_succ])
    refine wpAnyH_take (i := 40) (oi := ({ dst := some 75, op := Op.pick (Operand.tmp 63) (Operand.const (Value.bool true)) (Operand.tmp 74), type := 4, pos := "law.go:122", after := #[{ on := 28, ground := Ground.data }, { on := 39, ground := Ground.data }], guard := none })) (v := ?v6_40) rfl (by kernel_rfl) (by kernel_rfl) (by kernel_rfl) (fun _ _ _ h => h) ?y6_40 (by assumption) ?r6_40
    case y6_40 => (refine Or.inl ⟨?_, ?_⟩; rfl; ((intro w hSw; (try dsimp only at hSw); go_simp) <;> with_reducible rfl))
    (try simp only [Act.put, List.setIfInBounds_toArray, List.set_cons_zero, List.set_cons_succ])
    refine wpAnyH_done (by kernel_rfl) ?_ _
    refine NoPanic.normal ?_
    go_wp2_with fail
    refine (keys_c _ (keysB key next) _ (HX4.out.upd0 (by go_split_ands; assumption)).rb (by rw [keysB_length]; decide)).mono ?_
    rintro e w6 ⟨rfl, hU6⟩
    rw [keysP_back hk hn]
    dsimp only
    go_wp2_with fail
    refine (known_c _ (HT.out.upd0 ((HU4.out.trans (by go_split_ands; assumption)).trans hU6))).mono ?_
    rintro e w7 ⟨rfl, hU7⟩
    go_wp2_with fail
    go_ret
    exact ⟨rfl, ((HU4.out.trans (by go_split_ands; assumption)).trans hU6).trans hU7⟩
  · have hz : (E == 0) = false := by rw [beq_eq_false_iff_ne]; exact hE0
    clear hE0
    refine wp_region_noPanic ?_
    refine wp_region_held_drew (S := (fun w' => (convert 26 9 x).run Tryd.prog w' = .ok (.string (bstr (keysB key next))) w' ∧ (convert 26 9 (.slice A bs.length cap)).run Tryd.prog w' = .ok (.string (bstr bs)) w' ∧ Upd [] w4 w')) (by kernel_rfl) ?_ (fun hH6 => ?_)
    · (try dsimp only)
      (first | exact K _ (Upd.refl _ _).drew | exact K _ (Upd.refl _ _) | (refine K _ (Upd.trans ?_ hUc); go_split_ands; assumption) | (refine K _ ?_; go_split_ands; assumption))
    refine wpAnyH_take (i := 0) (oi := ({ dst := some 35, op := Op.move (Operand.tmp 8), type := 26, pos := "law.go:122", after := #[], guard := none })) (v := ?v7_0) rfl (by kernel_rfl) (by kernel_rfl) (by kernel_rfl) (fun _ _ _ h => h) ?y7_0 (by assumption) ?r7_0
    case y7_0 => (refine Or.inl ⟨?_, ?_⟩; rfl; ((intro w hSw; (try dsimp only at hSw); go_simp) <;> with_reducible rfl))
    (try simp only [Act.put, List.setIfInBounds_toArray, List.set_cons_zero, List.set_cons_succ])
    refine wpAnyH_take (i := 1) (oi := ({ dst := some 36, op := Op.convert 26 9 (Operand.tmp 35), type := 9, pos := "law.go:122", after := #[{ on := 0, ground := Ground.data }], guard := none })) (v := ?v7_1) rfl (by kernel_rfl) (by kernel_rfl) (by kernel_rfl) (fun _ _ _ h => h) ?y7_1 (by assumption) ?r7_1
    case y7_1 => (refine Or.inl ⟨?_, ?_⟩; rfl; ((intro w hSw; (try dsimp only at hSw); go_simp) <;> with_reducible rfl))
    (try simp only [Act.put, List.setIfInBounds_toArray, List.set_cons_zero, List.set_cons_succ])
    refine wpAnyH_take (i := 2) (oi := ({ dst := some 37, op := Op.move (Operand.tmp 0), type := 22, pos := "law.go:122", after := #[], guard := none })) (v := ?v7_2) rfl (by kernel_rfl) (by kernel_rfl) (by kernel_rfl) (fun _ _ _ h => h) ?y7_2 (by assumption) ?r7_2
    case y7_2 => (refine Or.inl ⟨?_, ?_⟩; rfl; ((intro w hSw; (try dsimp only at hSw); go_simp) <;> with_reducible rfl))
    (try simp only [Act.put, List.setIfInBounds_toArray, List.set_cons_zero, List.set_cons_succ])
    refine wpAnyH_take (i := 3) (oi := ({ dst := some 38, op := Op.move (Operand.tmp 1), type := 22, pos := "law.go:122", after := #[], guard := none })) (v := ?v7_3) rfl (by kernel_rfl) (by kernel_rfl) (by kernel_rfl) (fun _ _ _ h => h) ?y7_3 (by assumption) ?r7_3
    case y7_3 => (refine Or.inl ⟨?_, ?_⟩; rfl; ((intro w hSw; (try dsimp only at hSw); go_simp) <;> with_reducible rfl))
    (try simp only [Act.put, List.setIfInBounds_toArray, List.set_cons_zero, List.set_cons_succ])
    refine wpAnyH_ready (rs := [4]) (by kernel_rfl) (by simp) ?_
    refine AllReadyH.cons (o := ({ dst := some 39, op := Op.call { callee := Callee.value (Operand.func 25), args := #[Operand.tmp 37, Operand.tmp 38], argTypes := #[22, 22] }, type := 26, pos := "law.go:122", after := #[{ on := 2, ground := Ground.data }, { on := 3, ground := Ground.data }], guard := none })) rfl (fun KK hKK => ?_) AllReadyH.nil
    go_simp
    (first | (go_at_call 25; refine (rputKeys_c key next _ hk hn).mono ?_; rintro e w5 ⟨y, rfl, hOy, hUc⟩; have hcy := conv_B hOy.rb) | (go_at_call 22; refine (putKeys_c p q _ hp hq).mono ?_; rintro e w5 ⟨y, rfl, hOy, hUc⟩; have hcy := conv_B hOy.rb) | (go_at_call 18; refine (kept_c _ _ bs _ _ (HO4.out.upd0 (by go_split_ands; assumption)) (HB.out.upd (HU4.out.trans (by go_split_ands; assumption)))).mono ?_; rintro e w5 ⟨rfl, rfl⟩))
    go_wp2_with fail
    refine hKK.out _ _ ?_ (fun hH7 => ?_)
    · (try dsimp only)
      (first | exact K _ (Upd.refl _ _).drew | exact K _ (Upd.refl _ _) | (refine K _ (Upd.trans ?_ hUc); go_split_ands; assumption) | (refine K _ ?_; go_split_ands; assumption))
    clear hKK KK hH6
    (try simp only [Act.put, List.setIfInBounds_toArray, List.set_cons_zero, List.set_cons_succ])
    refine wpAnyH_ready (rs := [5]) (by kernel_rfl) (by simp) ?_
    refine AllReadyH.cons (o := ({ dst := some 40, op := Op.convert 26 9 (Operand.tmp 39), type := 9, pos := "law.go:122", after := #[{ on := 4, ground := Ground.data }], guard := none })) rfl (fun KK hKK => ?_) AllReadyH.nil
    go_simp
    refine hKK.out _ _ ?_ (fun hH8 => ?_)
    · (try dsimp only)
      (first | exact K _ (Upd.refl _ _).drew | exact K _ (Upd.refl _ _) | (refine K _ (Upd.trans ?_ hUc); go_split_ands; assumption) | (refine K _ ?_; go_split_ands; assumption))
    clear hKK KK hH7
    (try simp only [Act.put, List.setIfInBounds_toArray, List.set_cons_zero, List.set_cons_succ])
    refine wpAnyH_take (i := 6) (oi := ({ dst := some 41, op := Op.binOp BinOp.neq 9 (Operand.tmp 36) (Operand.tmp 40) 9, type := 4, pos := "law.go:122", after := #[{ on := 1, ground := Ground.data }, { on := 5, ground := Ground.data }], guard := none })) (v := ?v9_6) rfl (by kernel_rfl) (by kernel_rfl) (by kernel_rfl) (fun _ _ _ h => h) ?y9_6 (by assumption) ?r9_6
    case y9_6 => (refine Or.inl ⟨?_, ?_⟩; rfl; ((intro w hSw; (try dsimp only at hSw); go_simp) <;> with_reducible rfl))
    (try simp only [Act.put, List.setIfInBounds_toArray, List.set_cons_zero, List.set_cons_succ])
    refine wpAnyH_take (i := 7) (oi := ({ dst := some 42, op := Op.move (Operand.tmp 41), type := 4, pos := "law.go:122", after := #[{ on := 6, ground := Ground.data }, { on := 4, ground := Ground.chain }], guard := none })) (v := ?v9_7) rfl (by kernel_rfl) (by kernel_rfl) (by kernel_rfl) (fun _ _ _ h => h) ?y9_7 (by assumption) ?r9_7
    case y9_7 => (refine Or.inl ⟨?_, ?_⟩; rfl; ((intro w hSw; (try dsimp only at hSw); go_simp) <;> with_reducible rfl))
    (try simp only [Act.put, List.setIfInBounds_toArray, List.set_cons_zero, List.set_cons_succ])
    refine wpAnyH_take (i := 8) (oi := ({ dst := some 43, op := Op.move (Operand.tmp 9), type := 22, pos := "law.go:122", after := #[{ on := 7, ground := Ground.guard }], guard := some (7, false) })) (v := ?v9_8) rfl (by kernel_rfl) (by kernel_rfl) (by kernel_rfl) (fun _ _ _ h => h) ?y9_8 (by assumption) ?r9_8
    case y9_8 => (first | (refine Or.inl ⟨?_, ?_⟩; rfl; ((intro w hSw; (try dsimp only at hSw); go_simp) <;> with_reducible rfl)) | (refine Or.inr ⟨?_, ?_⟩ <;> rfl))
    (try simp only [Act.put, List.setIfInBounds_toArray, List.set_cons_zero, List.set_cons_succ])
    refine wpAnyH_take (i := 9) (oi := ({ dst := some 44, op := Op.move (Operand.tmp 12), type := 22, pos := "law.go:122", after := #[{ on := 7, ground := Ground.guard }], guard := some (7, false) })) (v := ?v9_9) rfl (by kernel_rfl) (by kernel_rfl) (by kernel_rfl) (fun _ _ _ h => h) ?y9_9 (by assumption) ?r9_9
    case y9_9 => (first | (refine Or.inl ⟨?_, ?_⟩; rfl; ((intro w hSw; (try dsimp only at hSw); go_simp) <;> with_reducible rfl)) | (refine Or.inr ⟨?_, ?_⟩ <;> rfl))
    (try simp only [Act.put, List.setIfInBounds_toArray, List.set_cons_zero, List.set_cons_succ])
    refine wpAnyH_take (i := 10) (oi := ({ dst := some 45, op := Op.binOp BinOp.neq 22 (Operand.tmp 43) (Operand.tmp 44) 22, type := 4, pos := "law.go:122", after := #[{ on := 8, ground := Ground.data }, { on := 9, ground := Ground.data }, { on := 7, ground := Ground.guard }], guard := some (7, false) })) (v := ?v9_10) rfl (by kernel_rfl) (by kernel_rfl) (by kernel_rfl) (fun _ _ _ h => h) ?y9_10 (by assumption) ?r9_10
    case y9_10 => (first | (refine Or.inl ⟨?_, ?_⟩; rfl; ((intro w hSw; (try dsimp only at hSw); go_simp) <;> with_reducible rfl)) | (refine Or.inr ⟨?_, ?_⟩ <;> rfl))
    (try simp only [Act.put, List.setIfInBounds_toArray, List.set_cons_zero, List.set_cons_succ])
    refine wpAnyH_take (i := 11) (oi := ({ dst := some 46, op := Op.pick (Operand.tmp 42) (Operand.const (Value.bool true)) (Operand.tmp 45), type := 4, pos := "law.go:122", after := #[{ on := 7, ground := Ground.data }, { on := 10, ground := Ground.data }], guard := none })) (v := ?v9_11) rfl (by kernel_rfl) (by kernel_rfl) (by kernel_rfl) (fun _ _ _ h => h) ?y9_11 (by assumption) ?r9_11
    case y9_11 => (refine Or.inl ⟨?_, ?_⟩; rfl; ((intro w hSw; (try dsimp only at hSw); go_simp) <;> with_reducible rfl))
    (try simp only [Act.put, List.setIfInBounds_toArray, List.set_cons_zero, List.set_cons_succ])
    refine wpAnyH_take (i := 12) (oi := ({ dst := some 47, op := Op.move (Operand.tmp 46), type := 4, pos := "law.go:122", after := #[{ on := 11, ground := Ground.data }, { on := 7, ground := Ground.chain }], guard := none })) (v := ?v9_12) rfl (by kernel_rfl) (by kernel_rfl) (by kernel_rfl) (fun _ _ _ h => h) ?y9_12 (by assumption) ?r9_12
    case y9_12 => (refine Or.inl ⟨?_, ?_⟩; rfl; ((intro w hSw; (try dsimp only at hSw); go_simp) <;> with_reducible rfl))
    (try simp only [Act.put, List.setIfInBounds_toArray, List.set_cons_zero, List.set_cons_succ])
    refine wpAnyH_take (i := 13) (oi := ({ dst := some 48, op := Op.move (Operand.tmp 10), type := 22, pos := "law.go:122", after := #[{ on := 12, ground := Ground.guard }], guard := some (12, false) })) (v := ?v9_13) rfl (by kernel_rfl) (by kernel_rfl) (by kernel_rfl) (fun _ _ _ h => h) ?y9_13 (by assumption) ?r9_13
    case y9_13 => (first | (refine Or.inl ⟨?_, ?_⟩; rfl; ((intro w hSw; (try dsimp only at hSw); go_simp) <;> with_reducible rfl)) | (refine Or.inr ⟨?_, ?_⟩ <;> rfl))
    (try simp only [Act.put, List.setIfInBounds_toArray, List.set_cons_zero, List.set_cons_succ])
    refine wpAnyH_take (i := 14) (oi := ({ dst := some 49, op := Op.move (Operand.tmp 13), type := 22, pos := "law.go:122", after := #[{ on := 12, ground := Ground.guard }], guard := some (12, false) })) (v := ?v9_14) rfl (by kernel_rfl) (by kernel_rfl) (by kernel_rfl) (fun _ _ _ h => h) ?y9_14 (by assumption) ?r9_14
    case y9_14 => (first | (refine Or.inl ⟨?_, ?_⟩; rfl; ((intro w hSw; (try dsimp only at hSw); go_simp) <;> with_reducible rfl)) | (refine Or.inr ⟨?_, ?_⟩ <;> rfl))
    (try simp only [Act.put, List.setIfInBounds_toArray, List.set_cons_zero, List.set_cons_succ])
    refine wpAnyH_take (i := 15) (oi := ({ dst := some 50, op := Op.binOp BinOp.neq 22 (Operand.tmp 48) (Operand.tmp 49) 22, type := 4, pos := "law.go:122", after := #[{ on := 13, ground := Ground.data }, { on := 14, ground := Ground.data }, { on := 12, ground := Ground.guard }], guard := some (12, false) })) (v := ?v9_15) rfl (by kernel_rfl) (by kernel_rfl) (by kernel_rfl) (fun _ _ _ h => h) ?y9_15 (by assumption) ?r9_15
    case y9_15 => (first | (refine Or.inl ⟨?_, ?_⟩; rfl; ((intro w hSw; (try dsimp only at hSw); go_simp) <;> with_reducible rfl)) | (refine Or.inr ⟨?_, ?_⟩ <;> rfl))
    (try simp only [Act.put, List.setIfInBounds_toArray, List.set_cons_zero, List.set_cons_succ])
    refine wpAnyH_take (i := 16) (oi := ({ dst := some 51, op := Op.pick (Operand.tmp 47) (Operand.const (Value.bool true)) (Operand.tmp 50), type := 4, pos := "law.go:122", after := #[{ on := 12, ground := Ground.data }, { on := 15, ground := Ground.data }], guard := none })) (v := ?v9_16) rfl (by kernel_rfl) (by kernel_rfl) (by kernel_rfl) (fun _ _ _ h => h) ?y9_16 (by assumption) ?r9_16
    case y9_16 => (refine Or.inl ⟨?_, ?_⟩; rfl; ((intro w hSw; (try dsimp only at hSw); go_simp) <;> with_reducible rfl))
    (try simp only [Act.put, List.setIfInBounds_toArray, List.set_cons_zero, List.set_cons_succ])
    refine wpAnyH_take (i := 17) (oi := ({ dst := some 52, op := Op.move (Operand.tmp 51), type := 4, pos := "law.go:122", after := #[{ on := 16, ground := Ground.data }, { on := 12, ground := Ground.chain }], guard := none })) (v := ?v9_17) rfl (by kernel_rfl) (by kernel_rfl) (by kernel_rfl) (fun _ _ _ h => h) ?y9_17 (by assumption) ?r9_17
    case y9_17 => (refine Or.inl ⟨?_, ?_⟩; rfl; ((intro w hSw; (try dsimp only at hSw); go_simp) <;> with_reducible rfl))
    (try simp only [Act.put, List.setIfInBounds_toArray, List.set_cons_zero, List.set_cons_succ])
    refine wpAnyH_take (i := 18) (oi := ({ dst := some 53, op := Op.move (Operand.tmp 11), type := 27, pos := "law.go:122", after := #[{ on := 17, ground := Ground.guard }], guard := some (17, false) })) (v := ?v9_18) rfl (by kernel_rfl) (by kernel_rfl) (by kernel_rfl) (fun _ _ _ h => h) ?y9_18 (by assumption) ?r9_18
    case y9_18 => (first | (refine Or.inl ⟨?_, ?_⟩; rfl; ((intro w hSw; (try dsimp only at hSw); go_simp) <;> with_reducible rfl)) | (refine Or.inr ⟨?_, ?_⟩ <;> rfl))
    (try simp only [Act.put, List.setIfInBounds_toArray, List.set_cons_zero, List.set_cons_succ])
    refine wpAnyH_take (i := 19) (oi := ({ dst := some 54, op := Op.move (Operand.tmp 14), type := 27, pos := "law.go:122", after := #[{ on := 17, ground := Ground.guard }], guard := some (17, false) })) (v := ?v9_19) rfl (by kernel_rfl) (by kernel_rfl) (by kernel_rfl) (fun _ _ _ h => h) ?y9_19 (by assumption) ?r9_19
    case y9_19 => (first | (refine Or.inl ⟨?_, ?_⟩; rfl; ((intro w hSw; (try dsimp only at hSw); go_simp) <;> with_reducible rfl)) | (refine Or.inr ⟨?_, ?_⟩ <;> rfl))
    (try simp only [Act.put, List.setIfInBounds_toArray, List.set_cons_zero, List.set_cons_succ])
    refine wpAnyH_take (i := 20) (oi := ({ dst := some 55, op := Op.binOp BinOp.neq 27 (Operand.tmp 53) (Operand.tmp 54) 27, type := 4, pos := "law.go:122", after := #[{ on := 18, ground := Ground.data }, { on := 19, ground := Ground.data }, { on := 17, ground := Ground.guard }], guard := some (17, false) })) (v := ?v9_20) rfl (by kernel_rfl) (by kernel_rfl) (by kernel_rfl) (fun _ _ _ h => h) ?y9_20 (by assumption) ?r9_20
    case y9_20 => (first | (refine Or.inl ⟨?_, ?_⟩; rfl; ((intro w hSw; (try dsimp only at hSw); go_simp) <;> with_reducible rfl)) | (refine Or.inr ⟨?_, ?_⟩ <;> rfl))
    (try simp only [Act.put, List.setIfInBounds_toArray, List.set_cons_zero, List.set_cons_succ])
    refine wpAnyH_take (i := 21) (oi := ({ dst := some 56, op := Op.pick (Operand.tmp 52) (Operand.const (Value.bool true)) (Operand.tmp 55), type := 4, pos := "law.go:122", after := #[{ on := 17, ground := Ground.data }, { on := 20, ground := Ground.data }], guard := none })) (v := ?v9_21) rfl (by kernel_rfl) (by kernel_rfl) (by kernel_rfl) (fun _ _ _ h => h) ?y9_21 (by assumption) ?r9_21
    case y9_21 => (refine Or.inl ⟨?_, ?_⟩; rfl; ((intro w hSw; (try dsimp only at hSw); go_simp) <;> with_reducible rfl))
    (try simp only [Act.put, List.setIfInBounds_toArray, List.set_cons_zero, List.set_cons_succ])
    refine wpAnyH_take (i := 22) (oi := ({ dst := some 57, op := Op.move (Operand.tmp 56), type := 4, pos := "law.go:122", after := #[{ on := 21, ground := Ground.data }, { on := 17, ground := Ground.chain }], guard := none })) (v := ?v9_22) rfl (by kernel_rfl) (by kernel_rfl) (by kernel_rfl) (fun _ _ _ h => h) ?y9_22 (by assumption) ?r9_22
    case y9_22 => (refine Or.inl ⟨?_, ?_⟩; rfl; ((intro w hSw; (try dsimp only at hSw); go_simp) <;> with_reducible rfl))
    (try simp only [Act.put, List.setIfInBounds_toArray, List.set_cons_zero, List.set_cons_succ])
    refine wpAnyH_take (i := 23) (oi := ({ dst := some 58, op := Op.move (Operand.tmp 7), type := 26, pos := "law.go:122", after := #[{ on := 22, ground := Ground.guard }], guard := some (22, false) })) (v := ?v9_23) rfl (by kernel_rfl) (by kernel_rfl) (by kernel_rfl) (fun _ _ _ h => h) ?y9_23 (by assumption) ?r9_23
    case y9_23 => (first | (refine Or.inl ⟨?_, ?_⟩; rfl; ((intro w hSw; (try dsimp only at hSw); go_simp) <;> with_reducible rfl)) | (refine Or.inr ⟨?_, ?_⟩ <;> rfl))
    (try simp only [Act.put, List.setIfInBounds_toArray, List.set_cons_zero, List.set_cons_succ])
    refine wpAnyH_take (i := 24) (oi := ({ dst := some 59, op := Op.move (Operand.tmp 2), type := 26, pos := "law.go:122", after := #[{ on := 22, ground := Ground.guard }], guard := some (22, false) })) (v := ?v9_24) rfl (by kernel_rfl) (by kernel_rfl) (by kernel_rfl) (fun _ _ _ h => h) ?y9_24 (by assumption) ?r9_24
    case y9_24 => (first | (refine Or.inl ⟨?_, ?_⟩; rfl; ((intro w hSw; (try dsimp only at hSw); go_simp) <;> with_reducible rfl)) | (refine Or.inr ⟨?_, ?_⟩ <;> rfl))
    (try simp only [Act.put, List.setIfInBounds_toArray, List.set_cons_zero, List.set_cons_succ])
    refine wpAnyH_ready (rs := [25]) (by kernel_rfl) (by simp) ?_
    refine AllReadyH.cons (o := ({ dst := some 60, op := Op.call { callee := Callee.value (Operand.func 18), args := #[Operand.tmp 58, Operand.tmp 59], argTypes := #[26, 26] }, type := 4, pos := "law.go:122", after := #[{ on := 23, ground := Ground.data }, { on := 24, ground := Ground.data }, { on := 22, ground := Ground.chain }, { on := 22, ground := Ground.guard }], guard := some (22, false) })) rfl (fun KK hKK => ?_) AllReadyH.nil
    go_simp
    try (first | (go_at_call 25; refine (rputKeys_c key next _ hk hn).mono ?_; rintro e w5 ⟨y, rfl, hOy, hUc⟩; have hcy := conv_B hOy.rb) | (go_at_call 22; refine (putKeys_c p q _ hp hq).mono ?_; rintro e w5 ⟨y, rfl, hOy, hUc⟩; have hcy := conv_B hOy.rb) | (go_at_call 18; refine (kept_c _ _ bs _ _ (HO4.out.upd0 (by go_split_ands; assumption)) (HB.out.upd (HU4.out.trans (by go_split_ands; assumption)))).mono ?_; rintro e w5 ⟨rfl, rfl⟩))
    try go_wp2_with fail
    refine hKK.out _ _ ?_ (fun hH9 => ?_)
    · (try dsimp only)
      (first | exact K _ (Upd.refl _ _).drew | exact K _ (Upd.refl _ _) | (refine K _ (Upd.trans ?_ hUc); go_split_ands; assumption) | (refine K _ ?_; go_split_ands; assumption))
    clear hKK KK hH8
    (try simp only [Act.put, List.setIfInBounds_toArray, List.set_cons_zero, List.set_cons_succ])
    refine wpAnyH_take (i := 26) (oi := ({ dst := some 61, op := Op.unOp UnOp.not 4 (Operand.tmp 60), type := 4, pos := "law.go:122", after := #[{ on := 25, ground := Ground.data }, { on := 22, ground := Ground.guard }], guard := some (22, false) })) (v := ?v10_26) rfl (by kernel_rfl) (by kernel_rfl) (by kernel_rfl) (fun _ _ _ h => h) ?y10_26 (by assumption) ?r10_26
    case y10_26 => (first | (refine Or.inl ⟨?_, ?_⟩; rfl; ((intro w hSw; (try dsimp only at hSw); go_simp) <;> with_reducible rfl)) | (refine Or.inr ⟨?_, ?_⟩ <;> rfl))
    (try simp only [Act.put, List.setIfInBounds_toArray, List.set_cons_zero, List.set_cons_succ])
    refine wpAnyH_take (i := 27) (oi := ({ dst := some 62, op := Op.pick (Operand.tmp 57) (Operand.const (Value.bool true)) (Operand.tmp 61), type := 4, pos := "law.go:122", after := #[{ on := 22, ground := Ground.data }, { on := 26, ground := Ground.data }], guard := none })) (v := ?v10_27) rfl (by kernel_rfl) (by kernel_rfl) (by kernel_rfl) (fun _ _ _ h => h) ?y10_27 (by assumption) ?r10_27
    case y10_27 => (refine Or.inl ⟨?_, ?_⟩; rfl; ((intro w hSw; (try dsimp only at hSw); go_simp) <;> with_reducible rfl))
    (try simp only [Act.put, List.setIfInBounds_toArray, List.set_cons_zero, List.set_cons_succ])
    refine wpAnyH_take (i := 28) (oi := ({ dst := some 63, op := Op.move (Operand.tmp 62), type := 4, pos := "law.go:122", after := #[{ on := 27, ground := Ground.data }, { on := 25, ground := Ground.chain }], guard := none })) (v := ?v10_28) rfl (by kernel_rfl) (by kernel_rfl) (by kernel_rfl) (fun _ _ _ h => h) ?y10_28 (by assumption) ?r10_28
    case y10_28 => (refine Or.inl ⟨?_, ?_⟩; rfl; ((intro w hSw; (try dsimp only at hSw); go_simp) <;> with_reducible rfl))
    (try simp only [Act.put, List.setIfInBounds_toArray, List.set_cons_zero, List.set_cons_succ])
    refine wpAnyH_take (i := 29) (oi := ({ dst := some 64, op := Op.move (Operand.tmp 11), type := 27, pos := "law.go:122", after := #[{ on := 28, ground := Ground.guard }], guard := some (28, false) })) (v := ?v10_29) rfl (by kernel_rfl) (by kernel_rfl) (by kernel_rfl) (fun _ _ _ h => h) ?y10_29 (by assumption) ?r10_29
    case y10_29 => (first | (refine Or.inl ⟨?_, ?_⟩; rfl; ((intro w hSw; (try dsimp only at hSw); go_simp) <;> with_reducible rfl)) | (refine Or.inr ⟨?_, ?_⟩ <;> rfl))
    (try simp only [Act.put, List.setIfInBounds_toArray, List.set_cons_zero, List.set_cons_succ])
    refine wpAnyH_take (i := 30) (oi := ({ dst := some 65, op := Op.binOp BinOp.eql 27 (Operand.tmp 64) (Operand.const (Value.int IntKind.i64 0)) 27, type := 4, pos := "law.go:122", after := #[{ on := 29, ground := Ground.data }, { on := 28, ground := Ground.guard }], guard := some (28, false) })) (v := ?v10_30) rfl (by kernel_rfl) (by kernel_rfl) (by kernel_rfl) (fun _ _ _ h => h) ?y10_30 (by assumption) ?r10_30
    case y10_30 => (first | (refine Or.inl ⟨?_, ?_⟩; rfl; ((intro w hSw; (try dsimp only at hSw); go_simp) <;> with_reducible rfl)) | (refine Or.inr ⟨?_, ?_⟩ <;> rfl))
    (try simp only [Act.put, List.setIfInBounds_toArray, List.set_cons_zero, List.set_cons_succ])
    refine wpAnyH_take (i := 31) (oi := ({ dst := some 66, op := Op.move (Operand.tmp 65), type := 4, pos := "law.go:122", after := #[{ on := 30, ground := Ground.data }, { on := 28, ground := Ground.chain }, { on := 28, ground := Ground.guard }], guard := some (28, false) })) (v := ?v10_31) rfl (by kernel_rfl) (by kernel_rfl) (by kernel_rfl) (fun _ _ _ h => h) ?y10_31 (by assumption) ?r10_31
    case y10_31 => (first | (refine Or.inl ⟨?_, ?_⟩; rfl; ((intro w hSw; (try dsimp only at hSw); go_simp) <;> with_reducible rfl)) | (refine Or.inr ⟨?_, ?_⟩ <;> rfl))
    (try simp only [Act.put, List.setIfInBounds_toArray, List.set_cons_zero, List.set_cons_succ])
    refine wpAnyH_take (i := 32) (oi := ({ dst := some 67, op := Op.move (Operand.tmp 9), type := 22, pos := "law.go:122", after := #[{ on := 31, ground := Ground.guard }], guard := some (31, true) })) (v := ?v10_32) rfl (by kernel_rfl) (by kernel_rfl) (by kernel_rfl) (fun _ _ _ h => h) ?y10_32 (by assumption) ?r10_32
    case y10_32 => (first | (refine Or.inl ⟨?_, ?_⟩; rfl; ((intro w hSw; (try dsimp only at hSw); go_simp) <;> with_reducible rfl)) | (refine Or.inr ⟨?_, ?_⟩ <;> rfl))
    (try simp only [Act.put, List.setIfInBounds_toArray, List.set_cons_zero, List.set_cons_succ])
    refine wpAnyH_take (i := 33) (oi := ({ dst := some 68, op := Op.move (Operand.tmp 10), type := 22, pos := "law.go:122", after := #[{ on := 31, ground := Ground.guard }], guard := some (31, true) })) (v := ?v10_33) rfl (by kernel_rfl) (by kernel_rfl) (by kernel_rfl) (fun _ _ _ h => h) ?y10_33 (by assumption) ?r10_33
    case y10_33 => (first | (refine Or.inl ⟨?_, ?_⟩; rfl; ((intro w hSw; (try dsimp only at hSw); go_simp) <;> with_reducible rfl)) | (refine Or.inr ⟨?_, ?_⟩ <;> rfl))
    (try simp only [Act.put, List.setIfInBounds_toArray, List.set_cons_zero, List.set_cons_succ])
    refine wpAnyH_take (i := 36) (oi := ({ dst := some 71, op := Op.move (Operand.tmp 2), type := 26, pos := "law.go:122", after := #[{ on := 31, ground := Ground.guard }], guard := some (31, true) })) (v := ?v10_36) rfl (by kernel_rfl) (by kernel_rfl) (by kernel_rfl) (fun _ _ _ h => h) ?y10_36 (by assumption) ?r10_36
    case y10_36 => (first | (refine Or.inl ⟨?_, ?_⟩; rfl; ((intro w hSw; (try dsimp only at hSw); go_simp) <;> with_reducible rfl)) | (refine Or.inr ⟨?_, ?_⟩ <;> rfl))
    (try simp only [Act.put, List.setIfInBounds_toArray, List.set_cons_zero, List.set_cons_succ])
    refine wpAnyH_take (i := 37) (oi := ({ dst := some 72, op := Op.convert 26 9 (Operand.tmp 71), type := 9, pos := "law.go:122", after := #[{ on := 36, ground := Ground.data }, { on := 31, ground := Ground.guard }], guard := some (31, true) })) (v := ?v10_37) rfl (by kernel_rfl) (by kernel_rfl) (by kernel_rfl) (fun _ _ _ h => h) ?y10_37 (by assumption) ?r10_37
    case y10_37 => (first | (refine Or.inl ⟨?_, ?_⟩; rfl; ((intro w hSw; (try dsimp only at hSw); go_simp) <;> with_reducible rfl)) | (refine Or.inr ⟨?_, ?_⟩ <;> rfl))
    (try simp only [Act.put, List.setIfInBounds_toArray, List.set_cons_zero, List.set_cons_succ])
    refine wpAnyH_ready (rs := [34]) (by kernel_rfl) (by simp) ?_
    refine AllReadyH.cons (o := ({ dst := some 69, op := Op.call { callee := Callee.value (Operand.func 22), args := #[Operand.tmp 67, Operand.tmp 68], argTypes := #[22, 22] }, type := 26, pos := "law.go:122", after := #[{ on := 32, ground := Ground.data }, { on := 33, ground := Ground.data }, { on := 31, ground := Ground.chain }, { on := 31, ground := Ground.guard }], guard := some (31, true) })) rfl (fun KK hKK => ?_) AllReadyH.nil
    go_simp
    try (first | (go_at_call 25; refine (rputKeys_c key next _ hk hn).mono ?_; rintro e w5 ⟨y, rfl, hOy, hUc⟩; have hcy := conv_B hOy.rb) | (go_at_call 22; refine (putKeys_c p q _ hp hq).mono ?_; rintro e w5 ⟨y, rfl, hOy, hUc⟩; have hcy := conv_B hOy.rb) | (go_at_call 18; refine (kept_c _ _ bs _ _ (HO4.out.upd0 (by go_split_ands; assumption)) (HB.out.upd (HU4.out.trans (by go_split_ands; assumption)))).mono ?_; rintro e w5 ⟨rfl, rfl⟩))
    try go_wp2_with fail
    refine hKK.out _ _ ?_ (fun hH10 => ?_)
    · (try dsimp only)
      (first | exact K _ (Upd.refl _ _).drew | exact K _ (Upd.refl _ _) | (refine K _ (Upd.trans ?_ hUc); go_split_ands; assumption) | (refine K _ ?_; go_split_ands; assumption))
    clear hKK KK hH9
    (try simp only [Act.put, List.setIfInBounds_toArray, List.set_cons_zero, List.set_cons_succ])
    refine wpAnyH_ready (rs := [35]) (by kernel_rfl) (by simp) ?_
    refine AllReadyH.cons (o := ({ dst := some 70, op := Op.convert 26 9 (Operand.tmp 69), type := 9, pos := "law.go:122", after := #[{ on := 34, ground := Ground.data }, { on := 31, ground := Ground.guard }], guard := some (31, true) })) rfl (fun KK hKK => ?_) AllReadyH.nil
    go_simp
    refine hKK.out _ _ ?_ (fun hH11 => ?_)
    · (try dsimp only)
      (first | exact K _ (Upd.refl _ _).drew | exact K _ (Upd.refl _ _) | (refine K _ (Upd.trans ?_ hUc); go_split_ands; assumption) | (refine K _ ?_; go_split_ands; assumption))
    clear hKK KK hH10
    (try simp only [Act.put, List.setIfInBounds_toArray, List.set_cons_zero, List.set_cons_succ])
    refine wpAnyH_ready (rs := [38]) (by kernel_rfl) (by simp) ?_
    refine AllReadyH.cons (o := ({ dst := some 73, op := Op.binOp BinOp.neq 9 (Operand.tmp 70) (Operand.tmp 72) 9, type := 4, pos := "law.go:122", after := #[{ on := 35, ground := Ground.data }, { on := 37, ground := Ground.data }, { on := 31, ground := Ground.guard }], guard := some (31, true) })) rfl (fun KK hKK => ?_) AllReadyH.nil
    go_simp
    refine hKK.out _ _ ?_ (fun hH12 => ?_)
    · (try dsimp only)
      (first | exact K _ (Upd.refl _ _).drew | exact K _ (Upd.refl _ _) | (refine K _ (Upd.trans ?_ hUc); go_split_ands; assumption) | (refine K _ ?_; go_split_ands; assumption))
    clear hKK KK hH11
    (try simp only [Act.put, List.setIfInBounds_toArray, List.set_cons_zero, List.set_cons_succ])
    refine wpAnyH_take (i := 39) (oi := ({ dst := some 74, op := Op.pick (Operand.tmp 66) (Operand.tmp 73) (Operand.const (Value.bool false)), type := 4, pos := "law.go:122", after := #[{ on := 31, ground := Ground.data }, { on := 38, ground := Ground.data }, { on := 28, ground := Ground.guard }], guard := some (28, false) })) (v := ?v13_39) rfl (by kernel_rfl) (by kernel_rfl) (by kernel_rfl) (fun _ _ _ h => h) ?y13_39 (by assumption) ?r13_39
    case y13_39 => (first | (refine Or.inl ⟨?_, ?_⟩; rfl; ((intro w hSw; (try dsimp only at hSw); go_simp) <;> with_reducible rfl)) | (refine Or.inr ⟨?_, ?_⟩ <;> rfl))
    (try simp only [Act.put, List.setIfInBounds_toArray, List.set_cons_zero, List.set_cons_succ])
    refine wpAnyH_take (i := 40) (oi := ({ dst := some 75, op := Op.pick (Operand.tmp 63) (Operand.const (Value.bool true)) (Operand.tmp 74), type := 4, pos := "law.go:122", after := #[{ on := 28, ground := Ground.data }, { on := 39, ground := Ground.data }], guard := none })) (v := ?v13_40) rfl (by kernel_rfl) (by kernel_rfl) (by kernel_rfl) (fun _ _ _ h => h) ?y13_40 (by assumption) ?r13_40
    case y13_40 => (refine Or.inl ⟨?_, ?_⟩; rfl; ((intro w hSw; (try dsimp only at hSw); go_simp) <;> with_reducible rfl))
    (try simp only [Act.put, List.setIfInBounds_toArray, List.set_cons_zero, List.set_cons_succ])
    refine wpAnyH_done (by kernel_rfl) ?_ _
    refine NoPanic.normal ?_
    go_wp2_with fail
    refine (keys_c _ (keysB key next) _ (HX4.out.upd0 (by go_split_ands; assumption)).rb (by rw [keysB_length]; decide)).mono ?_
    rintro e w6 ⟨rfl, hU6⟩
    rw [keysP_back hk hn]
    dsimp only
    go_wp2_with fail
    refine (known_c _ (HT.out.upd0 ((HU4.out.trans (by go_split_ands; assumption)).trans hU6))).mono ?_
    rintro e w7 ⟨rfl, hU7⟩
    go_wp2_with fail
    go_ret
    exact ⟨rfl, ((HU4.out.trans (by go_split_ands; assumption)).trans hU6).trans hU7⟩
end Go.Proofs.YtpkljdjdapgmjaaDoor
