/- Contracts of the reference of layer 15 (caissonref15): rows, sizes, fields. -/
import Derived.Test.YtpkljdjdapgmjaaDoorRp
import Derived.Test.YtpkljdjdapgmjaaDoorCe
namespace Go.Proofs.YtpkljdjdapgmjaaDoor
open Go.RowKit
set_option linter.unusedVariables false
set_option linter.unusedSimpArgs false

/-- An operation's places; none: all 0. -/
def rowL (op : Int) : List (Nat × Nat × Nat) := (placesOf op).getD (List.replicate 6 (0, 0, 0))
theorem rowSizeR : (Tryd.prog.info? 81).map (·.size) = some 18 := by kernel_rfl
theorem placeSizeR : (Tryd.prog.info? 79).map (·.size) = some 3 := by kernel_rfl
theorem cdbSizeR : (Tryd.prog.info? 24).map (·.size) = some 7 := by kernel_rfl

/-- The row's cells are returned. -/
theorem ret_row {w : World} {tmps : Array Value} {g : Nat} {cs : List Value} {b : Bool} {t : TypeId} (hB : Blk w g cs t) (hl : cs.length = 18) (h2 : tmps.getD 2 undef = .pointer (some ⟨g, 0, none⟩)) (h3 : tmps.getD 3 undef = .bool b) :
    (results Tryd.f39 tmps).run Tryd.prog w = .ok (.tuple #[.agg cs.toArray, .bool b]) w := by
  have hld := run_loadVar_cells (P := Tryd.prog) w g 0 81 cs _ (fun j v hv => by rw [Nat.zero_add]; exact hB.cell j v hv) Tryd.underlying81 rfl (by rw [rowSizeR, hl])
  rw [Array.getD_eq_getD_getElem?] at h2 h3
  simp [results, Tryd.results39, h2, h3, asAddr, hld]

theorem rowOf_0 (w : World) : Calls Tryd.prog 39 #[.int .i64 0] w fun e w' => e = .returned (.tuple #[.agg (placeCells [(0, 0, 0), (0, 0, 0), (0, 0, 0), (0, 0, 0), (0, 0, 0), (0, 0, 0)]).toArray, .bool true]) ∧ Upd [] w w' := by
  go_enter Tryd.func39, Tryd.ntmps39
  go_wp2_with (with_reducible refine wpList_store_new rfl rfl _ _ _ rfl _ (placeCells [(0, 0, 0), (0, 0, 0), (0, 0, 0), (0, 0, 0), (0, 0, 0), (0, 0, 0)]).toArray _ ?qx ?qy ?q1 ?q2 ?q3 ?_)
  case qx => rfl
  case qy => rfl
  case q1 => exact rowSizeR
  case q2 => rfl
  case q3 => kernel_rfl
  go_wp2_with fail
  refine bodyPost_ret (ret_row (Blk.new w (placeCells [(0, 0, 0), (0, 0, 0), (0, 0, 0), (0, 0, 0), (0, 0, 0), (0, 0, 0)]) _) rfl rfl rfl) rfl ?_
  exact ⟨rfl, (Upd.refl _ _).alloc _⟩
theorem rowOf_37 (w : World) : Calls Tryd.prog 39 #[.int .i64 37] w fun e w' => e = .returned (.tuple #[.agg (placeCells [(0, 0, 0), (0, 0, 0), (0, 0, 0), (0, 0, 0), (0, 0, 0), (0, 0, 0)]).toArray, .bool true]) ∧ Upd [] w w' := by
  go_enter Tryd.func39, Tryd.ntmps39
  go_wp2_with (with_reducible refine wpList_store_new rfl rfl _ _ _ rfl _ (placeCells [(0, 0, 0), (0, 0, 0), (0, 0, 0), (0, 0, 0), (0, 0, 0), (0, 0, 0)]).toArray _ ?qx ?qy ?q1 ?q2 ?q3 ?_)
  case qx => rfl
  case qy => rfl
  case q1 => exact rowSizeR
  case q2 => rfl
  case q3 => kernel_rfl
  go_wp2_with fail
  refine bodyPost_ret (ret_row (Blk.new w (placeCells [(0, 0, 0), (0, 0, 0), (0, 0, 0), (0, 0, 0), (0, 0, 0), (0, 0, 0)]) _) rfl rfl rfl) rfl ?_
  exact ⟨rfl, (Upd.refl _ _).alloc _⟩
theorem rowOf_3 (w : World) : Calls Tryd.prog 39 #[.int .i64 3] w fun e w' => e = .returned (.tuple #[.agg (placeCells [(0, 0, 0), (0, 0, 0), (0, 0, 0), (0, 0, 0), (0, 0, 0), (4, 1, 0)]).toArray, .bool true]) ∧ Upd [] w w' := by
  go_enter Tryd.func39, Tryd.ntmps39
  go_wp2_with (with_reducible refine wpList_store_new rfl rfl _ _ _ rfl _ (placeCells [(0, 0, 0), (0, 0, 0), (0, 0, 0), (0, 0, 0), (0, 0, 0), (4, 1, 0)]).toArray _ ?qx ?qy ?q1 ?q2 ?q3 ?_)
  case qx => rfl
  case qy => rfl
  case q1 => exact rowSizeR
  case q2 => rfl
  case q3 => kernel_rfl
  go_wp2_with fail
  refine bodyPost_ret (ret_row (Blk.new w (placeCells [(0, 0, 0), (0, 0, 0), (0, 0, 0), (0, 0, 0), (0, 0, 0), (4, 1, 0)]) _) rfl rfl rfl) rfl ?_
  exact ⟨rfl, (Upd.refl _ _).alloc _⟩
theorem rowOf_18 (w : World) : Calls Tryd.prog 39 #[.int .i64 18] w fun e w' => e = .returned (.tuple #[.agg (placeCells [(0, 0, 0), (1, 1, 1), (2, 1, 0), (0, 0, 0), (0, 0, 0), (3, 2, 0)]).toArray, .bool true]) ∧ Upd [] w w' := by
  go_enter Tryd.func39, Tryd.ntmps39
  go_wp2_with (with_reducible refine wpList_store_new rfl rfl _ _ _ rfl _ (placeCells [(0, 0, 0), (1, 1, 1), (2, 1, 0), (0, 0, 0), (0, 0, 0), (3, 2, 0)]).toArray _ ?qx ?qy ?q1 ?q2 ?q3 ?_)
  case qx => rfl
  case qy => rfl
  case q1 => exact rowSizeR
  case q2 => rfl
  case q3 => kernel_rfl
  go_wp2_with fail
  refine bodyPost_ret (ret_row (Blk.new w (placeCells [(0, 0, 0), (1, 1, 1), (2, 1, 0), (0, 0, 0), (0, 0, 0), (3, 2, 0)]) _) rfl rfl rfl) rfl ?_
  exact ⟨rfl, (Upd.refl _ _).alloc _⟩
theorem rowOf_40 (w : World) : Calls Tryd.prog 39 #[.int .i64 40] w fun e w' => e = .returned (.tuple #[.agg (placeCells [(0, 0, 0), (0, 0, 0), (0, 0, 0), (0, 0, 0), (2, 4, 0), (7, 2, 0)]).toArray, .bool true]) ∧ Upd [] w w' := by
  go_enter Tryd.func39, Tryd.ntmps39
  go_wp2_with (with_reducible refine wpList_store_new rfl rfl _ _ _ rfl _ (placeCells [(0, 0, 0), (0, 0, 0), (0, 0, 0), (0, 0, 0), (2, 4, 0), (7, 2, 0)]).toArray _ ?qx ?qy ?q1 ?q2 ?q3 ?_)
  case qx => rfl
  case qy => rfl
  case q1 => exact rowSizeR
  case q2 => rfl
  case q3 => kernel_rfl
  go_wp2_with fail
  refine bodyPost_ret (ret_row (Blk.new w (placeCells [(0, 0, 0), (0, 0, 0), (0, 0, 0), (0, 0, 0), (2, 4, 0), (7, 2, 0)]) _) rfl rfl rfl) rfl ?_
  exact ⟨rfl, (Upd.refl _ _).alloc _⟩
theorem rowOf_42 (w : World) : Calls Tryd.prog 39 #[.int .i64 42] w fun e w' => e = .returned (.tuple #[.agg (placeCells [(0, 0, 0), (0, 0, 0), (0, 0, 0), (0, 0, 0), (2, 4, 0), (7, 2, 0)]).toArray, .bool true]) ∧ Upd [] w w' := by
  go_enter Tryd.func39, Tryd.ntmps39
  go_wp2_with (with_reducible refine wpList_store_new rfl rfl _ _ _ rfl _ (placeCells [(0, 0, 0), (0, 0, 0), (0, 0, 0), (0, 0, 0), (2, 4, 0), (7, 2, 0)]).toArray _ ?qx ?qy ?q1 ?q2 ?q3 ?_)
  case qx => rfl
  case qy => rfl
  case q1 => exact rowSizeR
  case q2 => rfl
  case q3 => kernel_rfl
  go_wp2_with fail
  refine bodyPost_ret (ret_row (Blk.new w (placeCells [(0, 0, 0), (0, 0, 0), (0, 0, 0), (0, 0, 0), (2, 4, 0), (7, 2, 0)]) _) rfl rfl rfl) rfl ?_
  exact ⟨rfl, (Upd.refl _ _).alloc _⟩
theorem rowOf_53 (w : World) : Calls Tryd.prog 39 #[.int .i64 53] w fun e w' => e = .returned (.tuple #[.agg (placeCells [(0, 0, 0), (0, 0, 0), (0, 0, 0), (0, 0, 0), (2, 4, 0), (7, 2, 0)]).toArray, .bool true]) ∧ Upd [] w w' := by
  go_enter Tryd.func39, Tryd.ntmps39
  go_wp2_with (with_reducible refine wpList_store_new rfl rfl _ _ _ rfl _ (placeCells [(0, 0, 0), (0, 0, 0), (0, 0, 0), (0, 0, 0), (2, 4, 0), (7, 2, 0)]).toArray _ ?qx ?qy ?q1 ?q2 ?q3 ?_)
  case qx => rfl
  case qy => rfl
  case q1 => exact rowSizeR
  case q2 => rfl
  case q3 => kernel_rfl
  go_wp2_with fail
  refine bodyPost_ret (ret_row (Blk.new w (placeCells [(0, 0, 0), (0, 0, 0), (0, 0, 0), (0, 0, 0), (2, 4, 0), (7, 2, 0)]) _) rfl rfl rfl) rfl ?_
  exact ⟨rfl, (Upd.refl _ _).alloc _⟩
theorem rowOf_66 (w : World) : Calls Tryd.prog 39 #[.int .i64 66] w fun e w' => e = .returned (.tuple #[.agg (placeCells [(0, 0, 0), (0, 0, 0), (0, 0, 0), (0, 0, 0), (0, 0, 0), (7, 2, 0)]).toArray, .bool true]) ∧ Upd [] w w' := by
  go_enter Tryd.func39, Tryd.ntmps39
  go_wp2_with (with_reducible refine wpList_store_new rfl rfl _ _ _ rfl _ (placeCells [(0, 0, 0), (0, 0, 0), (0, 0, 0), (0, 0, 0), (0, 0, 0), (7, 2, 0)]).toArray _ ?qx ?qy ?q1 ?q2 ?q3 ?_)
  case qx => rfl
  case qy => rfl
  case q1 => exact rowSizeR
  case q2 => rfl
  case q3 => kernel_rfl
  go_wp2_with fail
  refine bodyPost_ret (ret_row (Blk.new w (placeCells [(0, 0, 0), (0, 0, 0), (0, 0, 0), (0, 0, 0), (0, 0, 0), (7, 2, 0)]) _) rfl rfl rfl) rfl ?_
  exact ⟨rfl, (Upd.refl _ _).alloc _⟩
theorem rowOf_94 (w : World) : Calls Tryd.prog 39 #[.int .i64 94] w fun e w' => e = .returned (.tuple #[.agg (placeCells [(1, 1, 5), (0, 0, 0), (0, 0, 0), (0, 0, 0), (0, 0, 0), (7, 2, 0)]).toArray, .bool true]) ∧ Upd [] w w' := by
  go_enter Tryd.func39, Tryd.ntmps39
  go_wp2_with (with_reducible refine wpList_store_new rfl rfl _ _ _ rfl _ (placeCells [(1, 1, 5), (0, 0, 0), (0, 0, 0), (0, 0, 0), (0, 0, 0), (7, 2, 0)]).toArray _ ?qx ?qy ?q1 ?q2 ?q3 ?_)
  case qx => rfl
  case qy => rfl
  case q1 => exact rowSizeR
  case q2 => rfl
  case q3 => kernel_rfl
  go_wp2_with fail
  refine bodyPost_ret (ret_row (Blk.new w (placeCells [(1, 1, 5), (0, 0, 0), (0, 0, 0), (0, 0, 0), (0, 0, 0), (7, 2, 0)]) _) rfl rfl rfl) rfl ?_
  exact ⟨rfl, (Upd.refl _ _).alloc _⟩
theorem rowOf_95 (w : World) : Calls Tryd.prog 39 #[.int .i64 95] w fun e w' => e = .returned (.tuple #[.agg (placeCells [(1, 1, 5), (0, 0, 0), (0, 0, 0), (2, 1, 4), (0, 0, 0), (5, 4, 0)]).toArray, .bool true]) ∧ Upd [] w w' := by
  go_enter Tryd.func39, Tryd.ntmps39
  go_wp2_with (with_reducible refine wpList_store_new rfl rfl _ _ _ rfl _ (placeCells [(1, 1, 5), (0, 0, 0), (0, 0, 0), (2, 1, 4), (0, 0, 0), (5, 4, 0)]).toArray _ ?qx ?qy ?q1 ?q2 ?q3 ?_)
  case qx => rfl
  case qy => rfl
  case q1 => exact rowSizeR
  case q2 => rfl
  case q3 => kernel_rfl
  go_wp2_with fail
  refine bodyPost_ret (ret_row (Blk.new w (placeCells [(1, 1, 5), (0, 0, 0), (0, 0, 0), (2, 1, 4), (0, 0, 0), (5, 4, 0)]) _) rfl rfl rfl) rfl ?_
  exact ⟨rfl, (Upd.refl _ _).alloc _⟩
theorem rowOf_136 (w : World) : Calls Tryd.prog 39 #[.int .i64 136] w fun e w' => e = .returned (.tuple #[.agg (placeCells [(0, 0, 0), (0, 0, 0), (0, 0, 0), (0, 0, 0), (2, 8, 0), (10, 4, 0)]).toArray, .bool true]) ∧ Upd [] w w' := by
  go_enter Tryd.func39, Tryd.ntmps39
  go_wp2_with (with_reducible refine wpList_store_new rfl rfl _ _ _ rfl _ (placeCells [(0, 0, 0), (0, 0, 0), (0, 0, 0), (0, 0, 0), (2, 8, 0), (10, 4, 0)]).toArray _ ?qx ?qy ?q1 ?q2 ?q3 ?_)
  case qx => rfl
  case qy => rfl
  case q1 => exact rowSizeR
  case q2 => rfl
  case q3 => kernel_rfl
  go_wp2_with fail
  refine bodyPost_ret (ret_row (Blk.new w (placeCells [(0, 0, 0), (0, 0, 0), (0, 0, 0), (0, 0, 0), (2, 8, 0), (10, 4, 0)]) _) rfl rfl rfl) rfl ?_
  exact ⟨rfl, (Upd.refl _ _).alloc _⟩
theorem rowOf_138 (w : World) : Calls Tryd.prog 39 #[.int .i64 138] w fun e w' => e = .returned (.tuple #[.agg (placeCells [(0, 0, 0), (0, 0, 0), (0, 0, 0), (0, 0, 0), (2, 8, 0), (10, 4, 0)]).toArray, .bool true]) ∧ Upd [] w w' := by
  go_enter Tryd.func39, Tryd.ntmps39
  go_wp2_with (with_reducible refine wpList_store_new rfl rfl _ _ _ rfl _ (placeCells [(0, 0, 0), (0, 0, 0), (0, 0, 0), (0, 0, 0), (2, 8, 0), (10, 4, 0)]).toArray _ ?qx ?qy ?q1 ?q2 ?q3 ?_)
  case qx => rfl
  case qy => rfl
  case q1 => exact rowSizeR
  case q2 => rfl
  case q3 => kernel_rfl
  go_wp2_with fail
  refine bodyPost_ret (ret_row (Blk.new w (placeCells [(0, 0, 0), (0, 0, 0), (0, 0, 0), (0, 0, 0), (2, 8, 0), (10, 4, 0)]) _) rfl rfl rfl) rfl ?_
  exact ⟨rfl, (Upd.refl _ _).alloc _⟩
theorem rowOf_160 (w : World) : Calls Tryd.prog 39 #[.int .i64 160] w fun e w' => e = .returned (.tuple #[.agg (placeCells [(0, 0, 0), (0, 0, 0), (2, 1, 0), (0, 0, 0), (0, 0, 0), (6, 4, 0)]).toArray, .bool true]) ∧ Upd [] w w' := by
  go_enter Tryd.func39, Tryd.ntmps39
  go_wp2_with (with_reducible refine wpList_store_new rfl rfl _ _ _ rfl _ (placeCells [(0, 0, 0), (0, 0, 0), (2, 1, 0), (0, 0, 0), (0, 0, 0), (6, 4, 0)]).toArray _ ?qx ?qy ?q1 ?q2 ?q3 ?_)
  case qx => rfl
  case qy => rfl
  case q1 => exact rowSizeR
  case q2 => rfl
  case q3 => kernel_rfl
  go_wp2_with fail
  refine bodyPost_ret (ret_row (Blk.new w (placeCells [(0, 0, 0), (0, 0, 0), (2, 1, 0), (0, 0, 0), (0, 0, 0), (6, 4, 0)]) _) rfl rfl rfl) rfl ?_
  exact ⟨rfl, (Upd.refl _ _).alloc _⟩
theorem rowOf_163 (w : World) : Calls Tryd.prog 39 #[.int .i64 163] w fun e w' => e = .returned (.tuple #[.agg (placeCells [(1, 1, 5), (0, 0, 0), (0, 0, 0), (0, 0, 0), (0, 0, 0), (6, 4, 0)]).toArray, .bool true]) ∧ Upd [] w w' := by
  go_enter Tryd.func39, Tryd.ntmps39
  go_wp2_with (with_reducible refine wpList_store_new rfl rfl _ _ _ rfl _ (placeCells [(1, 1, 5), (0, 0, 0), (0, 0, 0), (0, 0, 0), (0, 0, 0), (6, 4, 0)]).toArray _ ?qx ?qy ?q1 ?q2 ?q3 ?_)
  case qx => rfl
  case qy => rfl
  case q1 => exact rowSizeR
  case q2 => rfl
  case q3 => kernel_rfl
  go_wp2_with fail
  refine bodyPost_ret (ret_row (Blk.new w (placeCells [(1, 1, 5), (0, 0, 0), (0, 0, 0), (0, 0, 0), (0, 0, 0), (6, 4, 0)]) _) rfl rfl rfl) rfl ?_
  exact ⟨rfl, (Upd.refl _ _).alloc _⟩

theorem rowOf_c (op : Int) (w : World) :
    Calls Tryd.prog 39 #[.int .i64 op] w fun e w' => e = .returned (.tuple #[.agg (placeCells (rowL op)).toArray, .bool (placesOf op).isSome]) ∧ Upd [] w w' := by
  cases hp : placesOf op with
  | none =>
    have hne : ∀ y ∈ rowsL, y.1 ≠ op := by
      intro y hy he
      unfold placesOf at hp
      rw [Option.map_eq_none_iff, List.find?_eq_none] at hp
      have := hp y hy
      simp [he] at this
    have hr : rowL op = List.replicate 6 (0, 0, 0) := by unfold rowL; rw [hp]; rfl
    have n1 : (op == 0) = false ∧ (op == 37) = false ∧ (op == 3) = false ∧ (op == 18) = false ∧ (op == 40) = false ∧ (op == 42) = false ∧ (op == 53) = false ∧ (op == 66) = false ∧ (op == 94) = false ∧ (op == 95) = false ∧ (op == 136) = false ∧ (op == 138) = false ∧ (op == 160) = false ∧ (op == 163) = false := by
      simp only [beq_eq_false_iff_ne]
      simp only [rowsL, List.mem_cons, List.not_mem_nil, or_false, forall_eq_or_imp, forall_eq] at hne
      omega
    obtain ⟨z1, z2, z3, z4, z5, z6, z7, z8, z9, z10, z11, z12, z13, z14⟩ := n1
    rw [hr]
    have HP := Lib.hid hp
    clear hp hr hne
    go_enter Tryd.func39, Tryd.ntmps39
    go_wp2_with (with_reducible refine wpList_store_new rfl rfl _ _ _ rfl _ (placeCells (List.replicate 6 (0, 0, 0))).toArray _ ?qx ?qy ?q1 ?q2 ?q3 ?_)
    case qx => rfl
    case qy => rfl
    case q1 => exact rowSizeR
    case q2 => rfl
    case q3 => kernel_rfl
    go_wp2_with fail
    refine bodyPost_ret (ret_row (Blk.new w (placeCells (List.replicate 6 (0, 0, 0))) _) rfl rfl rfl) rfl ?_
    exact ⟨rfl, (Upd.refl _ _).alloc _⟩
  | some l =>
    have hr : rowL op = l := by unfold rowL; rw [hp]; rfl
    have hm := placesOf_mem hp
    rw [hr]
    clear hr
    obtain rfl | rfl | rfl | rfl | rfl | rfl | rfl | rfl | rfl | rfl | rfl | rfl | rfl | rfl := hm
    all_goals obtain rfl := Option.some.inj hp.symm
    · exact rowOf_0 w
    · exact rowOf_37 w
    · exact rowOf_3 w
    · exact rowOf_18 w
    · exact rowOf_40 w
    · exact rowOf_42 w
    · exact rowOf_53 w
    · exact rowOf_66 w
    · exact rowOf_94 w
    · exact rowOf_95 w
    · exact rowOf_136 w
    · exact rowOf_138 w
    · exact rowOf_160 w
    · exact rowOf_163 w

/-- most. -/
theorem most_c1 (n : Int) (w : World) :
    Calls Tryd.prog 42 #[.int .i64 n, .int .i64 1] w fun e w' => e = .returned (.int .i64 (bytesB n 1)) ∧ w = w' := by
  go_enter Tryd.func42, Tryd.ntmps42
  go_wp2
  all_goals
    go_ret
    exact ⟨ret_int (by unfold bytesB; omega), rfl⟩
theorem most_c64 (n : Int) (w : World) :
    Calls Tryd.prog 42 #[.int .i64 n, .int .i64 64] w fun e w' => e = .returned (.int .i64 (bytesB n 64)) ∧ w = w' := by
  go_enter Tryd.func42, Tryd.ntmps42
  go_wp2
  all_goals
    go_ret
    exact ⟨ret_int (by unfold bytesB; omega), rfl⟩
theorem rin_c (c : Cmd) (w : World) :
    Calls Tryd.prog 21 #[c.val] w fun e w' => e = .returned (.int .i64 (inB c)) ∧ Upd [] w w' := by
  obtain ⟨op, service, page, vital, kind, lba, len⟩ := c
  unfold Cmd.val
  dsimp only
  have d0 := (Blk.new w [.int .i64 op, .int .i64 service, .int .i64 page, .bool vital, .int .i64 kind, .int .u64 lba, .int .i64 len] 24).cell 0 _ rfl
  have d6 := (Blk.new w [.int .i64 op, .int .i64 service, .int .i64 page, .bool vital, .int .i64 kind, .int .u64 lba, .int .i64 len] 24).cell 6 _ rfl
  by_cases h : op = 40 ∨ op = 136 ∨ op = 37 ∨ op = 3 ∨ op = 18 ∨ op = 94 ∨ op = 160 ∨ op = 163
  · obtain rfl | rfl | rfl | rfl | rfl | rfl | rfl | rfl := h
    all_goals
      go_enter Tryd.func21, Tryd.ntmps21
      go_wp2_with (first | (go_at_call 42; with_reducible refine (most_c64 _ _).mono ?_; rintro e w1 ⟨rfl, rfl⟩) | (go_at_call 42; with_reducible refine (most_c1 _ _).mono ?_; rintro e w1 ⟨rfl, rfl⟩))
      go_ret
      exact ⟨ret_int rfl, (Upd.refl _ _).alloc _⟩
  · have HH := Lib.hid h
    obtain ⟨e1, e2, e3, e4, e5, e6, e7, e8⟩ : (op == 40) = false ∧ (op == 136) = false ∧ (op == 37) = false ∧ (op == 3) = false ∧ (op == 18) = false ∧ (op == 94) = false ∧ (op == 160) = false ∧ (op == 163) = false := by
      simp only [beq_eq_false_iff_ne]; omega
    clear h
    go_enter Tryd.func21, Tryd.ntmps21
    go_wp2_with fail
    go_ret
    exact ⟨ret_int (by unfold inB; dsimp only; have h := HH.out; rw [if_neg (by omega), if_neg (by omega), if_neg (by omega)]), (Upd.refl _ _).alloc _⟩
theorem rout_c (c : Cmd) (w : World) :
    Calls Tryd.prog 20 #[c.val] w fun e w' => e = .returned (.int .i64 (outB c)) ∧ Upd [] w w' := by
  obtain ⟨op, service, page, vital, kind, lba, len⟩ := c
  unfold Cmd.val
  dsimp only
  have d0 := (Blk.new w [.int .i64 op, .int .i64 service, .int .i64 page, .bool vital, .int .i64 kind, .int .u64 lba, .int .i64 len] 24).cell 0 _ rfl
  have d6 := (Blk.new w [.int .i64 op, .int .i64 service, .int .i64 page, .bool vital, .int .i64 kind, .int .u64 lba, .int .i64 len] 24).cell 6 _ rfl
  by_cases h : op = 42 ∨ op = 138 ∨ op = 66 ∨ op = 95
  · obtain rfl | rfl | rfl | rfl := h
    all_goals
      go_enter Tryd.func20, Tryd.ntmps20
      go_wp2_with (first | (go_at_call 42; with_reducible refine (most_c64 _ _).mono ?_; rintro e w1 ⟨rfl, rfl⟩) | (go_at_call 42; with_reducible refine (most_c1 _ _).mono ?_; rintro e w1 ⟨rfl, rfl⟩))
      go_ret
      exact ⟨ret_int rfl, (Upd.refl _ _).alloc _⟩
  · have HH := Lib.hid h
    obtain ⟨e1, e2, e3, e4⟩ : (op == 42) = false ∧ (op == 138) = false ∧ (op == 66) = false ∧ (op == 95) = false := by
      simp only [beq_eq_false_iff_ne]; omega
    clear h
    go_enter Tryd.func20, Tryd.ntmps20
    go_wp2_with fail
    go_ret
    exact ⟨ret_int (by unfold outB; dsimp only; have h := HH.out; rw [if_neg (by omega), if_neg (by omega)]), (Upd.refl _ _).alloc _⟩

theorem rsize_c (op : Int) (w : World) :
    Calls Tryd.prog 19 #[.int .i64 op] w fun e w' => e = .returned (.int .i64 (sizeB op)) ∧ Upd [] w w' := by
  obtain ⟨cs, hcs⟩ : ∃ cs, cs = (placeCells (rowL op)).toArray := ⟨_, rfl⟩
  have hro := rowOf_c op w
  rw [← hcs] at hro
  have h18 : cs.size = 18 := by
    rw [hcs]
    unfold rowL
    cases hp : placesOf op with
    | none => rfl
    | some l =>
      have h6 := (placesOf_ok hp).1
      have : ∀ l : List (Nat × Nat × Nat), (placeCells l).length = 3 * l.length := placeCells_length
      simp [this, h6]
  have h1 : cs.all (·.oneCell') = true := by
    rw [hcs]
    simp only [placeCells, List.all_toArray, List.all_flatMap, List.all_eq_true]
    intro x _ y hy
    simp only [List.mem_cons, List.not_mem_nil, or_false] at hy
    rcases hy with rfl | rfl | rfl <;> rfl
  have Hro := Lib.hid hro
  have H18 := Lib.hid h18
  have H1 := Lib.hid h1
  clear hro h18 h1 hcs
  cases hp : placesOf op with
  | none =>
    have hs : sizeB op = 0 := by unfold sizeB; rw [if_pos hp]
    have HS := Lib.hid hs
    have HP := Lib.hid hp
    clear hs hp
    go_enter Tryd.func19, Tryd.ntmps19
    go_wp2_with fail
    refine Hro.out.mono ?_
    rintro e w1 ⟨rfl, hU⟩
    rw [HP.out]
    have HU := Lib.hid hU
    clear hU
    go_wp2_with (with_reducible refine wpList_store_new rfl rfl _ _ _ rfl _ cs _ ?qx ?qy ?q1 ?q2 ?q3 ?_)
    case qx => rfl
    case qy => rfl
    case q1 => rw [H18.out]; exact rowSizeR
    case q2 => rw [H18.out]; rfl
    case q3 => exact H1.out
    go_wp2_with fail
    go_ret
    exact ⟨ret_int HS.out.symm, HU.out.alloc _⟩
  | some l =>
    have hm := placesOf_mem hp
    have HP := Lib.hid hp
    clear hp
    obtain rfl | rfl | rfl | rfl | rfl | rfl | rfl | rfl | rfl | rfl | rfl | rfl | rfl | rfl := hm
    all_goals
      go_enter Tryd.func19, Tryd.ntmps19
      go_wp2_with fail
      refine Hro.out.mono ?_
      rintro e w1 ⟨rfl, hU⟩
      rw [HP.out]
      have HU := Lib.hid hU
      clear hU
      go_wp2_with (with_reducible refine wpList_store_new rfl rfl _ _ _ rfl _ cs _ ?qx ?qy ?q1 ?q2 ?q3 ?_)
      case qx => rfl
      case qy => rfl
      case q1 => rw [H18.out]; exact rowSizeR
      case q2 => rw [H18.out]; rfl
      case q3 => exact H1.out
      go_wp2_with fail
      go_ret
      exact ⟨ret_int rfl, HU.out.alloc _⟩

end Go.Proofs.YtpkljdjdapgmjaaDoor
