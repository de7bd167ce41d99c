/- Chapter 15's table of operations, and cdb.find. Its lists were printed by a program (wip/printcdb.py). -/
import Derived.Test.YtpkljdjdapgmjaaDoorFm
namespace Go.Proofs.YtpkljdjdapgmjaaDoor
open Go.RowKit
set_option linter.unusedVariables false
set_option linter.unusedSimpArgs false

/-- The operations, and where their fields stand: service, vital, page, kind, lba, length; each: its first byte, how many bytes (0: there is no such field), how many bits (0: all). -/
def rowsL : List (Int × List (Nat × Nat × Nat)) := [
  (0, [(0, 0, 0), (0, 0, 0), (0, 0, 0), (0, 0, 0), (0, 0, 0), (0, 0, 0)]),
  (37, [(0, 0, 0), (0, 0, 0), (0, 0, 0), (0, 0, 0), (0, 0, 0), (0, 0, 0)]),
  (3, [(0, 0, 0), (0, 0, 0), (0, 0, 0), (0, 0, 0), (0, 0, 0), (4, 1, 0)]),
  (18, [(0, 0, 0), (1, 1, 1), (2, 1, 0), (0, 0, 0), (0, 0, 0), (3, 2, 0)]),
  (40, [(0, 0, 0), (0, 0, 0), (0, 0, 0), (0, 0, 0), (2, 4, 0), (7, 2, 0)]),
  (42, [(0, 0, 0), (0, 0, 0), (0, 0, 0), (0, 0, 0), (2, 4, 0), (7, 2, 0)]),
  (53, [(0, 0, 0), (0, 0, 0), (0, 0, 0), (0, 0, 0), (2, 4, 0), (7, 2, 0)]),
  (66, [(0, 0, 0), (0, 0, 0), (0, 0, 0), (0, 0, 0), (0, 0, 0), (7, 2, 0)]),
  (94, [(1, 1, 5), (0, 0, 0), (0, 0, 0), (0, 0, 0), (0, 0, 0), (7, 2, 0)]),
  (95, [(1, 1, 5), (0, 0, 0), (0, 0, 0), (2, 1, 4), (0, 0, 0), (5, 4, 0)]),
  (136, [(0, 0, 0), (0, 0, 0), (0, 0, 0), (0, 0, 0), (2, 8, 0), (10, 4, 0)]),
  (138, [(0, 0, 0), (0, 0, 0), (0, 0, 0), (0, 0, 0), (2, 8, 0), (10, 4, 0)]),
  (160, [(0, 0, 0), (0, 0, 0), (2, 1, 0), (0, 0, 0), (0, 0, 0), (6, 4, 0)]),
  (163, [(1, 1, 5), (0, 0, 0), (0, 0, 0), (0, 0, 0), (0, 0, 0), (6, 4, 0)])]
/-- An operation's places. -/
def placesOf (op : Int) : Option (List (Nat × Nat × Nat)) := (rowsL.find? (fun x => x.1 == op)).map (·.2)
def placeCells (l : List (Nat × Nat × Nat)) : List Value := l.flatMap fun p => [.int .i64 (p.1 : Int), .int .i64 (p.2.1 : Int), .int .i64 (p.2.2 : Int)]
/-- The table's cells. -/
def rowsTab : Array Value := #[
  .int .i64 0, .int .i64 0, .int .i64 0, .int .i64 0, .int .i64 0, .int .i64 0, .int .i64 0, .int .i64 0, .int .i64 0, .int .i64 0, .int .i64 0, .int .i64 0, .int .i64 0, .int .i64 0, .int .i64 0, .int .i64 0, .int .i64 0, .int .i64 0, .int .i64 0,
  .int .i64 37, .int .i64 0, .int .i64 0, .int .i64 0, .int .i64 0, .int .i64 0, .int .i64 0, .int .i64 0, .int .i64 0, .int .i64 0, .int .i64 0, .int .i64 0, .int .i64 0, .int .i64 0, .int .i64 0, .int .i64 0, .int .i64 0, .int .i64 0, .int .i64 0,
  .int .i64 3, .int .i64 0, .int .i64 0, .int .i64 0, .int .i64 0, .int .i64 0, .int .i64 0, .int .i64 0, .int .i64 0, .int .i64 0, .int .i64 0, .int .i64 0, .int .i64 0, .int .i64 0, .int .i64 0, .int .i64 0, .int .i64 4, .int .i64 1, .int .i64 0,
  .int .i64 18, .int .i64 0, .int .i64 0, .int .i64 0, .int .i64 1, .int .i64 1, .int .i64 1, .int .i64 2, .int .i64 1, .int .i64 0, .int .i64 0, .int .i64 0, .int .i64 0, .int .i64 0, .int .i64 0, .int .i64 0, .int .i64 3, .int .i64 2, .int .i64 0,
  .int .i64 40, .int .i64 0, .int .i64 0, .int .i64 0, .int .i64 0, .int .i64 0, .int .i64 0, .int .i64 0, .int .i64 0, .int .i64 0, .int .i64 0, .int .i64 0, .int .i64 0, .int .i64 2, .int .i64 4, .int .i64 0, .int .i64 7, .int .i64 2, .int .i64 0,
  .int .i64 42, .int .i64 0, .int .i64 0, .int .i64 0, .int .i64 0, .int .i64 0, .int .i64 0, .int .i64 0, .int .i64 0, .int .i64 0, .int .i64 0, .int .i64 0, .int .i64 0, .int .i64 2, .int .i64 4, .int .i64 0, .int .i64 7, .int .i64 2, .int .i64 0,
  .int .i64 53, .int .i64 0, .int .i64 0, .int .i64 0, .int .i64 0, .int .i64 0, .int .i64 0, .int .i64 0, .int .i64 0, .int .i64 0, .int .i64 0, .int .i64 0, .int .i64 0, .int .i64 2, .int .i64 4, .int .i64 0, .int .i64 7, .int .i64 2, .int .i64 0,
  .int .i64 66, .int .i64 0, .int .i64 0, .int .i64 0, .int .i64 0, .int .i64 0, .int .i64 0, .int .i64 0, .int .i64 0, .int .i64 0, .int .i64 0, .int .i64 0, .int .i64 0, .int .i64 0, .int .i64 0, .int .i64 0, .int .i64 7, .int .i64 2, .int .i64 0,
  .int .i64 94, .int .i64 1, .int .i64 1, .int .i64 5, .int .i64 0, .int .i64 0, .int .i64 0, .int .i64 0, .int .i64 0, .int .i64 0, .int .i64 0, .int .i64 0, .int .i64 0, .int .i64 0, .int .i64 0, .int .i64 0, .int .i64 7, .int .i64 2, .int .i64 0,
  .int .i64 95, .int .i64 1, .int .i64 1, .int .i64 5, .int .i64 0, .int .i64 0, .int .i64 0, .int .i64 0, .int .i64 0, .int .i64 0, .int .i64 2, .int .i64 1, .int .i64 4, .int .i64 0, .int .i64 0, .int .i64 0, .int .i64 5, .int .i64 4, .int .i64 0,
  .int .i64 136, .int .i64 0, .int .i64 0, .int .i64 0, .int .i64 0, .int .i64 0, .int .i64 0, .int .i64 0, .int .i64 0, .int .i64 0, .int .i64 0, .int .i64 0, .int .i64 0, .int .i64 2, .int .i64 8, .int .i64 0, .int .i64 10, .int .i64 4, .int .i64 0,
  .int .i64 138, .int .i64 0, .int .i64 0, .int .i64 0, .int .i64 0, .int .i64 0, .int .i64 0, .int .i64 0, .int .i64 0, .int .i64 0, .int .i64 0, .int .i64 0, .int .i64 0, .int .i64 2, .int .i64 8, .int .i64 0, .int .i64 10, .int .i64 4, .int .i64 0,
  .int .i64 160, .int .i64 0, .int .i64 0, .int .i64 0, .int .i64 0, .int .i64 0, .int .i64 0, .int .i64 2, .int .i64 1, .int .i64 0, .int .i64 0, .int .i64 0, .int .i64 0, .int .i64 0, .int .i64 0, .int .i64 0, .int .i64 6, .int .i64 4, .int .i64 0,
  .int .i64 163, .int .i64 1, .int .i64 1, .int .i64 5, .int .i64 0, .int .i64 0, .int .i64 0, .int .i64 0, .int .i64 0, .int .i64 0, .int .i64 0, .int .i64 0, .int .i64 0, .int .i64 0, .int .i64 0, .int .i64 0, .int .i64 6, .int .i64 4, .int .i64 0]
/-- The table lies in the world as the program's text lays it. -/
def Tab (w : World) : Prop := ∃ T fr, w.heap[1]? = some (.cells rowsTab T fr)
theorem Tab.upd {w w' : World} (h : Tab w) {S : List Nat} (hu : Upd S w w') (hn : 1 ∉ S) : Tab w' := by
  obtain ⟨T, fr, h⟩ := h
  exact ⟨T, fr, (hu.block _ (Array.getElem?_eq_some_iff.1 h).1 hn).trans h⟩
theorem Tab.upd0 {w w' : World} (h : Tab w) (hu : Upd [] w w') : Tab w' := h.upd hu (by simp)
/-- Row k of the list; its cells as an array. -/
def rowOfK (k : Nat) : Int × List (Nat × Nat × Nat) := rowsL.getD k (0, [])
def rowArr (k : Nat) : Array Value := ((.int .i64 (rowOfK k).1 : Value) :: placeCells (rowOfK k).2).toArray
theorem idxK (k : Nat) (hk : k < 14) (w : World) : (Instr.index 102 (.agg rowsTab) (.int .i64 (k : Int))).run Tryd.prog w = .ok (.agg (rowArr k)) w := by
  obtain rfl | rfl | rfl | rfl | rfl | rfl | rfl | rfl | rfl | rfl | rfl | rfl | rfl | rfl : k = 0 ∨ k = 1 ∨ k = 2 ∨ k = 3 ∨ k = 4 ∨ k = 5 ∨ k = 6 ∨ k = 7 ∨ k = 8 ∨ k = 9 ∨ k = 10 ∨ k = 11 ∨ k = 12 ∨ k = 13 := by omega
  all_goals kernel_rfl
theorem rowArr_size (k : Nat) (hk : k < 14) : (rowArr k).size = 19 := by
  obtain rfl | rfl | rfl | rfl | rfl | rfl | rfl | rfl | rfl | rfl | rfl | rfl | rfl | rfl : k = 0 ∨ k = 1 ∨ k = 2 ∨ k = 3 ∨ k = 4 ∨ k = 5 ∨ k = 6 ∨ k = 7 ∨ k = 8 ∨ k = 9 ∨ k = 10 ∨ k = 11 ∨ k = 12 ∨ k = 13 := by omega
  all_goals kernel_rfl
theorem rowArr_one (k : Nat) (hk : k < 14) : (rowArr k).all (·.oneCell') = true := by
  obtain rfl | rfl | rfl | rfl | rfl | rfl | rfl | rfl | rfl | rfl | rfl | rfl | rfl | rfl : k = 0 ∨ k = 1 ∨ k = 2 ∨ k = 3 ∨ k = 4 ∨ k = 5 ∨ k = 6 ∨ k = 7 ∨ k = 8 ∨ k = 9 ∨ k = 10 ∨ k = 11 ∨ k = 12 ∨ k = 13 := by omega
  all_goals kernel_rfl
theorem rowOfK_at (k : Nat) (hk : k < 14) : rowsL[k]? = some (rowOfK k) := by
  obtain rfl | rfl | rfl | rfl | rfl | rfl | rfl | rfl | rfl | rfl | rfl | rfl | rfl | rfl : k = 0 ∨ k = 1 ∨ k = 2 ∨ k = 3 ∨ k = 4 ∨ k = 5 ∨ k = 6 ∨ k = 7 ∨ k = 8 ∨ k = 9 ∨ k = 10 ∨ k = 11 ∨ k = 12 ∨ k = 13 := by omega
  all_goals kernel_rfl
theorem placesOf_at (k : Nat) (hk : k < 14) : placesOf (rowOfK k).1 = some (rowOfK k).2 := by
  obtain rfl | rfl | rfl | rfl | rfl | rfl | rfl | rfl | rfl | rfl | rfl | rfl | rfl | rfl : k = 0 ∨ k = 1 ∨ k = 2 ∨ k = 3 ∨ k = 4 ∨ k = 5 ∨ k = 6 ∨ k = 7 ∨ k = 8 ∨ k = 9 ∨ k = 10 ∨ k = 11 ∨ k = 12 ∨ k = 13 := by omega
  all_goals kernel_rfl
theorem rowsSize : (Tryd.prog.info? 102).map (·.size) = some rowsTab.size := by kernel_rfl
theorem rowSize1 : (Tryd.prog.info? 73).map (·.size) = some 19 := by kernel_rfl

set_option maxHeartbeats 1000000 in
/-- The walk, whatever the table holds. -/
theorem find_gen (tab : Array Value) (ra : Nat → Array Value) (r : Nat → Int) (op : Int) (w : World) (T : TypeId) (fr : Nat × Nat) (hT : w.heap[1]? = some (.cells tab T fr)) (hsz : (Tryd.prog.info? 102).map (·.size) = some tab.size)
    (hix : ∀ (k : Nat), k < 14 → ∀ w : World, (Instr.index 102 (.agg tab) (.int .i64 (k : Int))).run Tryd.prog w = .ok (.agg (ra k)) w)
    (hr : ∀ k, k < 14 → (ra k).size = 19 ∧ (ra k).all (·.oneCell') = true ∧ (ra k)[0]? = some (.int .i64 (r k))) :
    Calls Tryd.prog 33 #[.int .i64 op] w (Ret fun v w' => Upd [] w w' ∧ (((∀ k, k < 14 → r k ≠ op) ∧ v = .pointer none) ∨ ∃ k g, k < 14 ∧ r k = op ∧ v = .pointer (some ⟨g, 0, none⟩) ∧ w.heap.size ≤ g ∧ Blk w' g (ra k).toList 73)) := by
  have Hix := Lib.hid hix
  have Hr := Lib.hid hr
  clear hix hr
  go_enter Tryd.func33, Tryd.ntmps33
  go_wp2_with (refine wpList_load_row rfl 102 _ rfl 1 rfl T tab fr _ hT Tryd.underlying102 rfl hsz ?_)
  clear hT hsz
  go_loopw [6] (fun t wr => ∃ k : Nat, k ≤ 14 ∧ t = .int .i64 (k : Int) ∧ Upd [] w wr ∧ ∀ j, j < k → r j ≠ op) (fun t _ => 14 - (intOf t).toNat)
  case atStart => exact ⟨0, by omega, rfl, Upd.refl _ _, fun j hj => by omega⟩
  case round =>
    obtain ⟨k, hk, rfl, hU, hN⟩ := hrel
    have HU := Lib.hid hU
    have HN := Lib.hid hN
    clear hU hN
    by_cases hlt : k < 14
    · have ix := Hix.out k hlt
      obtain ⟨h1, h2, h3⟩ := Hr.out k hlt
      have H1 := Lib.hid h1
      have H2 := Lib.hid h2
      have HB := Lib.hid (Blk.new wr (ra k).toList 73)
      have hc := (Blk.new wr (ra k).toList 73).cell 0 (.int .i64 (r k)) (by simpa using h3)
      simp only [Array.toArray_toList] at hc
      clear h1 h2 h3
      by_cases he : op = r k
      · subst he
        go_wp2_with (with_reducible refine wpList_store_new rfl rfl 73 (.tmp 4) (.tmp 8) rfl _ (ra k) _ ?qx ?qy ?q1 ?q2 ?q3 ?_)
        case qx => rfl
        case qy => rfl
        case q1 => rw [H1.out]; exact rowSize1
        case q2 => rw [H1.out]; rfl
        case q3 => exact H2.out
        go_wp2
        go_ret
        exact ⟨_, rfl, HU.out.alloc _, .inr ⟨k, _, hlt, rfl, rfl, HU.out.size, by simpa using HB.out⟩⟩
      · have hb : (r k == op) = false := by simpa using fun h => he h.symm
        go_wp2_with (with_reducible refine wpList_store_new rfl rfl 73 (.tmp 4) (.tmp 8) rfl _ (ra k) _ ?qx ?qy ?q1 ?q2 ?q3 ?_)
        case qx => rfl
        case qy => rfl
        case q1 => rw [H1.out]; exact rowSize1
        case q2 => rw [H1.out]; rfl
        case q3 => exact H2.out
        go_wp2
        go_roundw
        case rel =>
          refine ⟨k + 1, by omega, by go_num, HU.out.alloc _, fun j hj => ?_⟩
          by_cases e : j = k
          · subst e; exact fun h => he h.symm
          · exact HN.out j (by omega)
        case measure => simp [intOf]; omega
    · obtain rfl : k = 14 := by omega
      go_wp2
      go_ret
      exact ⟨_, rfl, HU.out, .inl ⟨HN.out, rfl⟩⟩

theorem find_c (op : Int) (w : World) (hT : Tab w) :
    Calls Tryd.prog 33 #[.int .i64 op] w (Ret fun r w' => Upd [] w w' ∧ ((placesOf op = none ∧ r = .pointer none) ∨ ∃ l g, placesOf op = some l ∧ r = .pointer (some ⟨g, 0, Option.none⟩) ∧ w.heap.size ≤ g ∧ Blk w' g (.int .i64 op :: placeCells l) 73)) := by
  obtain ⟨T, fr, hT⟩ := hT
  refine (find_gen rowsTab rowArr (fun k => (rowOfK k).1) op w T fr hT rowsSize idxK (fun k hk => ⟨rowArr_size k hk, rowArr_one k hk, rfl⟩)).mono ?_
  rintro e w' ⟨v, rfl, hU, h | h⟩
  · refine ⟨v, rfl, hU, .inl ⟨?_, h.2⟩⟩
    unfold placesOf
    rw [Option.map_eq_none_iff, List.find?_eq_none]
    intro x hx
    obtain ⟨j, hj, he⟩ := List.mem_iff_getElem.1 hx
    have hj' : j < 14 := hj
    have h1 := h.1 j hj'
    have h2 := rowOfK_at j hj'
    rw [List.getElem?_eq_getElem hj, he] at h2
    injection h2 with h2
    rw [h2]
    simpa using h1
  · obtain ⟨k, g, hk, he, hv, hg, hb⟩ := h
    refine ⟨v, rfl, hU, .inr ⟨(rowOfK k).2, g, by rw [← he]; exact placesOf_at k hk, hv, hg, ?_⟩⟩
    rw [← he]
    exact hb
end Go.Proofs.YtpkljdjdapgmjaaDoor
