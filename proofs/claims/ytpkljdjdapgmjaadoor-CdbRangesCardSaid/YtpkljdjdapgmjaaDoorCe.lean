/- Contracts of cdb.bytes, In, Out, Size; the law's given and taken. -/
import Derived.Test.YtpkljdjdapgmjaaDoorCd
namespace Go.Proofs.YtpkljdjdapgmjaaDoor
open Go.RowKit
set_option linter.unusedVariables false
set_option linter.unusedSimpArgs false

def bytesB (n k : Int) : Int := min (max n 0) (1099511627776 / k) * k
theorem bytes_c1 (n : Int) (w : World) :
    Calls Tryd.prog 38 #[.int .i64 n, .int .i64 1] w fun e w' => e = .returned (.int .i64 (bytesB n 1)) ∧ w = w' := by
  go_enter Tryd.func38, Tryd.ntmps38
  go_wp2
  all_goals
    go_ret
    exact ⟨ret_int (by unfold bytesB; omega), rfl⟩
theorem bytes_c64 (n : Int) (w : World) :
    Calls Tryd.prog 38 #[.int .i64 n, .int .i64 64] w fun e w' => e = .returned (.int .i64 (bytesB n 64)) ∧ w = w' := by
  go_enter Tryd.func38, Tryd.ntmps38
  go_wp2
  all_goals
    go_ret
    exact ⟨ret_int (by unfold bytesB; omega), rfl⟩
def inB (c : Cmd) : Int :=
  if c.op = 40 ∨ c.op = 136 then bytesB c.len 64 else if c.op = 37 then 8 else if c.op = 3 ∨ c.op = 18 ∨ c.op = 94 ∨ c.op = 160 ∨ c.op = 163 then bytesB c.len 1 else 0
def outB (c : Cmd) : Int :=
  if c.op = 42 ∨ c.op = 138 then bytesB c.len 64 else if c.op = 66 ∨ c.op = 95 then bytesB c.len 1 else 0

theorem in_c (c : Cmd) (w : World) :
    Calls Tryd.prog 13 #[c.val] w fun e w' => e = .returned (.int .i64 (inB c)) ∧ Upd [] w w' := by
  obtain ⟨op, service, page, vital, kind, lba, len⟩ := c
  unfold Cmd.val
  dsimp only
  have d0 := (Blk.new w [.int .i64 op, .int .i64 service, .int .i64 page, .bool vital, .int .i64 kind, .int .u64 lba, .int .i64 len] 30).cell 0 _ rfl
  have d6 := (Blk.new w [.int .i64 op, .int .i64 service, .int .i64 page, .bool vital, .int .i64 kind, .int .u64 lba, .int .i64 len] 30).cell 6 _ rfl
  by_cases h : op = 40 ∨ op = 136 ∨ op = 37 ∨ op = 3 ∨ op = 18 ∨ op = 94 ∨ op = 160 ∨ op = 163
  · obtain rfl | rfl | rfl | rfl | rfl | rfl | rfl | rfl := h
    all_goals
      go_enter Tryd.func13, Tryd.ntmps13
      go_wp2_with (first | (go_at_call 38; with_reducible refine (bytes_c64 _ _).mono ?_; rintro e w1 ⟨rfl, rfl⟩) | (go_at_call 38; with_reducible refine (bytes_c1 _ _).mono ?_; rintro e w1 ⟨rfl, rfl⟩))
      go_ret
      exact ⟨ret_int rfl, (Upd.refl _ _).alloc _⟩
  · have HH := Lib.hid h
    obtain ⟨e1, e2, e3, e4, e5, e6, e7, e8⟩ : (op == 40) = false ∧ (op == 136) = false ∧ (op == 37) = false ∧ (op == 3) = false ∧ (op == 18) = false ∧ (op == 94) = false ∧ (op == 160) = false ∧ (op == 163) = false := by
      simp only [beq_eq_false_iff_ne]; omega
    clear h
    go_enter Tryd.func13, Tryd.ntmps13
    go_wp2_with fail
    go_ret
    exact ⟨ret_int (by unfold inB; dsimp only; have h := HH.out; rw [if_neg (by omega), if_neg (by omega), if_neg (by omega)]), (Upd.refl _ _).alloc _⟩
theorem out_c (c : Cmd) (w : World) :
    Calls Tryd.prog 14 #[c.val] w fun e w' => e = .returned (.int .i64 (outB c)) ∧ Upd [] w w' := by
  obtain ⟨op, service, page, vital, kind, lba, len⟩ := c
  unfold Cmd.val
  dsimp only
  have d0 := (Blk.new w [.int .i64 op, .int .i64 service, .int .i64 page, .bool vital, .int .i64 kind, .int .u64 lba, .int .i64 len] 30).cell 0 _ rfl
  have d6 := (Blk.new w [.int .i64 op, .int .i64 service, .int .i64 page, .bool vital, .int .i64 kind, .int .u64 lba, .int .i64 len] 30).cell 6 _ rfl
  by_cases h : op = 42 ∨ op = 138 ∨ op = 66 ∨ op = 95
  · obtain rfl | rfl | rfl | rfl := h
    all_goals
      go_enter Tryd.func14, Tryd.ntmps14
      go_wp2_with (first | (go_at_call 38; with_reducible refine (bytes_c64 _ _).mono ?_; rintro e w1 ⟨rfl, rfl⟩) | (go_at_call 38; with_reducible refine (bytes_c1 _ _).mono ?_; rintro e w1 ⟨rfl, rfl⟩))
      go_ret
      exact ⟨ret_int rfl, (Upd.refl _ _).alloc _⟩
  · have HH := Lib.hid h
    obtain ⟨e1, e2, e3, e4⟩ : (op == 42) = false ∧ (op == 138) = false ∧ (op == 66) = false ∧ (op == 95) = false := by
      simp only [beq_eq_false_iff_ne]; omega
    clear h
    go_enter Tryd.func14, Tryd.ntmps14
    go_wp2_with fail
    go_ret
    exact ⟨ret_int (by unfold outB; dsimp only; have h := HH.out; rw [if_neg (by omega), if_neg (by omega)]), (Upd.refl _ _).alloc _⟩

/-- The sizes' table. -/
def sizesTab : Array Value := #[.int .i64 6, .int .i64 10, .int .i64 10, .int .i64 0, .int .i64 16, .int .i64 12, .int .i64 0, .int .i64 0]
def Siz (w : World) : Prop := ∃ T fr, w.heap[0]? = some (.cells sizesTab T fr)
theorem Siz.upd {w w' : World} (h : Siz w) {S : List Nat} (hu : Upd S w w') (hn : 0 ∉ S) : Siz w' := by
  obtain ⟨T, fr, h⟩ := h
  exact ⟨T, fr, (hu.block _ (Array.getElem?_eq_some_iff.1 h).1 hn).trans h⟩
theorem Siz.upd0 {w w' : World} (h : Siz w) (hu : Upd [] w w') : Siz w' := h.upd hu (by simp)
theorem Siz.cell {w : World} (h : Siz w) (k : Nat) (v : Value) (hk : sizesTab[k]? = some v) : w.cell? ⟨0, k, none⟩ = some v := by
  obtain ⟨T, fr, h⟩ := h
  simp [World.cell?, h, hk]
/-- An operation's size. -/
def sizeB (op : Int) : Int := if placesOf op = none then 0 else (([6, 10, 10, 0, 16, 12, 0, 0] : List Int).getD (op / 32).toNat 0)
theorem placesOf_mem {op : Int} {l : List (Nat × Nat × Nat)} (h : placesOf op = some l) : op = 0 ∨ op = 37 ∨ op = 3 ∨ op = 18 ∨ op = 40 ∨ op = 42 ∨ op = 53 ∨ op = 66 ∨ op = 94 ∨ op = 95 ∨ op = 136 ∨ op = 138 ∨ op = 160 ∨ op = 163 := by
  unfold placesOf at h
  obtain ⟨x, hx, _⟩ := Option.map_eq_some_iff.1 h
  have h1 := List.find?_some hx
  have h2 := List.mem_of_find?_eq_some hx
  have h3 : x.1 = op := by simpa using h1
  rw [← h3]
  have : ∀ y ∈ rowsL, y.1 = 0 ∨ y.1 = 37 ∨ y.1 = 3 ∨ y.1 = 18 ∨ y.1 = 40 ∨ y.1 = 42 ∨ y.1 = 53 ∨ y.1 = 66 ∨ y.1 = 94 ∨ y.1 = 95 ∨ y.1 = 136 ∨ y.1 = 138 ∨ y.1 = 160 ∨ y.1 = 163 := by decide
  exact this x h2
theorem size_c (op : Int) (w : World) (hT : Tab w) (hS : Siz w) :
    Calls Tryd.prog 8 #[.int .i64 op] w fun e w' => e = .returned (.int .i64 (sizeB op)) ∧ Upd [] w w' := by
  have HS := Lib.hid hS
  have HT := Lib.hid hT
  clear hS hT
  go_enter Tryd.func8, Tryd.ntmps8
  go_wp2_with fail
  refine (find_c op _ HT.out).mono ?_
  rintro e w1 ⟨r, rfl, hU, h | ⟨l, g, hp, rfl, hg, hB⟩⟩
  · obtain ⟨h1, rfl⟩ := h
    have hbb : sizeB op = 0 := by unfold sizeB; rw [if_pos h1]
    have HB := Lib.hid hbb
    clear hbb h1
    go_wp2_with fail
    go_ret
    exact ⟨ret_int HB.out.symm, hU⟩
  · have y0 := (HS.out.upd0 hU).cell 0 _ rfl
    have y1 := (HS.out.upd0 hU).cell 1 _ rfl
    have y2 := (HS.out.upd0 hU).cell 2 _ rfl
    have y4 := (HS.out.upd0 hU).cell 4 _ rfl
    have y5 := (HS.out.upd0 hU).cell 5 _ rfl
    have HU := Lib.hid hU
    have hm := placesOf_mem hp
    clear hU hp hg hB HS HT
    obtain rfl | rfl | rfl | rfl | rfl | rfl | rfl | rfl | rfl | rfl | rfl | rfl | rfl | rfl := hm
    all_goals
      go_wp2_with fail
      go_ret
      exact ⟨ret_int rfl, HU.out⟩

theorem given_c (c : Cmd) (w : World) :
    Calls Tryd.prog 10 #[c.val] w fun e w' => e = .returned c.val ∧ Upd [] w w' := by
  obtain ⟨op, service, page, vital, kind, lba, len⟩ := c
  unfold Cmd.val
  dsimp only
  go_enter Tryd.func10, Tryd.ntmps10
  go_wp2_with fail
  refine bodyPost_ret (v := .agg #[.int .i64 op, .int .i64 service, .int .i64 page, .bool vital, .int .i64 kind, .int .u64 lba, .int .i64 len]) (by simp [results, Tryd.results10, go_sem]) rfl ?_
  exact ⟨rfl, (((Upd.refl _ _).alloc _).alloc _)⟩
theorem taken_c (c : Cmd) (w : World) :
    Calls Tryd.prog 17 #[c.val] w fun e w' => e = .returned c.val ∧ Upd [] w w' := by
  obtain ⟨op, service, page, vital, kind, lba, len⟩ := c
  unfold Cmd.val
  dsimp only
  go_enter Tryd.func17, Tryd.ntmps17
  go_wp2_with fail
  refine bodyPost_ret (v := .agg #[.int .i64 op, .int .i64 service, .int .i64 page, .bool vital, .int .i64 kind, .int .u64 lba, .int .i64 len]) (by simp [results, Tryd.results17, go_sem]) rfl ?_
  exact ⟨rfl, (((Upd.refl _ _).alloc _).alloc _)⟩
end Go.Proofs.YtpkljdjdapgmjaaDoor
