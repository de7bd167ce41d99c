/- CdbRanges: the statement's card. -/
import Derived.Test.YtpkljdjdapgmjaaDoorLr
import Derived.Test.YtpkljdjdapgmjaaDoorTb
import Derived.Test.YtpkljdjdapgmjaaDoorTc
namespace Go.Proofs.YtpkljdjdapgmjaaDoor.cdbRanges
open Go Go.ChangeShapes Go.WideShapes Go.ChangeAt Go.RowKit
set_option linter.unusedVariables false
set_option linter.unusedSimpArgs false
set_option maxRecDepth 100000

theorem cellsRange : Tryd.prog.cellsOf 101 = 2 := by kernel_rfl
theorem oneRange : oneTy Tryd.prog 101 = true := by kernel_rfl
theorem bytesRange : Tryd.prog.bytesOf 101 = 16 := by kernel_rfl
/-- Ranges that come in. -/
theorem ranges_open {H : Type} {enc : TypeId × Value → H} {w : World} {base : Nat} {sp : Nat → Bool} {held : Bool} {fuel : Nat} {v : Value} {x : DataW H × List MemPlace}
    (h : DataW.trod enc Tryd.prog w base sp held fuel 51 [v] = some x) : ∃ (l : List (Nat × Int)) (el rest : List (DataW H)), RR w v l ∧ OkR l ∧ el.length = l.length ∧ (x.1 = .nil ∧ l = [] ∨ x.1 = .slice el rest) := by
  obtain ⟨n, xs, el, rest, hR, hn, hx, he⟩ := rd_open Tryd.underlying51 (by rw [cellsRange]; decide) h
  rw [cellsRange] at hR he
  obtain ⟨l, h1, h2, h3⟩ := list_of (fun x : Nat × Int => [Value.int .u64 (x.1 : Int), Value.int .i64 x.2]) (fun x => x.1 < 18446744073709551616 ∧ -9223372036854775808 ≤ x.2 ∧ x.2 ≤ 9223372036854775807) 2 n xs hR.len (fun i hi => by
    obtain ⟨m, y, hy, _⟩ := he i hi
    obtain ⟨ys, k, _, hl, hyl, hi⟩ := struct_cells Tryd.underlying101 oneRange hy
    obtain ⟨c0, c1, hc⟩ : ∃ c0 c1, (xs.drop (i * 2)).take 2 = [c0, c1] := by
      match (xs.drop (i * 2)).take 2, hl with
      | [c0, c1], _ => exact ⟨c0, c1, rfl⟩
    rw [hc] at hi
    obtain ⟨y0, y1, rfl⟩ : ∃ y0 y1, ys = [y0, y1] := by
      match ys, hyl with
      | [y0, y1], _ => exact ⟨y0, y1, rfl⟩
    have i0 : DataW.trod enc Tryd.prog w base sp held k 22 [c0] = some y0 := hi 0 _ rfl
    have i1 : DataW.trod enc Tryd.prog w base sp held k 3 [c1] = some y1 := hi 1 _ rfl
    obtain ⟨n0, h0, _, w0⟩ := DataW.trod_int (k := .u64) Tryd.underlying22 i0
    obtain ⟨n1, h1, _, w1⟩ := DataW.trod_int (k := .i64) Tryd.underlying3 i1
    injection h0 with h0 _
    injection h1 with h1 _
    subst h0 h1
    have b0 := bounds_u64 w0
    have b1 := bounds_i64 w1
    refine ⟨(n0.toNat, n1), ⟨by dsimp only; omega, b1⟩, ?_⟩
    rw [hc]
    have e0 : ((n0.toNat : Nat) : Int) = n0 := by omega
    dsimp only
    rw [e0])
  subst h1
  have hr : RR w v l := by
    unfold RR rc
    rw [← h2]
    exact hR
  refine ⟨l, el, rest, hr, h3, hn, ?_⟩
  rcases hx with ⟨h1, h2⟩ | h1
  · exact .inl ⟨h1, List.eq_nil_of_length_eq_zero h2⟩
  · exact .inr h1
theorem arg_ranges {H : Type} {enc : TypeId × Value → H} {w : World} {r : Reach} {b0 base : Nat} {sp : Nat → Bool} {held : Bool} {v : Value} {d : DataW H} {p : List MemPlace} (hv : Value.okWide Tryd.prog w r b0 51 v)
    (h : DataW.Trod enc Tryd.prog w base sp held 51 v d p) {ts : List TypeId} {ds : List (DataW H)} (hz : (DataW.weightsEach Tryd.prog ts ds).all (· ≤ reachBytes) = true) {j : Nat} (hj : ts[j]? = some 51) (hd : ds[j]? = some d) :
    ∃ l, RR w v l ∧ OkR l ∧ l.length * 16 ≤ 140737488355328 := by
  obtain ⟨a, k, c, rfl⟩ := okWide_slice Tryd.underlying51 hv
  obtain ⟨fuel, h⟩ := h
  obtain ⟨l, el, rest, h1, h2, h3, h4⟩ := ranges_open (v := .slice a k c) h
  refine ⟨l, h1, h2, ?_⟩
  rcases h4 with ⟨_, rfl⟩ | h4
  · simp
  · have h4' : d = .slice el rest := h4
    rw [h4'] at hd
    have := sized_slice hz hj hd Tryd.underlying51
    rw [bytesRange] at this
    unfold reachBytes at this
    omega

theorem own : ownKnob Tryd.prog.godebug = none := by kernel_rfl

theorem paramsOk : ∀ t ∈ Tryd.f7.params.toList, t < Tryd.prog.types.size := by
  rw [Tryd.params7]
  have h : (([51, 26] : List TypeId).all fun t => decide (t < Tryd.prog.types.size)) = true := by kernel_rfl
  intro t ht
  simpa using List.all_eq_true.1 h t ht
/-- What the walk gives, for every argument and every world that holds the tables. -/
theorem contract (H : Type) (enc : TypeId × Value → H) (W : World) (base : Nat) (args : Array Value) (ds gs : List (DataW H)) (before : List MemPlace)
    (hval : ∀ (j : Nat) t v, Tryd.f7.params[j]? = some t → args[j]? = some v → Value.okWide Tryd.prog W .any base t v)
    (hW : DataW.Whole enc Tryd.prog Tryd.f7.params.toList Rows.cdbRangesSpec.vars false W args.toList ds gs before)
    (hz : (DataW.weightsEach Tryd.prog (Tryd.f7.params.toList ++ (OpenSpec.ofChange Rows.cdbRangesSpec).bare.plain.varTypes Tryd.prog) (ds ++ gs)).all (· ≤ reachBytes) = true) (hL : laidMetH Tryd.prog Rows.cdbRangesRow.laid W) :
    Calls Tryd.prog 7 args W fun e W' => ∃ v, e = .returned v ∧ Rows.cdbRangesSpec.post enc Tryd.prog Tryd.f7 false true false false W args v W' := by
  have hW' := hW
  obtain ⟨p, q, hA0, hV, rfl, hfz, hnd⟩ := hW
  have hA : DataW.TrodAll enc Tryd.prog W 0 (fun _ => true) true Tryd.f7.params.toList args.toList ds p := hA0
  rw [Tryd.params7] at hA hval hz
  obtain ⟨v0, vs0, d0, ds0, p0, q0, hargs, rfl, rfl, h0, r0⟩ := trodAll_cons hA
  obtain ⟨v1, vs1, d1, ds1, p1, q1, hargs1, rfl, rfl, h1, r1⟩ := trodAll_cons r0
  obtain ⟨rfl, rfl, rfl⟩ := trodAll_nil r1
  obtain rfl : args = #[v0, v1] := by cases args; simp_all
  obtain ⟨rfl, rfl⟩ := trodVars_none hV
  obtain ⟨l, hv, hok, hll⟩ := arg_ranges (hval 0 51 v0 rfl rfl) h0 hz (j := 0) rfl rfl
  obtain ⟨bs, hb, hl⟩ := arg_bytes (hval 1 26 v1 rfl rfl) h1 hz (j := 1) rfl rfl
  have hT := one_of hL
  have walk := rangesLaw_c v0 v1 l bs W hv hok hll hb (le_lim (by omega)) hT
  refine walk.mono fun e W' ⟨he, hg⟩ => ?_
  subst he
  exact ⟨_, rfl, post_ok rfl (by kernel_rfl) paramsOk hW' rfl rfl rfl hg⟩

def wit : Array Value := #[.slice none 0 0, .slice none 0 0]
theorem laid_met (os : Os) : laidMet Tryd.prog Rows.cdbRangesRow.laid ((laidWorld os).forCall (fun _ _ => 0) ⟨#[], wit, []⟩).memory :=
  laidMet_of_run' 8 (by kernel_rfl) (by kernel_rfl)
theorem reads (os : Os) {H : Type} (enc : TypeId × Value → H) : ∃ places, DataW.whole enc Tryd.prog ((laidWorld os).forCall (fun _ _ => 0) ⟨#[], wit, []⟩).memory Tryd.f7.params.toList Rows.cdbRangesSpec.vars false wit.toList 8 = some ([.nil, .nil], [], places) :=
  ⟨[], by kernel_rfl⟩

theorem lifted (os : Os) (started : os.Started) (H : Type) (enc : TypeId × Value → H) (F : Stop.Interp) :
    ReturnsInHanded {} Tryd.checked os 7 .any ((OpenSpec.ofChange Rows.cdbRangesSpec).preRow enc Tryd.prog Tryd.f7 Rows.cdbRangesRow.domain false Rows.cdbRangesRow.laid) (((OpenSpec.ofChange Rows.cdbRangesSpec).at F).post enc Tryd.prog Tryd.f7 false true false false) := by
  obtain ⟨places, hx⟩ := reads os enc
  refine returnsInHanded_of_row (C := Tryd.checked) (s := OpenSpec.ofChange Rows.cdbRangesSpec) own started (by kernel_rfl) Tryd.func7
    (witness_row_at (enc := enc) (C := Tryd.checked) false (laidWorld os) wit rfl (by kernel_rfl) (by kernel_rfl) (by kernel_rfl)
      (OpenSpec.preRow_of_cond 8 hx (by kernel_rfl) (fun k hk => by cases hk) (by kernel_rfl) (laid_met os))) ?_
  intro W base args ds gs before hval hW _ _ hz hL _ _
  exact contract H enc W base args ds gs before hval hW hz hL

theorem said : Rows.CdbRangesSaid :=
  OpenClaim.holds_of_cond 7 Tryd.f7 rfl rfl rfl rfl rfl rfl rfl ⟨rfl, rfl, rfl, rfl, rfl⟩ rfl rfl rfl rfl rfl (by kernel_rfl) Tryd.func7 (by kernel_rfl)
    (of_decide_eq_true (by kernel_rfl)) (by unfold Func.isWrapper; first | (rw [if_pos (by decide +kernel)]; kernel_rfl) | (rw [if_neg (by decide +kernel)]; exact ⟨rfl, rfl⟩))
    (fun os started H enc _ F => by rw [OpenClaim.pre_eq_preRow]; exact lifted os started H enc F)

/-- No parameter wants a stand-in; the program's own looks are off: what the card asks. -/
theorem plain (f : FuncId) (fn : Func) (hf : Tryd.pinned.checked.prog.funcNamed "caisson/caissonlaw15.CdbRanges" = some f) (hfn : Tryd.pinned.checked.prog.funcs[f]? = some fn) :
    false = Tryd.pinned.checked.prog.looks [] ∧ ∀ (j : Nat) t, fn.params[j]? = some t → Tryd.pinned.checked.prog.wantsStandIn t = false := by
  obtain rfl : f = 7 := Option.some.inj ((show Tryd.prog.funcNamed "caisson/caissonlaw15.CdbRanges" = some 7 by kernel_rfl).symm.trans hf) |>.symm
  obtain rfl : fn = Tryd.f7 := (Option.some.inj (Tryd.func7.symm.trans hfn)).symm
  refine ⟨by kernel_rfl, fun j t ht => ?_⟩
  rw [Tryd.params7] at ht
  have := Array.mem_of_getElem? ht
  simp only [List.mem_toArray, List.mem_cons, List.not_mem_nil, or_false] at this
  rcases this with rfl | rfl
  all_goals exact (show Tryd.prog.wantsStandIn _ = false by kernel_rfl)

/-- The card. -/
theorem card : Rows.CdbRangesCardSaid :=
  Claim7.holds_tied_plain_at .later [] _ _ _ _ said (fun _ h => by cases h) (by kernel_rfl) (fun _ h => by cases h) cdbRanges_row_tie rfl ⟨rfl, rfl⟩ (by kernel_rfl) rfl plain (by kernel_rfl)
end Go.Proofs.YtpkljdjdapgmjaaDoor.cdbRanges
