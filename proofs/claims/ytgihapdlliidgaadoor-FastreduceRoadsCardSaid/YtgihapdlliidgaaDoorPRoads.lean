/-
  PROVED HERE: 'gnomonlaw22.FastreduceRoads' returns true whatever the input is, and the input reads behind the call as it did (FastreduceRoadsCardSaid: the tied card).
  CONDITIONS: those of the row: the two listed package-level variables (math/bits.deBruijn64tab, gnomon/payne.words) read as the row says when the call begins; the card ties that to the program's text.
-/
import Derived.Test.YtgihapdlliidgaaDoorCards
import Derived.Test.YtgihapdlliidgaaDoorTie
import Derived.Test.YtgihapdlliidgaaDoorLs
import Derived.WalkKit
import Derived.ProofKit
import Derived.OpenShut
import Derived.Deep.DeepHandedRow
import Derived.Lib.LaidTab
import Derived.LaidMore
namespace Go.Proofs.YtgihapdlliidgaaDoor.roads
open Go.ChangeShapes Go.WideShapes Go.ChangeAt Go.RowKit

theorem own : ownKnob Tryd.prog.godebug = none := by kernel_rfl
theorem gTab : Tryd.prog.globalNamed "math/bits.deBruijn64tab" = some 2 := by kernel_rfl
theorem gTabType : (Tryd.prog.globals[2]?).map (·.type) = some 122 := by kernel_rfl
theorem cellsTab : Tryd.prog.cellsOf 122 = 64 := by kernel_rfl
theorem cellsOne : Tryd.prog.cellsOf 5 = 1 := by kernel_rfl

/-- WHAT THE ROW's LIST GIVES: the table's cells. -/
theorem table {W : World} (h : laidMetH Tryd.prog Rows.fastreduceRoadsRow.laid W) : Lib.TabIs Tryd.prog W "math/bits.deBruijn64tab" .u8 (Lib.deBruijn64tab.map fun n : Nat => (n : Int)) :=
  Lib.tabIs_of_head (rest := [("gnomon/payne.words", Rows.laid_gnomon_payne_words)]) gTab gTabType Tryd.underlying122 Tryd.underlying5 cellsOne cellsTab h

theorem tab_of {W : World} (h : laidMetH Tryd.prog Rows.fastreduceRoadsRow.laid W) : Tab W := by
  have hc : ∀ j, j < 64 → W.cell? ⟨2, j, none⟩ = some (.int .u8 ((Lib.deBruijn64tab.getD j 0 : Nat) : Int)) := by
    intro j hj
    have hl : Lib.deBruijn64tab.length = 64 := by decide
    have := (table h).cell gTab j (by rw [List.length_map, hl]; exact hj)
    rw [this]
    congr 2
    rw [List.getD_eq_getElem?_getD, List.getD_eq_getElem?_getD, List.getElem?_map, List.getElem?_eq_getElem (by rw [hl]; exact hj)]
    rfl
  exact ⟨World.block_lt_of_cell? W ⟨2, 0, none⟩ (hc 0 (by decide)), hc⟩

theorem gWrd : Tryd.prog.globalNamed "gnomon/payne.words" = some 1 := by kernel_rfl
theorem gWrdType : (Tryd.prog.globals[1]?).map (·.type) = some 89 := by kernel_rfl
theorem cellsWrd : Tryd.prog.cellsOf 89 = 20 := by kernel_rfl
theorem cellsU : Tryd.prog.cellsOf 22 = 1 := by kernel_rfl

/-- WHAT THE ROW's LIST GIVES: the words of 2/pi. -/
theorem words {W : World} (h : laidMetH Tryd.prog Rows.fastreduceRoadsRow.laid W) : Lib.TabIs Tryd.prog W "gnomon/payne.words" .u64 (pwL.map fun n : Nat => (n : Int)) := by
  have h0 : laidMet Tryd.prog [("math/bits.deBruijn64tab", Rows.laid_math_bits_deBruijn64tab), ("gnomon/payne.words", Lib.tabData .u64 (pwL.map fun n : Nat => (n : Int)))] W := h
  obtain ⟨ps, ⟨g', t', cs, fuel, p, q, hg', ht', hvar, hd, hrest, hps⟩, -⟩ := h0
  obtain ⟨g2, t2, cs2, fuel2, p2, q2, hg2, ht2, hvar2, hd2, -, -⟩ := hrest
  obtain rfl := Option.some.inj (gWrd.symm.trans hg2)
  obtain rfl := Option.some.inj (gWrdType.symm.trans ht2)
  unfold Lib.TabIs
  rw [hvar2, ← Lib.cells_of_tab Tryd.underlying89 Tryd.underlying22 cellsU cellsWrd hd2]

theorem wrd_of {W : World} (h : laidMetH Tryd.prog Rows.fastreduceRoadsRow.laid W) : Wrd pwF W := by
  have hl : pwL.length = 20 := by decide
  have hc : ∀ j, j < 20 → W.cell? ⟨1, j, none⟩ = some (.int .u64 (pwF j : Nat)) := by
    intro j hj
    have := (words h).cell gWrd j (by rw [List.length_map, hl]; exact hj)
    rw [this]
    congr 2
    unfold pwF
    rw [List.getD_eq_getElem?_getD, List.getD_eq_getElem?_getD, List.getElem?_map, List.getElem?_eq_getElem (by rw [hl]; exact hj)]
    rfl
  have hb : ∀ j, j < 20 → pwF j < B64 := by
    rw [B64_eq]; decide
  exact ⟨World.block_lt_of_cell? W ⟨1, 0, none⟩ (hc 0 (by decide)), fun j hj => ⟨hb j hj, hc j hj⟩⟩

set_option maxRecDepth 100000 in
theorem contract (H : Type) (enc : TypeId × Value → H) (W : World) (base : Nat) (args : Array Value) (ds gs : List (DataW H)) (before : List MemPlace)
    (hval : ∀ (j : Nat) t v, Tryd.f3.params[j]? = some t → args[j]? = some v → Value.okWide Tryd.prog W .any base t v)
    (hW : DataW.Whole enc Tryd.prog Tryd.f3.params.toList Rows.fastreduceRoadsSpec.vars false W args.toList ds gs before) (hL : laidMetH Tryd.prog Rows.fastreduceRoadsRow.laid W) :
    Calls Tryd.prog 3 args W fun e W' => ∃ v, e = .returned v ∧ Rows.fastreduceRoadsSpec.post enc Tryd.prog Tryd.f3 false true false false W args v W' := by
  have hW' := hW
  obtain ⟨p, q, hA0, hV, rfl, hfz, hnd⟩ := hW
  have hA : DataW.TrodAll enc Tryd.prog W 0 (fun _ => true) true Tryd.f3.params.toList args.toList ds p := hA0
  rw [Tryd.params3] at hA hval
  obtain ⟨v0, vs0, d0, ds0, p0, q0, hargs, rfl, rfl, h0, r0⟩ := trodAll_cons hA
  obtain ⟨rfl, rfl, rfl⟩ := trodAll_nil r0
  obtain rfl : args = #[v0] := by cases args; simp_all
  obtain ⟨rfl, rfl⟩ := trodVars_none hV
  obtain ⟨n, rfl, rfl, rfl, hwn⟩ := open_int Tryd.underlying22 (hval 0 22 v0 rfl rfl) h0
  clear hA0
  simp only [List.append_nil] at hW'
  have hn : 0 ≤ n ∧ n < 18446744073709551616 := by
    have e1 : IntKind.u64.min = 0 := rfl
    have e2 : IntKind.u64.max = 18446744073709551615 := rfl
    have h2 := hwn
    simp only [Lit.wf, Bool.and_eq_true, decide_eq_true_eq, e1, e2] at h2
    omega
  obtain ⟨b, rfl⟩ : ∃ b : Nat, n = (b : Int) := ⟨n.toNat, by omega⟩
  refine (lawRoads_calls b (by omega) W (tab_of hL) (wrd_of hL)).mono fun e W' ⟨he, hg⟩ => ?_
  subst he
  refine ⟨_, rfl, _, _, _, [], [], [], hW', ?_, ?_, ?_, hg.frame _, fun h => by cases h⟩
  · exact trodAll_cons_mk (shut_bool Tryd.underlying4 _) trodAll_mk0
  · exact trodAll_cons_mk (shut_int Tryd.underlying22 hwn) trodAll_mk0
  · rfl

/-- A WORLD FOR THE WITNESS: what the program's own initialisers lay. -/
noncomputable def laidWorld (os : Os) : World := World.doorLaid Tryd.prog 2000 os
theorem laid_met (os : Os) : laidMet Tryd.prog Rows.fastreduceRoadsRow.laid ((laidWorld os).forCall (fun _ _ => 0) ⟨#[], #[.int .u64 0], []⟩).memory :=
  laidMet_of_run' 8 (by kernel_rfl) (by kernel_rfl)
theorem reads (os : Os) {H : Type} (enc : TypeId × Value → H) : ∃ places, DataW.whole enc Tryd.prog ((laidWorld os).forCall (fun _ _ => 0) ⟨#[], #[.int .u64 0], []⟩).memory Tryd.f3.params.toList Rows.fastreduceRoadsSpec.vars false #[Value.int .u64 0].toList 8 = some ([.lit (.int .u64 0)], [], places) :=
  ⟨[], by kernel_rfl⟩

set_option maxRecDepth 100000 in
theorem lifted (os : Os) (started : os.Started) (H : Type) (enc : TypeId × Value → H) (F : Stop.Interp) :
    ReturnsInHanded {} Tryd.checked os 3 .any ((OpenSpec.ofChange Rows.fastreduceRoadsSpec).preRow enc Tryd.prog Tryd.f3 Rows.fastreduceRoadsRow.domain false Rows.fastreduceRoadsRow.laid) (((OpenSpec.ofChange Rows.fastreduceRoadsSpec).at F).post enc Tryd.prog Tryd.f3 false true false false) := by
  obtain ⟨places, hx⟩ := reads os enc
  refine returnsInHanded_of_row (C := Tryd.checked) (s := OpenSpec.ofChange Rows.fastreduceRoadsSpec) own started (by kernel_rfl) Tryd.func3
    (witness_row_at (enc := enc) (C := Tryd.checked) false (laidWorld os) #[.int .u64 0] rfl (by kernel_rfl) (by kernel_rfl) (by kernel_rfl)
      (OpenSpec.preRow_of_cond 8 hx (by kernel_rfl) (fun k hk => by cases hk) (by kernel_rfl) (laid_met os))) ?_
  intro W base args ds gs before hval hW _ _ _ hL _ _
  exact contract H enc W base args ds gs before hval hW hL

theorem said : Rows.FastreduceRoadsSaid :=
  OpenClaim.holds_of_cond 3 Tryd.f3 rfl rfl rfl rfl rfl rfl rfl ⟨rfl, rfl, rfl, rfl, rfl⟩ rfl rfl rfl rfl rfl (by kernel_rfl) Tryd.func3 (by kernel_rfl)
    (of_decide_eq_true (by kernel_rfl)) (by unfold Func.isWrapper; first | (rw [if_pos (by decide +kernel)]; kernel_rfl) | (rw [if_neg (by decide +kernel)]; exact ⟨rfl, rfl⟩))
    (fun os started H enc _ F => by rw [OpenClaim.pre_eq_preRow]; exact lifted os started H enc F)

/-- No parameter wants a stand-in; the program's own looks are off. -/
theorem plain (f : FuncId) (fn : Func) (hf : Tryd.pinned.checked.prog.funcNamed "gnomon/gnomonlaw22.FastreduceRoads" = some f) (hfn : Tryd.pinned.checked.prog.funcs[f]? = some fn) :
    false = Tryd.pinned.checked.prog.looks [] ∧ ∀ (j : Nat) t, fn.params[j]? = some t → Tryd.pinned.checked.prog.wantsStandIn t = false := by
  obtain rfl : f = 3 := Option.some.inj ((show Tryd.prog.funcNamed "gnomon/gnomonlaw22.FastreduceRoads" = some 3 by kernel_rfl).symm.trans hf) |>.symm
  obtain rfl : fn = Tryd.f3 := (Option.some.inj (Tryd.func3.symm.trans hfn)).symm
  refine ⟨by kernel_rfl, fun j t ht => ?_⟩
  rw [Tryd.params3] at ht
  obtain rfl : t = 22 := by simpa using Array.mem_of_getElem? ht
  exact (show Tryd.prog.wantsStandIn 22 = false by kernel_rfl)

/-- THE CARD -/
theorem card : Rows.FastreduceRoadsCardSaid :=
  Claim7.holds_tied_plain_at .later [] _ _ _ _ said (fun _ h => by cases h) (by kernel_rfl) (fun _ h => by cases h) fastreduceRoads_row_tie rfl ⟨rfl, rfl⟩ (by kernel_rfl) rfl plain (by kernel_rfl)
#print axioms card
end Go.Proofs.YtgihapdlliidgaaDoor.roads
