
/-
  Whatever its arguments are (of bulk at most 1048576), TableParts returns true, and its arguments read behind the call as they read before it.
-/
import Derived.Test.YthkgadhamecnlaaRows
import Derived.Test.YthkgadhamecnlaaLaw09g
import Derived.Test.YthkgadhamecnlaaUpto
import Derived.JoinedCond
import Derived.Deep.CondSized
import Derived.WalkKit
set_option linter.unusedVariables false
set_option linter.unusedSimpArgs false
namespace Go.Proofs.Ythkgadhamecnlaa.tableParts
open Go Go.ChangeShapes Go.WideShapes Go.ChangeAt Go.RowKit
theorem own : ownKnob Try.prog.godebug = none := by kernel_rfl
theorem laid : laidOutB Try.prog = true := by kernel_rfl
theorem reads : ∀ t ∈ Try.f7.params.toList, Try.prog.readableRec t = true ∧ t < Try.prog.types.size := by
  rw [Try.params7]
  intro t ht
  have h : ([22, 9, 9, 9] : List TypeId).all (fun t => Try.prog.readableRec t && decide (t < Try.prog.types.size)) = true := by kernel_rfl
  have := List.all_eq_true.1 h t ht
  simpa using this
set_option maxRecDepth 100000 in
theorem contract (H : Type) (enc : TypeId × Value → H) (W : World) (base : Nat) (args : Array Value) (ds gs : List (DataW H)) (before : List MemPlace)
    (hval : ∀ (j : Nat) t v, Try.f7.params[j]? = some t → args[j]? = some v → Value.okWide Try.prog W .any base t v)
    (hW : DataW.Whole enc Try.prog Try.f7.params.toList Rows.tablePartsSpec.vars false W args.toList ds gs before)
    (hk : Rows.uptoSmall H (ds ++ gs) = true)
    (hz : (DataW.weightsEach Try.prog (Try.f7.params.toList ++ Rows.tablePartsSpec.plain.varTypes Try.prog) (ds ++ gs)).all (· ≤ reachBytes) = true) :
    Calls Try.prog 7 args W fun e W' => ∃ v, e = .returned v ∧ Rows.tablePartsSpec.post enc Try.prog Try.f7 false true false false W args v W' := by
  have hW' := hW
  obtain ⟨p, q, hA0, hV, rfl, hfz, hnd⟩ := hW
  have hA : DataW.TrodAll enc Try.prog W 0 (fun _ => true) true Try.f7.params.toList args.toList ds p := hA0
  rw [Try.params7] at hA hval hz
  obtain ⟨v0, vs0, d0, ds0, p0, q0, hargs, rfl, rfl, h0, r0⟩ := trodAll_cons hA
  obtain ⟨v1, vs1, d1, ds1, p1, q1, rfl, rfl, rfl, h1, r1⟩ := trodAll_cons r0
  obtain ⟨v2, vs2, d2, ds2, p2, q2, rfl, rfl, rfl, h2, r2⟩ := trodAll_cons r1
  obtain ⟨v3, vs3, d3, ds3, p3, q3, rfl, rfl, rfl, h3, r3⟩ := trodAll_cons r2
  obtain ⟨rfl, rfl, rfl⟩ := trodAll_nil r3
  obtain rfl : args = #[v0, v1, v2, v3] := by cases args; simp_all
  obtain ⟨rfl, rfl⟩ := trodVars_none hV
  simp only [List.append_nil] at hk
  obtain ⟨x0, hx0⟩ := arg_open (opens_slice Try.underlying22 (show Opens Try.prog 33 page.tEntry from opens_struct (fun y => ⟨y.1, y.2.1, y.2.2.1, y.2.2.2⟩) (fun _ => rfl) Try.underlying33 (opensFs_cons (opens_str Try.underlying9) (by kernel_rfl) (opensFs_cons (opens_str Try.underlying9) (by kernel_rfl) (opensFs_cons (opens_int Try.underlying3) (by kernel_rfl) (opensFs_one (opens_bool Try.underlying4) (by kernel_rfl)) rfl) rfl) rfl) (by kernel_rfl)) (by kernel_rfl) (by decide) (of_decide_eq_true (by kernel_rfl))) Try.underlying22 rfl (hval 0 22 v0 rfl rfl) h0 (weights_at hz (j := 0) rfl rfl)
  have hb0 := upto_slice hk (d := d0) (by simp) Try.underlying22 h0 hx0
  obtain ⟨x1, hx1⟩ := arg_open (opens_str Try.underlying9) Try.underlying9 rfl (hval 1 9 v1 rfl rfl) h1 (weights_at hz (j := 1) rfl rfl)
  have hb1 := upto_str hk (d := d1) (by simp) Try.underlying9 h1 hx1.1
  obtain ⟨rfl, hl1⟩ := hx1
  obtain ⟨x2, hx2⟩ := arg_open (opens_str Try.underlying9) Try.underlying9 rfl (hval 2 9 v2 rfl rfl) h2 (weights_at hz (j := 2) rfl rfl)
  have hb2 := upto_str hk (d := d2) (by simp) Try.underlying9 h2 hx2.1
  obtain ⟨rfl, hl2⟩ := hx2
  obtain ⟨x3, hx3⟩ := arg_open (opens_str Try.underlying9) Try.underlying9 rfl (hval 3 9 v3 rfl rfl) h3 (weights_at hz (j := 3) rfl rfl)
  have hb3 := upto_str hk (d := d3) (by simp) Try.underlying9 h3 hx3.1
  obtain ⟨rfl, hl3⟩ := hx3
  exact law_calls (P := Try.prog) (B := 4) laid reads rfl rfl Try.underlying4 rfl hW' (TableParts_fn hx0 hb0)
set_option maxRecDepth 100000 in
theorem lifted (os : Os) (started : os.Started) (H : Type) (enc : TypeId × Value → H) (F : Stop.Interp) :
    ReturnsInHanded {} Try.checked os 7 .any ((Rows.OpenSpec.upto Rows.tablePartsSpec).pre6 enc Try.prog Try.f7 Rows.tablePartsUptoRow.domain false) (((Rows.OpenSpec.upto Rows.tablePartsSpec).at F).post enc Try.prog Try.f7 false true false false) := by
  refine returnsInHanded_of_cond_sized (C := Try.checked) (s := Rows.OpenSpec.upto Rows.tablePartsSpec) (k := Rows.uptoSmall) rfl own started (by kernel_rfl) Try.func7
    (OpenSpec.witness (enc := enc) (C := Try.checked) (s := Rows.OpenSpec.upto Rows.tablePartsSpec) (k := Rows.uptoSmall) rfl false ⟨#[], #[.slice none 0 0, .string .empty, .string .empty, .string .empty], []⟩ 8 (by kernel_rfl) (by kernel_rfl) (by kernel_rfl)
      (x := ([.nil, .lit (.string []), .lit (.string []), .lit (.string [])], [], [])) (by kernel_rfl) rfl (by kernel_rfl)) ?_
  intro W base args ds gs before hval hW _ hk hz _
  exact contract H enc W base args ds gs before hval hW hk hz
theorem proved : Rows.TablePartsUptoSaid :=
  OpenClaim.holds_of_cond 7 Try.f7 rfl rfl rfl rfl rfl rfl rfl ⟨rfl, rfl, rfl, rfl, rfl⟩ rfl rfl rfl rfl rfl (by kernel_rfl) Try.func7 (by kernel_rfl)
    (of_decide_eq_true (by kernel_rfl)) (by unfold Func.isWrapper; first | (rw [if_pos (by decide +kernel)]; kernel_rfl) | (rw [if_neg (by decide +kernel)]; exact ⟨rfl, rfl⟩))
    (fun os started H enc _ F => lifted os started H enc F)
end Go.Proofs.Ythkgadhamecnlaa.tableParts
