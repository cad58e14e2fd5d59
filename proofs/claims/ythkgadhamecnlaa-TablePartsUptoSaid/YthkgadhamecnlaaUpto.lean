
/-
  What a bound on the bulk of the arguments gives: lengths.
-/
import Derived.Test.YthkgadhamecnlaaRows
import Derived.Test.YthkgadhamecnlaaRow
set_option linter.unusedVariables false
set_option linter.unusedSimpArgs false
namespace Go.Proofs.Ythkgadhamecnlaa
open Go Go.ChangeShapes Go.WideShapes Go.ChangeAt Go.RowKit
theorem bulk_one {H : Type} (d : DataW H) : 1 ≤ Rows.uptoBulk d := by
  cases d with
  | lit l => cases l <;> simp [Rows.uptoBulk]
  | nil => simp [Rows.uptoBulk]
  | ptr d => simp [Rows.uptoBulk]
  | slice elems spare => simp [Rows.uptoBulk]
  | agg parts => simp [Rows.uptoBulk]
  | iface t d => simp [Rows.uptoBulk]
  | map entries => simp [Rows.uptoBulk]
  | held h => simp [Rows.uptoBulk]
theorem bulk_part {H : Type} {d : DataW H} : ∀ {l : List (DataW H)}, d ∈ l → Rows.uptoBulk d ≤ Rows.uptoBulkAll l
  | x :: r, h => by
    simp only [Rows.uptoBulkAll]
    rcases List.mem_cons.1 h with rfl | h
    · omega
    · have := bulk_part h; omega
theorem bulk_length {H : Type} : ∀ (l : List (DataW H)), l.length ≤ Rows.uptoBulkAll l
  | [] => by simp [Rows.uptoBulkAll]
  | x :: r => by
    have := bulk_one x
    have := bulk_length r
    simp only [Rows.uptoBulkAll, List.length_cons]
    omega
theorem bulk_small {H : Type} {d : DataW H} {ds : List (DataW H)} (hk : Rows.uptoSmall H ds = true) (hd : d ∈ ds) : Rows.uptoBulk d ≤ 1048576 := by
  have h : Rows.uptoBulkAll ds ≤ 1048576 := of_decide_eq_true hk
  have := bulk_part hd
  omega
theorem upto_slice {α : Type} {t : Ty α} {x : List α} {H : Type} {enc : TypeId × Value → H} {W : World} {T E : TypeId} {v : Value} {d : DataW H} {p : List MemPlace} {ds : List (DataW H)} (hk : Rows.uptoSmall H ds = true) (hd : d ∈ ds) (hT : Try.prog.underlying T = some (.slice E)) (h : DataW.Trod enc Try.prog W 0 (fun _ => true) true T v d p) (hr : (Sl t).rep All W v x) : x.length ≤ 1048576 := by
  obtain ⟨a, cap, rfl, _⟩ := Sl.val hr
  obtain ⟨fuel, hf⟩ := h
  have hb := bulk_small hk hd
  have hf' : DataW.trod enc Try.prog W 0 (fun _ => true) true fuel T [.slice a x.length cap] = some (d, p) := hf
  rcases DataW.trod_slice hT hf' with ⟨h1, h2⟩ | ⟨a', len, cap', elems, rest, n, _, h1, h2, _, hl, hm, hlen, _⟩
  · simp only [List.cons.injEq, Value.slice.injEq] at h1
    omega
  · simp only [List.cons.injEq, Value.slice.injEq] at h1
    simp only [Prod.mk.injEq] at h2
    obtain ⟨rfl, _⟩ := h2
    have := bulk_length (elems.map (·.1))
    simp only [Rows.uptoBulk, List.length_map] at hb this
    omega
theorem upto_str {x : Bs} {H : Type} {enc : TypeId × Value → H} {W : World} {T : TypeId} {v : Value} {d : DataW H} {p : List MemPlace} {ds : List (DataW H)} (hk : Rows.uptoSmall H ds = true) (hd : d ∈ ds) (hT : Try.prog.underlying T = some .string) (h : DataW.Trod enc Try.prog W 0 (fun _ => true) true T v d p) (hr : v = str x) : x.length ≤ 1048576 := by
  subst hr
  obtain ⟨fuel, hf⟩ := h
  have hb := bulk_small hk hd
  have hf' : DataW.trod enc Try.prog W 0 (fun _ => true) true fuel T [str x] = some (d, p) := hf
  obtain ⟨s, h1, h2, hs⟩ := DataW.trod_string hT hf'
  simp only [List.cons.injEq, and_true] at h1
  have h3 : str x = .string s := h1
  simp only [Prod.mk.injEq] at h2
  obtain ⟨rfl, _⟩ := h2
  have h4 : s = bs x := by simp only [str, Value.string.injEq] at h3; exact h3.symm
  subst h4
  simp [Rows.uptoBulk, bs] at hb
  omega
end Go.Proofs.Ythkgadhamecnlaa
