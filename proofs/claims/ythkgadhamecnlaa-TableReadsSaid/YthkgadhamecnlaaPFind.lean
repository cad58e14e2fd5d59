
/-
  Package page: Find.
-/
import Derived.Test.YthkgadhamecnlaaPRead
set_option linter.unusedVariables false
set_option linter.unusedSimpArgs false
set_option maxRecDepth 20000
namespace Go.Proofs.Ythkgadhamecnlaa
open Go page
namespace page
def zeroE : Entry := ⟨[], [], 0, false⟩
def isK (key : Bs) (x : Entry) : Bool := decide (x.key = key)
def idxI (p : Entry → Bool) (l : List Entry) : Int := match l.findIdx? p with | some i => (i : Int) | none => -1
def findF (b key : Bs) : Entry × Bool × Int :=
  if ¬ (readE b).2 = 0 then (zeroE, false, (readE b).2) else if key = [] ∨ 256 < key.length then (zeroE, false, 60) else
  match (readE b).1.findIdx? (isK key) with
  | some i => ((readE b).1.getD i zeroE, true, 0)
  | none => (zeroE, false, 0)
theorem findF_err {b key : Bs} (h : ¬ (readE b).2 = 0) : findF b key = (zeroE, false, (readE b).2) := by unfold findF; rw [if_pos h]
theorem findF_key {b key : Bs} (h : (readE b).2 = 0) (hk : key = [] ∨ 256 < key.length) : findF b key = (zeroE, false, 60) := by unfold findF; rw [if_neg (fun hx => hx h), if_pos hk]
theorem findF_some {b key : Bs} {i : Nat} (h : (readE b).2 = 0) (hk : ¬ (key = [] ∨ 256 < key.length)) (hi : (readE b).1.findIdx? (isK key) = some i) : findF b key = ((readE b).1.getD i zeroE, true, 0) := by unfold findF; rw [if_neg (fun hx => hx h), if_neg hk, hi]
theorem findF_none {b key : Bs} (h : (readE b).2 = 0) (hk : ¬ (key = [] ∨ 256 < key.length)) (hi : (readE b).1.findIdx? (isK key) = none) : findF b key = (zeroE, false, 0) := by unfold findF; rw [if_neg (fun hx => hx h), if_neg hk, hi]
theorem idxI_some {p : Entry → Bool} {l : List Entry} {i : Nat} (hi : i < l.length) (h : p l[i] = true) (ha : ∀ j (h : j < l.length), j < i → p l[j] = false) : idxI p l = i := by
  have : l.findIdx? p = some i := List.findIdx?_eq_some_iff_getElem.2 ⟨hi, h, fun j hj => by rw [ha j (by omega) hj]; exact Bool.false_ne_true⟩
  unfold idxI
  rw [this]
theorem idxI_none {p : Entry → Bool} {l : List Entry} (ha : ∀ j (h : j < l.length), p l[j] = false) : idxI p l = -1 := by
  have : l.findIdx? p = none := List.findIdx?_eq_none_iff.2 (fun x hx => by
    obtain ⟨j, hj, rfl⟩ := List.getElem_of_mem hx
    exact ha j hj)
  unfold idxI
  rw [this]
theorem idxI_ge {p : Entry → Bool} {l : List Entry} (h : 0 ≤ idxI p l) : ∃ i, l.findIdx? p = some i ∧ idxI p l = i ∧ i < l.length := by
  unfold idxI at h ⊢
  cases e : l.findIdx? p with
  | none => rw [e] at h; exact absurd h (by decide)
  | some i => exact ⟨i, rfl, rfl, (List.findIdx?_eq_some_iff_getElem.1 e).1⟩
theorem idxI_lt {p : Entry → Bool} {l : List Entry} (h : ¬ 0 ≤ idxI p l) : l.findIdx? p = none := by
  unfold idxI at h
  cases e : l.findIdx? p with
  | none => rfl
  | some i => rw [e] at h; exact absurd (Int.natCast_nonneg i) h
end page
theorem IndexFunc_fn {w : World} {v : Value} {l : List Entry} {f : FuncId} {cap : List Value} {p : Entry → Bool} (h : (Sl tEntry).rep All w v l) (hk : ∀ (x : Entry) (u : Value) (w' : World), tEntry.rep All w' u x → Ext (fun _ => False) w w' → Fn Try.prog f ([] ++ [u] ++ cap) w' (fun r w2 => r = .bool (p x) ∧ Ext (fun _ => False) w' w2)) : Fn Try.prog 50 [v, .func (.func f) #[] cap.toArray] w (fun r w2 => r = i64 (idxI p l) ∧ Ext (fun _ => False) w w2) := by
  obtain ⟨a, capa, rfl, hcap⟩ := Sl.val h
  have hlim := Sl.lim h
  simp only [Lim] at hlim
  refine Fn.enter (fun w => Try.call50 _ w) Try.func50 rfl ?_
  refine .seq (.region ?_)
  refine .p rfl rfl (.as rfl) ?_
  refine .nil (.code (.seq (.seq (.keep [(0, _), (1, _)] ⟨rfl, rfl, trivial⟩ (.region ?_)))))
  refine .p rfl rfl (.mv rfl) ?_
  refine .p rfl rfl (.len rfl rfl) ?_
  refine .p rfl rfl (.mv rfl) ?_
  refine .nil (.code (.block (.keep [(8, _), (7, _), (0, _), (1, _)] ⟨rfl, rfl, rfl, rfl, trivial⟩ ?_)))
  refine .loop (S := Nat × World) (fun s => [(0, .slice a l.length capa), (1, .func (.func f) #[] cap.toArray), (7, i64 l.length), (8, i64 s.1)]) (fun s => s.2) (fun s => s.1 ≤ l.length ∧ (∀ j (h : j < l.length), j < s.1 → p l[j] = false) ∧ Ext (fun _ => False) w s.2) (fun s => l.length - s.1) (0, w) ⟨rfl, rfl, rfl, rfl, trivial⟩ rfl ⟨Nat.zero_le _, (fun j _ h => absurd h (Nat.not_lt_zero _)), .refl _⟩ ?_
  rintro ⟨i, wi⟩ J ⟨hi', ha, hX⟩ again
  simp only at hi' ha hX
  change G _ [(0, .slice a l.length capa), (1, .func (.func f) #[] cap.toArray), (7, i64 l.length), (8, i64 i)] _ _ wi
  refine .seq (.region ?_)
  refine .p rfl rfl (.lt rfl rfl) ?_
  refine .nil (.code (.seq ?_))
  refine .condD rfl (fun c9 => ?_) (fun c9 => ?_)
  · have hi : i < l.length := by omega
    obtain ⟨b0, o0, c0, ue, e, _, hcs, hre⟩ := Sl.at h (List.getElem?_eq_getElem hi)
    cases e
    obtain ⟨rfl, h1, h2, h3⟩ := tEntry.val hre
    refine .skip (.code (.seq (.block (.seq (.keep [(0, _), (1, _), (7, _), (8, _)] ⟨rfl, rfl, rfl, rfl, trivial⟩ (.region ?_))))))
    refine .p rfl rfl (.mv rfl) ?_
    refine .p rfl rfl (.as rfl) ?_
    refine .nil (.code (.seq (.keep [(5, _), (0, _), (1, _), (7, _), (8, _)] ⟨rfl, rfl, rfl, rfl, rfl, trivial⟩ (.region ?_))))
    refine .p rfl rfl (.mv rfl) ?_
    refine .p rfl rfl (.mv rfl) ?_
    refine .p rfl rfl (.mv rfl) ?_
    refine .p rfl rfl (.indexAddr (s := 4) rfl rfl rfl rfl (by omega)) ?_
    refine .p rfl rfl (.loadA (n := 4) rfl rfl rfl rfl rfl (hcs.ext hX (fun x => x))) ?_
    refine .call (first := []) (captured := cap) rfl rfl rfl rfl (hk l[i] _ wi (tEntry.mk h1 h2 h3) hX) ?_
    rintro _ w16 ⟨rfl, X16⟩
    refine .nil (.code (.keep [(16, _), (5, _), (0, _), (1, _), (7, _), (8, _)] ⟨rfl, rfl, rfl, rfl, rfl, rfl, trivial⟩ ?_))
    refine .cond rfl (fun c16 => ?_) (fun c16 => ?_)
    · refine .seq (.keep [(5, _)] ⟨rfl, trivial⟩ (.region ?_))
      refine .p rfl rfl (.mv rfl) ?_
      refine .p rfl rfl (.as rfl) ?_
      refine .nil (.code ?_)
      refine .ret _ rfl ?_
      exact ⟨by rw [idxI_some hi c16 ha]; rfl, hX.trans X16⟩
    · refine .skip (.blk (.code (.keep [(0, _), (1, _), (7, _), (8, _)] ⟨rfl, rfl, rfl, rfl, trivial⟩ (.region ?_))))
      refine .p rfl rfl (.add rfl rfl (by omega)) ?_
      refine .p rfl rfl (.mv rfl) ?_
      refine .nil ?_
      exact (again (i + 1, w16) ⟨by show i + 1 ≤ _; omega, (fun j hj hlt => by
        have hlt : j < i + 1 := hlt
        rcases Nat.lt_or_ge j i with h2 | h2
        · exact ha j hj h2
        · have : j = i := by omega
          subst this
          simpa using c16), hX.trans X16⟩ (by show _ - (i + 1) < _ - i; omega)).of ⟨rfl, rfl, rfl, rfl, trivial⟩
  · refine .exit rfl (.code (.seq (.keep [] trivial (.region ?_))))
    refine .p rfl rfl (.as rfl) ?_
    refine .nil (.code ?_)
    refine .ret _ rfl ?_
    exact ⟨by rw [idxI_none (fun j hj => ha j hj (by omega))]; rfl, hX⟩
end Go.Proofs.Ythkgadhamecnlaa
