
/-
  Layer 9, data: entries in pages; what a table's bytes are.
-/
import Derived.Test.YthkgadhamecnlaaPage2
import Derived.Test.YthkgadhamecnlaaLaw08d
import Derived.Test.YthkgadhamecnlaaSieveDef
set_option linter.unusedVariables false
set_option linter.unusedSimpArgs false
namespace Go.Proofs.Ythkgadhamecnlaa
open Go
namespace table
open page
/-- a rest of entries in pages, behind those that wait -/
def partsK : List Entry → List Entry → List (List Entry)
  | acc, [] => if acc = [] then [] else [acc]
  | acc, x :: rest => if rest = [] ∨ 512 ≤ (pageB (acc ++ [x])).length then (acc ++ [x]) :: partsK [] rest else partsK (acc ++ [x]) rest
def partF (l : List Entry) : List (List Entry) := partsK [] l
def zeroE : Entry := ⟨[], [], 0, false⟩
def fstK (p : List Entry) : Bs := (p.headD zeroE).key
def lstK (p : List Entry) : Bs := (p.getLastD zeroE).key
def idx1 (p : List Entry) : Bs := textF (fstK p) ++ textF (lstK p) ++ smallF (pageB p).length
def pagesB (ps : List (List Entry)) : Bs := (ps.map pageB).flatten
def indexB (ps : List (List Entry)) : Bs := smallF ps.length ++ (ps.map idx1).flatten
def manyB (n : Nat) : Nat := (10 * n + 7) / 8 * 8
def sieveB (l : List Entry) : Bs := (sieve.makeF (l.map (·.key)) (manyB l.length : Int)).1
def preT (l : List Entry) : Bs := pagesB (partF l) ++ indexB (partF l) ++ sieveB l ++ put8 (pagesB (partF l)).length ++ put8 (indexB (partF l)).length ++ put8 (sieveB l).length
def tableB (l : List Entry) : Bs := preT l ++ sum4 (preT l)
def makeT (l : List Entry) : Bs × Int := if ¬ checkE l = 0 then ([], checkE l) else if l = [] then ([], 90) else if 524288 < (tableB l).length then ([], 7) else (tableB l, 0)
theorem partsK_nil {acc : List Entry} (h : ¬ acc = []) : partsK acc [] = [acc] := by rw [partsK, if_neg h]
theorem partsK_cut {acc rest : List Entry} {x : Entry} (h : rest = [] ∨ 512 ≤ (pageB (acc ++ [x])).length) : partsK acc (x :: rest) = (acc ++ [x]) :: partsK [] rest := by rw [partsK, if_pos h]
theorem partsK_on {acc rest : List Entry} {x : Entry} (h : ¬ (rest = [] ∨ 512 ≤ (pageB (acc ++ [x])).length)) : partsK acc (x :: rest) = partsK (acc ++ [x]) rest := by rw [partsK, if_neg h]
theorem parts_flat : ∀ (l acc : List Entry), (partsK acc l).flatten = acc ++ l
  | [], acc => by
    by_cases h : acc = []
    · subst h; rfl
    · rw [partsK_nil h]; simp
  | x :: rest, acc => by
    by_cases h : rest = [] ∨ 512 ≤ (pageB (acc ++ [x])).length
    · rw [partsK_cut h, List.flatten_cons, parts_flat rest []]; simp
    · rw [partsK_on h, parts_flat rest]; simp
theorem part_flat (l : List Entry) : (partF l).flatten = l := parts_flat l []
theorem parts_ne : ∀ (l acc : List Entry), ∀ p ∈ partsK acc l, p ≠ []
  | [], acc, p, hp => by
    by_cases h : acc = []
    · subst h; cases hp
    · rw [partsK_nil h, List.mem_singleton] at hp; subst hp; exact h
  | x :: rest, acc, p, hp => by
    by_cases h : rest = [] ∨ 512 ≤ (pageB (acc ++ [x])).length
    · rw [partsK_cut h] at hp
      rcases List.mem_cons.1 hp with rfl | hp
      · simp
      · exact parts_ne rest [] p hp
    · rw [partsK_on h] at hp
      exact parts_ne rest _ p hp
theorem tail_snoc : ∀ (acc : List Entry) (a : Bs) (x : Entry), ∃ k : Bs, tailB a (acc ++ [x]) = tailB a acc ++ entB k x
  | [], a, x => ⟨a, by simp [tailB]⟩
  | y :: acc, a, x => by
    obtain ⟨k, h⟩ := tail_snoc acc y.key x
    exact ⟨k, by rw [List.cons_append, tailB, tailB, h, List.append_assoc]⟩
theorem ent_length {x : Entry} (k : Bs) (h : oneE x = 0) : (entB k x).length ≤ 4393 := by
  obtain ⟨_, h1, h2, _⟩ := one_ok h
  unfold entB goneB
  have a := smallF_length (preN k x.key)
  have b := textF_length (x.key.drop (preN k x.key))
  have c := smallF_length x.seq.toNat
  have d := textF_length x.value
  have e : (x.key.drop (preN k x.key)).length ≤ 256 := by rw [List.length_drop]; omega
  rw [List.length_append, List.length_append, List.length_append]
  split
  · simp only [List.length_singleton]; omega
  · simp only [List.length_cons]; omega
theorem page_grow {acc : List Entry} {x : Entry} (h : oneE x = 0) : (pageB (acc ++ [x])).length ≤ (pageB acc).length + 4403 := by
  obtain ⟨k, hk⟩ := tail_snoc acc [] x
  have h1 := ent_length k h
  have h2 := smallF_length (acc ++ [x]).length
  unfold pageB
  rw [List.length_append, List.length_append, sum4_length, sum4_length, body_eq, body_eq, hk]
  simp only [List.length_append] at h2 ⊢
  omega
theorem page_nil : (pageB []).length = 5 := by decide
theorem parts_small : ∀ (l acc : List Entry), (∀ x ∈ l, oneE x = 0) → (pageB acc).length < 512 → ∀ p ∈ partsK acc l, (pageB p).length ≤ 4915
  | [], acc, _, ha, p, hp => by
    by_cases h : acc = []
    · subst h; cases hp
    · rw [partsK_nil h, List.mem_singleton] at hp; subst hp; omega
  | x :: rest, acc, hl, ha, p, hp => by
    have hg := page_grow (acc := acc) (hl x (by simp))
    by_cases h : rest = [] ∨ 512 ≤ (pageB (acc ++ [x])).length
    · rw [partsK_cut h] at hp
      rcases List.mem_cons.1 hp with rfl | hp
      · omega
      · exact parts_small rest [] (fun y hy => hl y (by simp [hy])) (by rw [page_nil]; decide) p hp
    · rw [partsK_on h] at hp
      exact parts_small rest _ (fun y hy => hl y (by simp [hy])) (by omega) p hp
/-- consecutive ones of entries that may be may be -/
theorem chk_left : ∀ {a b : List Entry} {q : Option Entry}, chk q (a ++ b) = 0 → chk q a = 0
  | [], _, _, _ => rfl
  | x :: a, b, q, h => by
    rw [List.cons_append, chk_cons] at h
    rw [chk_cons]
    split at h
    · rename_i h1; exact absurd h h1
    · rename_i h1
      split at h
      · cases h
      · rename_i h2
        rw [if_neg h1, if_neg h2]
        exact chk_left h
theorem chk_right : ∀ {a b : List Entry} {q : Option Entry}, chk q (a ++ b) = 0 → ∃ q', chk q' b = 0
  | [], b, q, h => ⟨q, h⟩
  | x :: a, b, q, h => by
    rw [List.cons_append, chk_cons] at h
    split at h
    · rename_i h1; exact absurd h h1
    · split at h
      · cases h
      · exact chk_right h
theorem chk_none {l : List Entry} {q : Option Entry} (h : chk q l = 0) : chk none l = 0 := by
  cases l with
  | nil => rfl
  | cons x l =>
    rw [chk_cons] at h ⊢
    split at h
    · rename_i h1; exact absurd h h1
    · rename_i h1
      split at h
      · cases h
      · rw [if_neg h1, if_neg (show ¬ (ahd none x = true) from Bool.false_ne_true)]; exact h
theorem check_mid {a b c : List Entry} (h : checkE (a ++ b ++ c) = 0) : checkE b = 0 := by
  unfold checkE at h ⊢
  split at h
  · cases h
  · rename_i hl
    obtain ⟨q, hq⟩ := chk_right (chk_left h)
    rw [if_neg (by simp at hl; omega)]
    exact chk_none hq
theorem check_take {l : List Entry} (h : checkE l = 0) (a b : Nat) : checkE ((l.take b).drop a) = 0 := by
  have e : l = (l.take b).take a ++ (l.take b).drop a ++ l.drop b := by rw [List.take_append_drop, List.take_append_drop]
  rw [e] at h
  exact check_mid h
theorem make_small {l : List Entry} (h : checkE l = 0) (hs : (pageB l).length ≤ 65536) : makeE l = (pageB l, 0) := by
  unfold makeE
  rw [if_neg (fun hn => hn h), if_neg (by omega)]
theorem many_ok {n : Nat} (h1 : 1 ≤ n) (h2 : n ≤ 4096) : 8 ≤ manyB n ∧ manyB n ≤ 65536 ∧ manyB n % 8 = 0 := by unfold manyB; omega
end table
end Go.Proofs.Ythkgadhamecnlaa
