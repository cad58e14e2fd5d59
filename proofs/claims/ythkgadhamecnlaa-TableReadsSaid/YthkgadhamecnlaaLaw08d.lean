
/-
  A page tells its entries again.
-/
import Derived.Test.YthkgadhamecnlaaPFind
set_option linter.unusedVariables false
set_option linter.unusedSimpArgs false
set_option maxRecDepth 20000
namespace Go.Proofs.Ythkgadhamecnlaa
open Go page
namespace page
theorem preN_take : ∀ a b : Bs, a.take (preN a b) = b.take (preN a b)
  | [], b => by simp [preN]
  | a :: x, [] => by simp [preN]
  | a :: x, b :: y => by
    rw [preN]
    split
    · rename_i h
      rw [List.take_succ_cons, List.take_succ_cons, preN_take x y, h]
    · rfl
theorem headR_ent {ahead : Bs} {x : Entry} (r : Bs) (h : oneE x = 0) : headR ahead (entB ahead x ++ r, false) = (x.key, x.seq.toNat, x.gone, ((if x.gone = true then [] else textF x.value) ++ r, false)) := by
  obtain ⟨k1, k2, k3, k4, k5, k6⟩ := one_ok h
  have hp := preN_le ahead x.key
  have e : entB ahead x ++ r = smallF (preN ahead x.key) ++ (textF (x.key.drop (preN ahead x.key)) ++ (smallF x.seq.toNat ++ (goneB x ++ r))) := by
    unfold entB
    simp only [List.append_assoc]
  rw [headR_eq, e, numP_small _ _ (by omega) hp.1]
  simp only
  rw [textP_text _ _ (by simp; omega)]
  simp only
  rw [numP_small _ _ (by omega) (by omega)]
  simp only
  rw [preN_take, List.take_append_drop]
  cases hg : x.gone with
  | true =>
    have : goneB x = [1] := by unfold goneB; rw [if_pos hg]
    rw [this]
    rfl
  | false =>
    have : goneB x = 0 :: textF x.value := by unfold goneB; rw [if_neg (by rw [hg]; exact Bool.false_ne_true)]
    rw [this, List.cons_append, flagP_cons]
    rfl
theorem entR_ent {ahead : Bs} {x : Entry} (r : Bs) (h : oneE x = 0) : entR ahead (entB ahead x ++ r, false) = (x, (r, false)) := by
  obtain ⟨k1, k2, k3, k4, k5, k6⟩ := one_ok h
  obtain ⟨key, value, seq, gone⟩ := x
  have e := headR_ent (ahead := ahead) r h
  simp only at k1 k2 k3 k4 k5 k6 e
  have es : ((seq.toNat : Nat) : Int) = seq := by omega
  cases gone with
  | true =>
    rw [entR_T (by rw [e]), e]
    simp only [if_true, List.nil_append, es, k6 rfl]
  | false =>
    rw [entR_F (by rw [e]; exact Bool.false_ne_true), e]
    simp only [Bool.false_eq_true, if_false, es]
    rw [textP_text _ _ (by omega)]
def tailB : Bs → List Entry → Bs
  | _, [] => []
  | a, x :: l => entB a x ++ tailB x.key l
theorem fold_tail : ∀ (l : List Entry) (b a : Bs), (l.foldl stepB (b, a)).1 = b ++ tailB a l
  | [], b, a => (List.append_nil b).symm
  | x :: l, b, a => by
    rw [List.foldl_cons, stepB, fold_tail l]
    simp only [tailB, List.append_assoc]
theorem body_eq (l : List Entry) : bodyB l = smallF l.length ++ tailB [] l := fold_tail l _ _
theorem loop_back : ∀ (l acc : List Entry) (ahead : Bs), (∀ x ∈ l, oneE x = 0) → loopR l.length ahead acc (tailB ahead l, false) = some (acc ++ l)
  | [], acc, ahead, _ => by rw [List.length_nil, loopR_0, if_neg Bool.false_ne_true, List.append_nil]
  | x :: l, acc, ahead, h => by
    have e := entR_ent (ahead := ahead) (tailB x.key l) (h x List.mem_cons_self)
    rw [List.length_cons, tailB, loopR_F (by rw [e]), e]
    simp only
    rw [loop_back l _ _ (fun y hy => h y (List.mem_cons_of_mem _ hy)), List.append_assoc]
    rfl
theorem smallF_pos (n : Nat) : 1 ≤ (smallF n).length := by
  show 1 ≤ (smallK (9 + 1) n).length
  rw [smallK]
  split
  · exact Nat.le_refl _
  · rw [List.length_cons]; omega
theorem make_ok2 {l : List Entry} (h : (makeE l).2 = 0) : checkE l = 0 ∧ (pageB l).length ≤ 65536 := by
  unfold makeE at h
  split at h
  · rename_i h1; exact absurd h h1
  · rename_i h1
    split at h
    · cases h
    · exact ⟨Decidable.not_not.1 h1, by omega⟩
theorem read_page {l : List Entry} (h : (makeE l).2 = 0) : readE (pageB l) = (l, 0) := by
  obtain ⟨hc, hlen⟩ := make_ok2 h
  obtain ⟨h4, hone⟩ := check_ok hc
  have hs := sum4_length (bodyB l)
  have hl : (pageB l).length = (bodyB l).length + 4 := by unfold pageB; rw [List.length_append, hs]
  have hb1 : 1 ≤ (bodyB l).length := by
    rw [body_eq, List.length_append]
    have := smallF_pos l.length
    omega
  have ht : (pageB l).take ((pageB l).length - 4) = bodyB l := by rw [hl, Nat.add_sub_cancel]; unfold pageB; rw [List.take_left]
  have hd : (pageB l).drop ((pageB l).length - 4) = sum4 (bodyB l) := by rw [hl, Nat.add_sub_cancel]; unfold pageB; rw [List.drop_left]
  have hgood : ¬ badB (pageB l) := by
    rintro (h1 | h1 | h1)
    · omega
    · omega
    · rw [ht, hd] at h1; exact h1 rfl
  have hn : numP 4096 ((pageB l).take ((pageB l).length - 4), false) = (l.length, (tailB [] l, false)) := by
    rw [ht, body_eq]
    exact numP_small _ _ (by omega) h4
  rw [readE_some (l := l) hgood (by rw [hn]; exact loop_back l [] [] hone), if_neg]
  rintro (h1 | h1)
  · exact h1 h
  · exact h1 (make_ok h)
end page
end Go.Proofs.Ythkgadhamecnlaa
