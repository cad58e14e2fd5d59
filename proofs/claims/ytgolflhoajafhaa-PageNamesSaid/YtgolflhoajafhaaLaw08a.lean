/-
  The order of entries; the first page; PageOrder walked.
-/
import Derived.Test.YtgolflhoajafhaaPage2
set_option linter.unusedVariables false
set_option linter.unusedSimpArgs false
set_option maxRecDepth 20000
namespace Go.Proofs.Ytgolflhoajafhaa
open Go page
namespace page
theorem cmpB_zero : ∀ a b : Bs, Lib.compareBytes a b = 0 ↔ a = b
  | [], [] => by simp [Lib.compareBytes]
  | [], _ :: _ => by simp [Lib.compareBytes]
  | _ :: _, [] => by simp [Lib.compareBytes]
  | a :: x, b :: y => by
    unfold Lib.compareBytes
    have ih := cmpB_zero x y
    split
    · rename_i h
      refine ⟨fun e => (by cases e), fun e => ?_⟩
      cases e
      exact absurd h (UInt8.lt_irrefl a)
    · rename_i h1
      split
      · rename_i h
        refine ⟨fun e => (by cases e), fun e => ?_⟩
        cases e
        exact absurd h (UInt8.lt_irrefl a)
      · rename_i h2
        have e : a = b := UInt8.le_antisymm (UInt8.not_lt.1 h2) (UInt8.not_lt.1 h1)
        subst e
        rw [ih]
        simp
theorem cmpB_neg : ∀ a b : Bs, Lib.compareBytes b a = - Lib.compareBytes a b
  | [], [] => by simp [Lib.compareBytes]
  | [], _ :: _ => by simp [Lib.compareBytes]
  | _ :: _, [] => by simp [Lib.compareBytes]
  | a :: x, b :: y => by
    unfold Lib.compareBytes
    have ih := cmpB_neg x y
    by_cases h1 : a < b
    · have h2 : ¬ b < a := UInt8.lt_asymm h1
      rw [if_neg h2, if_pos h1, if_pos h1]
      rfl
    · by_cases h2 : b < a
      · rw [if_pos h2, if_neg h1, if_pos h2]
      · rw [if_neg h2, if_neg h1, if_neg h1, if_neg h2]
        exact ih
theorem cmpB_trans : ∀ a b c : Bs, Lib.compareBytes a b < 0 → Lib.compareBytes b c < 0 → Lib.compareBytes a c < 0
  | [], [], _, h, _ => by simp [Lib.compareBytes] at h
  | [], _ :: _, [], _, h => by simp [Lib.compareBytes] at h
  | [], _ :: _, _ :: _, _, _ => by simp [Lib.compareBytes]
  | _ :: _, [], _, h, _ => by simp [Lib.compareBytes] at h
  | _ :: _, _ :: _, [], _, h => by simp [Lib.compareBytes] at h
  | a :: x, b :: y, c :: z, h1, h2 => by
    unfold Lib.compareBytes at h1 h2 ⊢
    have ih := cmpB_trans x y z
    by_cases p1 : a < b
    · by_cases q1 : b < c
      · rw [if_pos (UInt8.lt_trans p1 q1)]; decide
      · rw [if_neg q1] at h2
        by_cases q2 : c < b
        · rw [if_pos q2] at h2; omega
        · have e : b = c := UInt8.le_antisymm (UInt8.not_lt.1 q2) (UInt8.not_lt.1 q1)
          subst e
          rw [if_pos p1]; decide
    · rw [if_neg p1] at h1
      by_cases p2 : b < a
      · rw [if_pos p2] at h1; omega
      · rw [if_neg p2] at h1
        have e : a = b := UInt8.le_antisymm (UInt8.not_lt.1 p2) (UInt8.not_lt.1 p1)
        subst e
        by_cases q1 : a < c
        · rw [if_pos q1]; decide
        · rw [if_neg q1] at h2
          by_cases q2 : c < a
          · rw [if_pos q2] at h2; omega
          · rw [if_neg q2] at h2
            rw [if_neg q1, if_neg q2]
            exact ih h1 h2
theorem less_iff (a b : Entry) : lessE a b = true ↔ Lib.compareBytes a.key b.key < 0 ∨ (a.key = b.key ∧ b.seq < a.seq) := by
  unfold lessE orI cmpI
  rw [decide_eq_true_eq]
  have h0 := cmpB_zero a.key b.key
  by_cases h : Lib.compareBytes a.key b.key = 0
  · rw [if_pos h]
    have hk := h0.1 h
    constructor
    · intro h2
      refine .inr ⟨hk, ?_⟩
      split at h2
      · assumption
      · split at h2 <;> omega
    · rintro (h2 | ⟨_, h2⟩)
      · omega
      · rw [if_pos h2]; decide
  · rw [if_neg h]
    constructor
    · exact .inl
    · rintro (h2 | ⟨h2, _⟩)
      · exact h2
      · exact absurd (h0.2 h2) h
theorem less_trans {a b c : Entry} (h1 : lessE a b = true) (h2 : lessE b c = true) : lessE a c = true := by
  rw [less_iff] at *
  rcases h1 with h1 | ⟨e1, h1⟩ <;> rcases h2 with h2 | ⟨e2, h2⟩
  · exact .inl (cmpB_trans _ _ _ h1 h2)
  · rw [← e2]; exact .inl h1
  · rw [e1]; exact .inl h2
  · exact .inr ⟨e1.trans e2, by omega⟩
theorem less_asymm {a b : Entry} (h1 : lessE a b = true) : lessE b a = false := by
  cases h : lessE b a with
  | false => rfl
  | true =>
    rw [less_iff] at h1 h
    have hn := cmpB_neg a.key b.key
    have hz := cmpB_zero a.key b.key
    rcases h1 with h1 | ⟨e1, h1⟩ <;> rcases h with h | ⟨e2, h⟩
    · omega
    · have := hz.2 e2.symm; omega
    · have := hz.2 e1; omega
    · omega
theorem less_irrefl (a : Entry) : lessE a a = false := by
  cases h : lessE a a with
  | false => rfl
  | true => have := less_asymm h; rw [h] at this; cases this
theorem alike_eq (a b : Entry) : decide (a.key = b.key ∧ a.seq = b.seq) = (!lessE a b && !lessE b a) := by
  have h1 := less_iff a b
  have h2 := less_iff b a
  have hn := cmpB_neg a.key b.key
  have hz := cmpB_zero a.key b.key
  by_cases h : a.key = b.key ∧ a.seq = b.seq
  · rw [decide_eq_true h]
    have e1 : lessE a b = false := by
      cases e : lessE a b with
      | false => rfl
      | true => rcases h1.1 e with h3 | ⟨_, h3⟩; have := hz.2 h.1; omega; omega
    have e2 : lessE b a = false := by
      cases e : lessE b a with
      | false => rfl
      | true => rcases h2.1 e with h3 | ⟨_, h3⟩; have := hz.2 h.1; omega; omega
    rw [e1, e2]
    rfl
  · rw [decide_eq_false h]
    by_cases hk : a.key = b.key
    · have hs : ¬ a.seq = b.seq := fun e => h ⟨hk, e⟩
      rcases Int.lt_or_gt_of_ne hs with h3 | h3
      · rw [h2.2 (.inr ⟨hk.symm, h3⟩)]; simp
      · rw [h1.2 (.inr ⟨hk, h3⟩)]; simp
    · have h0 : ¬ Lib.compareBytes a.key b.key = 0 := fun e => hk (hz.1 e)
      rcases Int.lt_or_gt_of_ne h0 with h3 | h3
      · rw [h1.2 (.inl h3)]; simp
      · rw [h2.2 (.inl (by omega))]; simp
def twoE : List Entry := [⟨[97, 98], [120], 1, false⟩, ⟨[97, 98, 99], [], 0, true⟩]
theorem make2 : (makeE twoE).2 = 0 := by decide +kernel
theorem make2_len : (makeE twoE).1.length = 18 := by decide +kernel
theorem make2_take : (makeE twoE).1.take 12 = [2, 0, 2, 97, 98, 1, 0, 1, 120, 2, 1, 99] := by decide +kernel
end page
theorem two_fn {w : World} : Fn Try.prog 28 [] w (fun r w2 => (Sl tEntry).rep All w2 r twoE ∧ Ext (fun _ => False) w w2) := by
  refine Fn.enter (fun w => Try.call28 _ w) Try.func28 rfl ?_
  refine .seq (.region ?_)
  refine .p rfl rfl (.as rfl) ?_
  refine .nil (.code (.seq (.keep [] trivial (.region ?_))))
  refine .p rfl rfl (.build (cs := [str [97, 98], str [120], i64 1, .bool false]) rfl (fun _ => by kernel_rfl)) ?_
  refine .p rfl rfl (.build (cs := [str [97, 98, 99], str [], i64 0, .bool true]) rfl (fun _ => by kernel_rfl)) ?_
  refine .v rfl rfl (.lits rfl rfl (fun _ => by kernel_rfl)) ?_
  rintro _ w3 ⟨rfl, N3⟩
  refine .p rfl rfl (.as rfl) ?_
  refine .nil (.code ?_)
  refine .ret _ rfl ?_
  exact ⟨Sl.mk (us := [.agg #[str [97, 98], str [120], i64 1, .bool false], .agg #[str [97, 98, 99], str [], i64 0, .bool true]]) (.cons (tEntry.mk (x := ⟨[97, 98], [120], 1, false⟩) (by simp [Lim]) (by simp [Lim]) (by decide)) (.cons (tEntry.mk (x := ⟨[97, 98, 99], [], 0, true⟩) (by simp [Lim]) (by simp [Lim]) (by decide)) .nil)) (by have := N3.blk.cells; exact this) trivial N3.blk.lt (by simp [twoE]) (by simp [twoE, Lim]) rfl, N3.ext⟩
theorem alive_fn {w : World} : Fn Try.prog 16 [] w (fun r w2 => r = .bool true ∧ Ext (fun _ => False) w w2) := by
  refine Fn.enter (fun w => Try.call16 _ w) Try.func16 rfl ?_
  refine .seq (.region ?_)
  refine .p rfl rfl (.as rfl) ?_
  refine .nil (.code (.seq (.keep [] trivial (.region ?_))))
  refine .call (first := []) (captured := []) rfl rfl rfl rfl (two_fn) ?_
  rintro r4 w4 ⟨R4, X4⟩
  refine .call (first := []) (captured := []) rfl rfl rfl rfl (Make_fn R4) ?_
  rintro _ w5 ⟨v5, rfl, G5, X5⟩
  obtain ⟨a5, c5, rfl, hc5⟩ := OwnO.val G5
  have R5 := Gr.rep G5
  rw [make2_len] at R5 hc5
  obtain ⟨a6, c6, hv6, hc6, R6⟩ := Sl.cutE R5 0 12 (by omega) (by omega)
  rw [List.drop_zero, make2_take] at R6
  refine .p rfl rfl (.mv rfl) ?_
  refine .p rfl rfl (.extract rfl rfl) ?_
  refine .p rfl rfl (.extract rfl rfl) ?_
  refine .p rfl rfl (.as rfl) ?_
  refine .p rfl rfl (.as rfl) ?_
  refine .nil (.code (.seq (.keep [(2, _), (1, _)] ⟨rfl, rfl, trivial⟩ (.region ?_))))
  refine .p rfl rfl (.mv rfl) ?_
  refine .p rfl rfl (.yes (.eq rfl rfl) (make2)) ?_
  refine .p rfl rfl (.mv rfl) ?_
  refine .p rfl rfl (.mv rfl) ?_
  refine .p rfl rfl (.len rfl rfl) ?_
  refine .p rfl rfl (.yes (.eq rfl rfl) (by rw [make2_len]; rfl)) ?_
  refine .p rfl rfl (.pickT rfl rfl) ?_
  refine .p rfl rfl (.mv rfl) ?_
  refine .p rfl rfl (.mv rfl) ?_
  refine .p rfl rfl (.cast (.cutHi (s := 1) rfl rfl rfl rfl (by omega)) (show cutV 1 a5 c5 0 (12 : Int).toNat = _ from hv6)) ?_
  refine .p rfl rfl (.bytesStr rfl R6 rfl rfl rfl) ?_
  refine .p rfl rfl (.yes (.eqS rfl rfl) (rfl)) ?_
  refine .p rfl rfl (.pickT rfl rfl) ?_
  refine .p rfl rfl (.as rfl) ?_
  refine .nil (.code ?_)
  refine .ret _ rfl ?_
  exact ⟨rfl, X4.trans X5⟩
theorem PageOrder_fn {w : World} {va vb vc : Value} {a b c : Entry} (ha : tEntry.rep All w va a) (hb : tEntry.rep All w vb b) (hc : tEntry.rep All w vc c) : Fn Try.prog 4 [va, vb, vc] w (fun r w2 => r = .bool true ∧ Ext (fun _ => False) w w2) := by
  obtain ⟨rfl, _⟩ := tEntry.val ha
  obtain ⟨rfl, _⟩ := tEntry.val hb
  obtain ⟨rfl, _⟩ := tEntry.val hc
  refine Fn.enter (fun w => Try.call4 _ w) Try.func4 rfl ?_
  refine .seq (.region ?_)
  refine .v rfl rfl (.box rfl) ?_
  rintro _ w3 ⟨rfl, N3⟩
  have B3 := N3.blk
  have X3 := N3.ext
  refine .v rfl rfl (.box rfl) ?_
  rintro _ w4 ⟨rfl, N4⟩
  have B4 := N4.blk
  have X4 := N4.ext
  refine .v rfl rfl (.box rfl) ?_
  rintro _ w5 ⟨rfl, N5⟩
  have B5 := N5.blk
  have X5 := N5.ext
  refine .p rfl rfl (.as rfl) ?_
  refine .nil (.code (.seq (.keep [(5, _), (4, _), (3, _)] ⟨rfl, rfl, rfl, trivial⟩ (.region ?_))))
  refine .call (first := []) (captured := []) rfl rfl rfl rfl (alive_fn) ?_
  rintro _ w9 ⟨rfl, X9⟩
  refine .p rfl rfl (.as rfl) ?_
  refine .nil (.code (.seq (.seq (.keep [(7, _), (5, _), (4, _), (3, _)] ⟨rfl, rfl, rfl, rfl, trivial⟩ (.region ?_)))))
  refine .p rfl rfl (.mv rfl) ?_
  refine .p rfl rfl (.not rfl) ?_
  refine .nil (.code (.keep [(11, _), (7, _), (5, _), (4, _), (3, _)] ⟨rfl, rfl, rfl, rfl, rfl, trivial⟩ (.condF rfl (.skip (.code (.seq (.seq (.keep [(7, _), (5, _), (4, _), (3, _)] ⟨rfl, rfl, rfl, rfl, trivial⟩ ?_))))))))
  refine .meet (S := World) (fun s => [(3, .pointer (some ⟨w.heap.size, 0, none⟩)), (4, .pointer (some ⟨w3.heap.size, 0, none⟩)), (7, .bool true), (40, .bool false)]) (fun s => s) (fun s => Ext (fun _ => False) w9 s) ?_ ?_
  · intro w39 X39
    refine .code (.condF rfl (.skip (.code (.seq (.keep [(3, _), (4, _), (7, _)] ⟨rfl, rfl, rfl, trivial⟩ ?_)))))
    refine .meet (S := World) (fun s => [(3, .pointer (some ⟨w.heap.size, 0, none⟩)), (4, .pointer (some ⟨w3.heap.size, 0, none⟩)), (7, .bool true), (8, .bool (decide (a.key = b.key ∧ a.seq = b.seq)))]) (fun s => s) (fun s => s = w39) ?_ ?_
    · rintro _ rfl
      refine .code (.seq (.region ?_))
      refine .p rfl rfl (.mv rfl) ?_
      refine .p rfl rfl (.mv rfl) ?_
      refine .p rfl rfl (.mv rfl) ?_
      refine .p rfl rfl (.loadA (n := 4) rfl rfl rfl rfl rfl (B3.ext (S := fun _ => False) (by repeat (first | exact Ext.refl _ | assumption | refine Ext.trans (by assumption) ?_)) (fun x => x)).cells) ?_
      refine .p rfl rfl (.loadA (n := 4) rfl rfl rfl rfl rfl (B4.ext (S := fun _ => False) (by repeat (first | exact Ext.refl _ | assumption | refine Ext.trans (by assumption) ?_)) (fun x => x)).cells) ?_
      refine .call (first := []) (captured := []) rfl rfl rfl rfl (Less_fn (a := a) (b := b) (allOf (tEntry.ext0 ha (by repeat (first | exact Ext.refl _ | assumption | refine Ext.trans (by assumption) ?_)))) (allOf (tEntry.ext0 hb (by repeat (first | exact Ext.refl _ | assumption | refine Ext.trans (by assumption) ?_))))) ?_
      rintro _ w58 ⟨rfl, X58⟩
      refine .p rfl rfl (.not rfl) ?_
      refine .p rfl rfl (.mv rfl) ?_
      refine .case 60 rfl (fun c60 => ?_) (fun c60 => ?_)
      · refine .p rfl rfl (.loadA (n := 4) rfl rfl rfl rfl rfl (B4.ext (S := fun _ => False) (by repeat (first | exact Ext.refl _ | assumption | refine Ext.trans (by assumption) ?_)) (fun x => x)).cells) ?_
        refine .p rfl rfl (.loadA (n := 4) rfl rfl rfl rfl rfl (B3.ext (S := fun _ => False) (by repeat (first | exact Ext.refl _ | assumption | refine Ext.trans (by assumption) ?_)) (fun x => x)).cells) ?_
        refine .call (first := []) (captured := []) rfl rfl rfl rfl (Less_fn (a := b) (b := a) (allOf (tEntry.ext0 hb (by repeat (first | exact Ext.refl _ | assumption | refine Ext.trans (by assumption) ?_)))) (allOf (tEntry.ext0 ha (by repeat (first | exact Ext.refl _ | assumption | refine Ext.trans (by assumption) ?_))))) ?_
        rintro _ w63 ⟨rfl, X63⟩
        refine .p rfl rfl (.not rfl) ?_
        refine .p rfl rfl (.pickT rfl rfl) ?_
        refine .p rfl rfl (.cast (.eqB rfl rfl rfl) (show Value.bool _ = Value.bool true by rw [alike_eq a b]; cases e1 : lessE a b <;> cases e2 : lessE b a <;> simp_all)) ?_
        refine .p rfl rfl (.pickT rfl rfl) ?_
        refine .p rfl rfl (.as rfl) ?_
        refine .nil (.code ?_)
        refine .ret _ rfl ?_
        exact ⟨rfl, (by repeat (first | exact Ext.refl _ | assumption | refine Ext.trans (by assumption) ?_))⟩
      · refine .skip rfl rfl ?_
        refine .skip rfl rfl ?_
        refine .skip rfl rfl ?_
        refine .skip rfl rfl ?_
        refine .p rfl rfl (.pickF rfl rfl) ?_
        refine .p rfl rfl (.cast (.eqB rfl rfl rfl) (show Value.bool _ = Value.bool true by rw [alike_eq a b]; cases e1 : lessE a b <;> cases e2 : lessE b a <;> simp_all)) ?_
        refine .p rfl rfl (.pickT rfl rfl) ?_
        refine .p rfl rfl (.as rfl) ?_
        refine .nil (.code ?_)
        refine .ret _ rfl ?_
        exact ⟨rfl, (by repeat (first | exact Ext.refl _ | assumption | refine Ext.trans (by assumption) ?_))⟩
    · intro meet
      refine .region ?_
      refine .p rfl rfl (.fieldAddr rfl rfl rfl rfl) ?_
      refine .p rfl rfl (.load rfl rfl rfl ((B3.ext (S := fun _ => False) (by repeat (first | exact Ext.refl _ | assumption | refine Ext.trans (by assumption) ?_)) (fun x => x)).cell 0)) ?_
      refine .p rfl rfl (.fieldAddr rfl rfl rfl rfl) ?_
      refine .p rfl rfl (.load rfl rfl rfl ((B4.ext (S := fun _ => False) (by repeat (first | exact Ext.refl _ | assumption | refine Ext.trans (by assumption) ?_)) (fun x => x)).cell 0)) ?_
      refine .p rfl rfl (.eqS rfl rfl) ?_
      refine .p rfl rfl (.mv rfl) ?_
      refine .caseD 46 rfl (fun c46 => ?_) (fun c46 => ?_)
      · refine .p rfl rfl (.fieldAddr rfl rfl rfl rfl) ?_
        refine .p rfl rfl (.load rfl rfl rfl ((B3.ext (S := fun _ => False) (by repeat (first | exact Ext.refl _ | assumption | refine Ext.trans (by assumption) ?_)) (fun x => x)).cell 2)) ?_
        refine .p rfl rfl (.fieldAddr rfl rfl rfl rfl) ?_
        refine .p rfl rfl (.load rfl rfl rfl ((B4.ext (S := fun _ => False) (by repeat (first | exact Ext.refl _ | assumption | refine Ext.trans (by assumption) ?_)) (fun x => x)).cell 2)) ?_
        refine .p rfl rfl (.eq rfl rfl) ?_
        refine .p rfl rfl (.pickT rfl rfl) ?_
        refine .p rfl rfl (.as rfl) ?_
        refine .nil ?_
        exact (meet w39 rfl).of ⟨rfl, rfl, rfl, congrArg (fun q => some (Value.bool q)) (decide_eq_decide.2 ⟨fun h => ⟨c46, h⟩, fun h => h.2⟩), trivial⟩
      · refine .skip rfl rfl ?_
        refine .skip rfl rfl ?_
        refine .skip rfl rfl ?_
        refine .skip rfl rfl ?_
        refine .skip rfl rfl ?_
        refine .p rfl rfl (.pickF rfl rfl) ?_
        refine .p rfl rfl (.as rfl) ?_
        refine .nil ?_
        exact (meet w39 rfl).of ⟨rfl, rfl, rfl, congrArg (fun q => some (Value.bool q)) (decide_eq_false (fun h => c46 h.1)).symm, trivial⟩
  · intro meet
    refine .region ?_
    refine .p rfl rfl (.loadA (n := 4) rfl rfl rfl rfl rfl (B3.ext (S := fun _ => False) (by repeat (first | exact Ext.refl _ | assumption | refine Ext.trans (by assumption) ?_)) (fun x => x)).cells) ?_
    refine .p rfl rfl (.loadA (n := 4) rfl rfl rfl rfl rfl (B4.ext (S := fun _ => False) (by repeat (first | exact Ext.refl _ | assumption | refine Ext.trans (by assumption) ?_)) (fun x => x)).cells) ?_
    refine .call (first := []) (captured := []) rfl rfl rfl rfl (Less_fn (a := a) (b := b) (allOf (tEntry.ext0 ha (by repeat (first | exact Ext.refl _ | assumption | refine Ext.trans (by assumption) ?_)))) (allOf (tEntry.ext0 hb (by repeat (first | exact Ext.refl _ | assumption | refine Ext.trans (by assumption) ?_))))) ?_
    rintro _ w14 ⟨rfl, X14⟩
    refine .p rfl rfl (.mv rfl) ?_
    refine .case 15 rfl (fun c15 => ?_) (fun c15 => ?_)
    · refine .p rfl rfl (.loadA (n := 4) rfl rfl rfl rfl rfl (B4.ext (S := fun _ => False) (by repeat (first | exact Ext.refl _ | assumption | refine Ext.trans (by assumption) ?_)) (fun x => x)).cells) ?_
      refine .p rfl rfl (.loadA (n := 4) rfl rfl rfl rfl rfl (B5.ext (S := fun _ => False) (by repeat (first | exact Ext.refl _ | assumption | refine Ext.trans (by assumption) ?_)) (fun x => x)).cells) ?_
      refine .call (first := []) (captured := []) rfl rfl rfl rfl (Less_fn (a := b) (b := c) (allOf (tEntry.ext0 hb (by repeat (first | exact Ext.refl _ | assumption | refine Ext.trans (by assumption) ?_)))) (allOf (tEntry.ext0 hc (by repeat (first | exact Ext.refl _ | assumption | refine Ext.trans (by assumption) ?_))))) ?_
      rintro _ w18 ⟨rfl, X18⟩
      refine .p rfl rfl (.pickT rfl rfl) ?_
      refine .p rfl rfl (.mv rfl) ?_
      refine .case 20 rfl (fun c20 => ?_) (fun c20 => ?_)
      · refine .p rfl rfl (.loadA (n := 4) rfl rfl rfl rfl rfl (B3.ext (S := fun _ => False) (by repeat (first | exact Ext.refl _ | assumption | refine Ext.trans (by assumption) ?_)) (fun x => x)).cells) ?_
        refine .p rfl rfl (.loadA (n := 4) rfl rfl rfl rfl rfl (B5.ext (S := fun _ => False) (by repeat (first | exact Ext.refl _ | assumption | refine Ext.trans (by assumption) ?_)) (fun x => x)).cells) ?_
        refine .call (first := []) (captured := []) rfl rfl rfl rfl (Less_fn (a := a) (b := c) (allOf (tEntry.ext0 ha (by repeat (first | exact Ext.refl _ | assumption | refine Ext.trans (by assumption) ?_)))) (allOf (tEntry.ext0 hc (by repeat (first | exact Ext.refl _ | assumption | refine Ext.trans (by assumption) ?_))))) ?_
        rintro _ w23 ⟨rfl, X23⟩
        refine .p rfl rfl (.not rfl) ?_
        refine .p rfl rfl (.pickT rfl rfl) ?_
        refine .p rfl rfl (.mv rfl) ?_
        refine .case 26 rfl (fun c26 => ?_) (fun c26 => ?_)
        · exact absurd (less_trans c15 c20) (by simp at c26; simp [c26])
        · refine .p rfl rfl (.loadA (n := 4) rfl rfl rfl rfl rfl (B3.ext (S := fun _ => False) (by repeat (first | exact Ext.refl _ | assumption | refine Ext.trans (by assumption) ?_)) (fun x => x)).cells) ?_
          refine .p rfl rfl (.loadA (n := 4) rfl rfl rfl rfl rfl (B4.ext (S := fun _ => False) (by repeat (first | exact Ext.refl _ | assumption | refine Ext.trans (by assumption) ?_)) (fun x => x)).cells) ?_
          refine .call (first := []) (captured := []) rfl rfl rfl rfl (Less_fn (a := a) (b := b) (allOf (tEntry.ext0 ha (by repeat (first | exact Ext.refl _ | assumption | refine Ext.trans (by assumption) ?_)))) (allOf (tEntry.ext0 hb (by repeat (first | exact Ext.refl _ | assumption | refine Ext.trans (by assumption) ?_))))) ?_
          rintro _ w29 ⟨rfl, X29⟩
          refine .p rfl rfl (.mv rfl) ?_
          refine .case 30 rfl (fun c30 => ?_) (fun c30 => ?_)
          · refine .p rfl rfl (.loadA (n := 4) rfl rfl rfl rfl rfl (B4.ext (S := fun _ => False) (by repeat (first | exact Ext.refl _ | assumption | refine Ext.trans (by assumption) ?_)) (fun x => x)).cells) ?_
            refine .p rfl rfl (.loadA (n := 4) rfl rfl rfl rfl rfl (B3.ext (S := fun _ => False) (by repeat (first | exact Ext.refl _ | assumption | refine Ext.trans (by assumption) ?_)) (fun x => x)).cells) ?_
            refine .call (first := []) (captured := []) rfl rfl rfl rfl (Less_fn (a := b) (b := a) (allOf (tEntry.ext0 hb (by repeat (first | exact Ext.refl _ | assumption | refine Ext.trans (by assumption) ?_)))) (allOf (tEntry.ext0 ha (by repeat (first | exact Ext.refl _ | assumption | refine Ext.trans (by assumption) ?_))))) ?_
            rintro _ w33 ⟨rfl, X33⟩
            refine .p rfl rfl (.pickT rfl rfl) ?_
            refine .p rfl rfl (.pickF rfl rfl) ?_
            refine .p rfl rfl (.mv rfl) ?_
            refine .case 36 rfl (fun c36 => ?_) (fun c36 => ?_)
            · exact absurd c36 (by simp [less_asymm c30])
            · refine .p rfl rfl (.loadA (n := 4) rfl rfl rfl rfl rfl (B3.ext (S := fun _ => False) (by repeat (first | exact Ext.refl _ | assumption | refine Ext.trans (by assumption) ?_)) (fun x => x)).cells) ?_
              refine .p rfl rfl (.loadA (n := 4) rfl rfl rfl rfl rfl (B3.ext (S := fun _ => False) (by repeat (first | exact Ext.refl _ | assumption | refine Ext.trans (by assumption) ?_)) (fun x => x)).cells) ?_
              refine .call (first := []) (captured := []) rfl rfl rfl rfl (Less_fn (a := a) (b := a) (allOf (tEntry.ext0 ha (by repeat (first | exact Ext.refl _ | assumption | refine Ext.trans (by assumption) ?_)))) (allOf (tEntry.ext0 ha (by repeat (first | exact Ext.refl _ | assumption | refine Ext.trans (by assumption) ?_))))) ?_
              rintro _ w39 ⟨rfl, X39⟩
              refine .p rfl rfl (.pickF rfl rfl) ?_
              refine .nil ?_
              exact (meet w39 (by repeat (first | exact Ext.refl _ | assumption | refine Ext.trans (by assumption) ?_))).of ⟨rfl, rfl, rfl, by rw [← less_irrefl a]; rfl, trivial⟩
          · refine .skip rfl rfl ?_
            refine .skip rfl rfl ?_
            refine .skip rfl rfl ?_
            refine .p rfl rfl (.pickF rfl rfl) ?_
            refine .p rfl rfl (.pickF rfl rfl) ?_
            refine .p rfl rfl (.mv rfl) ?_
            refine .p rfl rfl (.loadA (n := 4) rfl rfl rfl rfl rfl (B3.ext (S := fun _ => False) (by repeat (first | exact Ext.refl _ | assumption | refine Ext.trans (by assumption) ?_)) (fun x => x)).cells) ?_
            refine .p rfl rfl (.loadA (n := 4) rfl rfl rfl rfl rfl (B3.ext (S := fun _ => False) (by repeat (first | exact Ext.refl _ | assumption | refine Ext.trans (by assumption) ?_)) (fun x => x)).cells) ?_
            refine .call (first := []) (captured := []) rfl rfl rfl rfl (Less_fn (a := a) (b := a) (allOf (tEntry.ext0 ha (by repeat (first | exact Ext.refl _ | assumption | refine Ext.trans (by assumption) ?_)))) (allOf (tEntry.ext0 ha (by repeat (first | exact Ext.refl _ | assumption | refine Ext.trans (by assumption) ?_))))) ?_
            rintro _ w39 ⟨rfl, X39⟩
            refine .p rfl rfl (.pickF rfl rfl) ?_
            refine .nil ?_
            exact (meet w39 (by repeat (first | exact Ext.refl _ | assumption | refine Ext.trans (by assumption) ?_))).of ⟨rfl, rfl, rfl, by rw [← less_irrefl a]; rfl, trivial⟩
      · refine .skip rfl rfl ?_
        refine .skip rfl rfl ?_
        refine .skip rfl rfl ?_
        refine .skip rfl rfl ?_
        refine .p rfl rfl (.pickF rfl rfl) ?_
        refine .p rfl rfl (.mv rfl) ?_
        refine .p rfl rfl (.loadA (n := 4) rfl rfl rfl rfl rfl (B3.ext (S := fun _ => False) (by repeat (first | exact Ext.refl _ | assumption | refine Ext.trans (by assumption) ?_)) (fun x => x)).cells) ?_
        refine .p rfl rfl (.loadA (n := 4) rfl rfl rfl rfl rfl (B4.ext (S := fun _ => False) (by repeat (first | exact Ext.refl _ | assumption | refine Ext.trans (by assumption) ?_)) (fun x => x)).cells) ?_
        refine .call (first := []) (captured := []) rfl rfl rfl rfl (Less_fn (a := a) (b := b) (allOf (tEntry.ext0 ha (by repeat (first | exact Ext.refl _ | assumption | refine Ext.trans (by assumption) ?_)))) (allOf (tEntry.ext0 hb (by repeat (first | exact Ext.refl _ | assumption | refine Ext.trans (by assumption) ?_))))) ?_
        rintro _ w29 ⟨rfl, X29⟩
        refine .p rfl rfl (.mv rfl) ?_
        refine .case 30 rfl (fun c30 => ?_) (fun c30 => ?_)
        · refine .p rfl rfl (.loadA (n := 4) rfl rfl rfl rfl rfl (B4.ext (S := fun _ => False) (by repeat (first | exact Ext.refl _ | assumption | refine Ext.trans (by assumption) ?_)) (fun x => x)).cells) ?_
          refine .p rfl rfl (.loadA (n := 4) rfl rfl rfl rfl rfl (B3.ext (S := fun _ => False) (by repeat (first | exact Ext.refl _ | assumption | refine Ext.trans (by assumption) ?_)) (fun x => x)).cells) ?_
          refine .call (first := []) (captured := []) rfl rfl rfl rfl (Less_fn (a := b) (b := a) (allOf (tEntry.ext0 hb (by repeat (first | exact Ext.refl _ | assumption | refine Ext.trans (by assumption) ?_)))) (allOf (tEntry.ext0 ha (by repeat (first | exact Ext.refl _ | assumption | refine Ext.trans (by assumption) ?_))))) ?_
          rintro _ w33 ⟨rfl, X33⟩
          refine .p rfl rfl (.pickT rfl rfl) ?_
          refine .p rfl rfl (.pickF rfl rfl) ?_
          refine .p rfl rfl (.mv rfl) ?_
          refine .case 36 rfl (fun c36 => ?_) (fun c36 => ?_)
          · exact absurd c36 (by simp [less_asymm c30])
          · refine .p rfl rfl (.loadA (n := 4) rfl rfl rfl rfl rfl (B3.ext (S := fun _ => False) (by repeat (first | exact Ext.refl _ | assumption | refine Ext.trans (by assumption) ?_)) (fun x => x)).cells) ?_
            refine .p rfl rfl (.loadA (n := 4) rfl rfl rfl rfl rfl (B3.ext (S := fun _ => False) (by repeat (first | exact Ext.refl _ | assumption | refine Ext.trans (by assumption) ?_)) (fun x => x)).cells) ?_
            refine .call (first := []) (captured := []) rfl rfl rfl rfl (Less_fn (a := a) (b := a) (allOf (tEntry.ext0 ha (by repeat (first | exact Ext.refl _ | assumption | refine Ext.trans (by assumption) ?_)))) (allOf (tEntry.ext0 ha (by repeat (first | exact Ext.refl _ | assumption | refine Ext.trans (by assumption) ?_))))) ?_
            rintro _ w39 ⟨rfl, X39⟩
            refine .p rfl rfl (.pickF rfl rfl) ?_
            refine .nil ?_
            exact (meet w39 (by repeat (first | exact Ext.refl _ | assumption | refine Ext.trans (by assumption) ?_))).of ⟨rfl, rfl, rfl, by rw [← less_irrefl a]; rfl, trivial⟩
        · refine .skip rfl rfl ?_
          refine .skip rfl rfl ?_
          refine .skip rfl rfl ?_
          refine .p rfl rfl (.pickF rfl rfl) ?_
          refine .p rfl rfl (.pickF rfl rfl) ?_
          refine .p rfl rfl (.mv rfl) ?_
          refine .p rfl rfl (.loadA (n := 4) rfl rfl rfl rfl rfl (B3.ext (S := fun _ => False) (by repeat (first | exact Ext.refl _ | assumption | refine Ext.trans (by assumption) ?_)) (fun x => x)).cells) ?_
          refine .p rfl rfl (.loadA (n := 4) rfl rfl rfl rfl rfl (B3.ext (S := fun _ => False) (by repeat (first | exact Ext.refl _ | assumption | refine Ext.trans (by assumption) ?_)) (fun x => x)).cells) ?_
          refine .call (first := []) (captured := []) rfl rfl rfl rfl (Less_fn (a := a) (b := a) (allOf (tEntry.ext0 ha (by repeat (first | exact Ext.refl _ | assumption | refine Ext.trans (by assumption) ?_)))) (allOf (tEntry.ext0 ha (by repeat (first | exact Ext.refl _ | assumption | refine Ext.trans (by assumption) ?_))))) ?_
          rintro _ w39 ⟨rfl, X39⟩
          refine .p rfl rfl (.pickF rfl rfl) ?_
          refine .nil ?_
          exact (meet w39 (by repeat (first | exact Ext.refl _ | assumption | refine Ext.trans (by assumption) ?_))).of ⟨rfl, rfl, rfl, by rw [← less_irrefl a]; rfl, trivial⟩
    · refine .skip rfl rfl ?_
      refine .skip rfl rfl ?_
      refine .skip rfl rfl ?_
      refine .p rfl rfl (.pickF rfl rfl) ?_
      refine .p rfl rfl (.mv rfl) ?_
      refine .skip rfl rfl ?_
      refine .skip rfl rfl ?_
      refine .skip rfl rfl ?_
      refine .skip rfl rfl ?_
      refine .p rfl rfl (.pickF rfl rfl) ?_
      refine .p rfl rfl (.mv rfl) ?_
      refine .p rfl rfl (.loadA (n := 4) rfl rfl rfl rfl rfl (B3.ext (S := fun _ => False) (by repeat (first | exact Ext.refl _ | assumption | refine Ext.trans (by assumption) ?_)) (fun x => x)).cells) ?_
      refine .p rfl rfl (.loadA (n := 4) rfl rfl rfl rfl rfl (B4.ext (S := fun _ => False) (by repeat (first | exact Ext.refl _ | assumption | refine Ext.trans (by assumption) ?_)) (fun x => x)).cells) ?_
      refine .call (first := []) (captured := []) rfl rfl rfl rfl (Less_fn (a := a) (b := b) (allOf (tEntry.ext0 ha (by repeat (first | exact Ext.refl _ | assumption | refine Ext.trans (by assumption) ?_)))) (allOf (tEntry.ext0 hb (by repeat (first | exact Ext.refl _ | assumption | refine Ext.trans (by assumption) ?_))))) ?_
      rintro _ w29 ⟨rfl, X29⟩
      refine .p rfl rfl (.mv rfl) ?_
      refine .case 30 rfl (fun c30 => ?_) (fun c30 => ?_)
      · refine .p rfl rfl (.loadA (n := 4) rfl rfl rfl rfl rfl (B4.ext (S := fun _ => False) (by repeat (first | exact Ext.refl _ | assumption | refine Ext.trans (by assumption) ?_)) (fun x => x)).cells) ?_
        refine .p rfl rfl (.loadA (n := 4) rfl rfl rfl rfl rfl (B3.ext (S := fun _ => False) (by repeat (first | exact Ext.refl _ | assumption | refine Ext.trans (by assumption) ?_)) (fun x => x)).cells) ?_
        refine .call (first := []) (captured := []) rfl rfl rfl rfl (Less_fn (a := b) (b := a) (allOf (tEntry.ext0 hb (by repeat (first | exact Ext.refl _ | assumption | refine Ext.trans (by assumption) ?_)))) (allOf (tEntry.ext0 ha (by repeat (first | exact Ext.refl _ | assumption | refine Ext.trans (by assumption) ?_))))) ?_
        rintro _ w33 ⟨rfl, X33⟩
        refine .p rfl rfl (.pickT rfl rfl) ?_
        refine .p rfl rfl (.pickF rfl rfl) ?_
        refine .p rfl rfl (.mv rfl) ?_
        refine .case 36 rfl (fun c36 => ?_) (fun c36 => ?_)
        · exact absurd c36 (by simp [less_asymm c30])
        · refine .p rfl rfl (.loadA (n := 4) rfl rfl rfl rfl rfl (B3.ext (S := fun _ => False) (by repeat (first | exact Ext.refl _ | assumption | refine Ext.trans (by assumption) ?_)) (fun x => x)).cells) ?_
          refine .p rfl rfl (.loadA (n := 4) rfl rfl rfl rfl rfl (B3.ext (S := fun _ => False) (by repeat (first | exact Ext.refl _ | assumption | refine Ext.trans (by assumption) ?_)) (fun x => x)).cells) ?_
          refine .call (first := []) (captured := []) rfl rfl rfl rfl (Less_fn (a := a) (b := a) (allOf (tEntry.ext0 ha (by repeat (first | exact Ext.refl _ | assumption | refine Ext.trans (by assumption) ?_)))) (allOf (tEntry.ext0 ha (by repeat (first | exact Ext.refl _ | assumption | refine Ext.trans (by assumption) ?_))))) ?_
          rintro _ w39 ⟨rfl, X39⟩
          refine .p rfl rfl (.pickF rfl rfl) ?_
          refine .nil ?_
          exact (meet w39 (by repeat (first | exact Ext.refl _ | assumption | refine Ext.trans (by assumption) ?_))).of ⟨rfl, rfl, rfl, by rw [← less_irrefl a]; rfl, trivial⟩
      · refine .skip rfl rfl ?_
        refine .skip rfl rfl ?_
        refine .skip rfl rfl ?_
        refine .p rfl rfl (.pickF rfl rfl) ?_
        refine .p rfl rfl (.pickF rfl rfl) ?_
        refine .p rfl rfl (.mv rfl) ?_
        refine .p rfl rfl (.loadA (n := 4) rfl rfl rfl rfl rfl (B3.ext (S := fun _ => False) (by repeat (first | exact Ext.refl _ | assumption | refine Ext.trans (by assumption) ?_)) (fun x => x)).cells) ?_
        refine .p rfl rfl (.loadA (n := 4) rfl rfl rfl rfl rfl (B3.ext (S := fun _ => False) (by repeat (first | exact Ext.refl _ | assumption | refine Ext.trans (by assumption) ?_)) (fun x => x)).cells) ?_
        refine .call (first := []) (captured := []) rfl rfl rfl rfl (Less_fn (a := a) (b := a) (allOf (tEntry.ext0 ha (by repeat (first | exact Ext.refl _ | assumption | refine Ext.trans (by assumption) ?_)))) (allOf (tEntry.ext0 ha (by repeat (first | exact Ext.refl _ | assumption | refine Ext.trans (by assumption) ?_))))) ?_
        rintro _ w39 ⟨rfl, X39⟩
        refine .p rfl rfl (.pickF rfl rfl) ?_
        refine .nil ?_
        exact (meet w39 (by repeat (first | exact Ext.refl _ | assumption | refine Ext.trans (by assumption) ?_))).of ⟨rfl, rfl, rfl, by rw [← less_irrefl a]; rfl, trivial⟩
end Go.Proofs.Ytgolflhoajafhaa
