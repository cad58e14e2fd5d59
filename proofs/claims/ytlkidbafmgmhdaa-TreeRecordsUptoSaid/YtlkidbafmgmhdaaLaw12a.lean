/-
  TreeRecords: walked.
-/
import Derived.Test.YtlkidbafmgmhdaaRTRead
set_option linter.unusedVariables false
set_option linter.unusedSimpArgs false
set_option maxRecDepth 20000
namespace Go.Proofs.Ytlkidbafmgmhdaa
open Go tree
theorem SameChangesT_fn {w : World} {v u : Value} {l : List Change} (hl : (Sl tChange).rep All w v l) (hm : (Sl tChange).rep All w u l) : Fn Try.prog 9 [v, u] w (fun r w2 => r = .bool true ∧ Ext (fun _ => False) w w2) :=
  (SameChanges_fn hl hm).mono fun r w2 ⟨h1, h2⟩ => ⟨h1.trans (by rw [decide_eq_true rfl]), h2⟩
theorem TreeRecords_fn {w : World} {v : Value} {l : List Change} {seq : Int} {src : Bs} (h : (Sl tChange).rep All w v l) (hb : l.length ≤ 1048576) (hl : src.length < Lim) : Fn Try.prog 3 [v, i64 seq, str src] w (fun r w2 => r = .bool true ∧ Ext (fun _ => False) w w2) := by
  obtain ⟨a, cap, rfl, hcap⟩ := Sl.val h
  refine Fn.enter (fun w => Try.call3 _ w) Try.func3 rfl ?_
  refine .seq (.region ?_)
  refine .p rfl rfl (.as rfl) ?_
  refine .nil (.code (.seq (.seq (.keep [(0, _), (1, _), (2, _)] ⟨rfl, rfl, rfl, trivial⟩ (.region ?_)))))
  refine .p rfl rfl (.mv rfl) ?_
  refine .call (first := []) (captured := []) rfl rfl rfl rfl (THeavy_fn h hb) ?_
  rintro _ w19 ⟨⟨q, rfl⟩, X19⟩
  refine .p rfl rfl (.mv rfl) ?_
  refine .case 20 rfl (fun c20 => ?_) (fun c20 => ?_)
  · refine .skip rfl rfl ?_
    refine .skip rfl rfl ?_
    refine .skip rfl rfl ?_
    refine .p rfl rfl (.pickT rfl rfl) ?_
    refine .nil (.code (.keep [(24, _), (0, _), (1, _), (2, _)] ⟨rfl, rfl, rfl, rfl, trivial⟩ (.condT rfl (.seq (.keep [] trivial (.region ?_))))))
    refine .p rfl rfl (.as rfl) ?_
    refine .nil (.code ?_)
    refine .ret _ rfl ?_
    exact ⟨rfl, (by repeat (first | exact Ext.refl _ | assumption | refine Ext.trans (by assumption) ?_))⟩
  · refine .p rfl rfl (.mv rfl) ?_
    refine .p rfl rfl (.lenS rfl rfl) ?_
    refine .p rfl rfl (.gt rfl rfl) ?_
    refine .p rfl rfl (.pickF rfl rfl) ?_
    refine .nil (.code (.keep [(24, _), (0, _), (1, _), (2, _)] ⟨rfl, rfl, rfl, rfl, trivial⟩ ?_))
    refine .condD rfl (fun c24 => ?_) (fun c24 => ?_)
    · refine .seq (.keep [] trivial (.region ?_))
      refine .p rfl rfl (.as rfl) ?_
      refine .nil (.code ?_)
      refine .ret _ rfl ?_
      exact ⟨rfl, (by repeat (first | exact Ext.refl _ | assumption | refine Ext.trans (by assumption) ?_))⟩
    · refine .skip (.code (.seq (.keep [(0, _), (1, _), (2, _)] ⟨rfl, rfl, rfl, trivial⟩ (.region ?_))))
      refine .p rfl rfl (.mv rfl) ?_
      refine .v rfl rfl (.appendLo (t := tChange) (Q := fun _ => False) (B := fun k => w19.heap.size ≤ k) (eb := 40) rfl OwnO.nil (fun k hk => hk) rfl (Sl.holds ((Sl tChange).ext0 h X19) (fun _ _ h => tChange.any h)) rfl rfl rfl rfl rfl rfl rfl (by simp; omega) (by simp [Lim]; omega) (fun _ h _ => h.elim)) ?_
      rintro r26 w26 ⟨G26, Y26⟩
      have X26 := Y26.mono (S' := fun _ => False) (fun k hk he => by have he : w19.heap.size ≤ k := he; omega)
      clear Y26
      rw [List.nil_append] at G26
      have R26 := OwnO.rep G26 (R := All) (fun _ _ _ => trivial) (fun _ h _ => h.elim)
      obtain ⟨a26, c26, rfl, hc26⟩ := OwnO.val G26
      refine .p rfl rfl (.as rfl) ?_
      refine .nil (.code (.seq (.keep [(7, _), (0, _), (1, _), (2, _)] ⟨rfl, rfl, rfl, rfl, trivial⟩ (.region ?_))))
      refine .p rfl rfl (.mv rfl) ?_
      refine .p rfl rfl (.mv rfl) ?_
      refine .call (first := []) (captured := []) rfl rfl rfl rfl (TWrite_fn (seq := seq) R26) ?_
      rintro _ w30 ⟨rfl, X30⟩
      refine .p rfl rfl (.mv rfl) ?_
      refine .p rfl rfl (.extract rfl rfl) ?_
      refine .p rfl rfl (.extract rfl rfl) ?_
      refine .p rfl rfl (.as rfl) ?_
      refine .p rfl rfl (.as rfl) ?_
      refine .nil (.code (.seq (.keep [(9, _), (8, _), (7, _), (0, _), (1, _), (2, _)] ⟨rfl, rfl, rfl, rfl, rfl, rfl, trivial⟩ (.region ?_))))
      refine .p rfl rfl (.mv rfl) ?_
      refine .p rfl rfl (.mv rfl) ?_
      refine .call (first := []) (captured := []) rfl rfl rfl rfl (RefTWrite_fn (seq := seq) ((Sl tChange).ext0 h (by repeat (first | exact Ext.refl _ | assumption | refine Ext.trans (by assumption) ?_)))) ?_
      rintro _ w36 ⟨rfl, X36⟩
      refine .p rfl rfl (.mv rfl) ?_
      refine .p rfl rfl (.extract rfl rfl) ?_
      refine .p rfl rfl (.extract rfl rfl) ?_
      refine .p rfl rfl (.as rfl) ?_
      refine .p rfl rfl (.as rfl) ?_
      refine .nil (.code (.seq (.keep [(11, _), (10, _), (9, _), (8, _), (7, _), (0, _), (2, _)] ⟨rfl, rfl, rfl, rfl, rfl, rfl, rfl, trivial⟩ (.region ?_))))
      refine .p rfl rfl (.mv rfl) ?_
      refine .call (first := []) (captured := []) rfl rfl rfl rfl (TRead_fn hl) ?_
      rintro _ w41 ⟨v41, rfl, G41, X41⟩
      have R41 := OwnO.rep G41 (R := All) (fun _ _ _ => trivial) (fun _ h _ => h.elim)
      refine .p rfl rfl (.mv rfl) ?_
      refine .p rfl rfl (.extract rfl rfl) ?_
      refine .p rfl rfl (.extract rfl rfl) ?_
      refine .p rfl rfl (.extract rfl rfl) ?_
      refine .p rfl rfl (.as rfl) ?_
      refine .p rfl rfl (.as rfl) ?_
      refine .p rfl rfl (.as rfl) ?_
      refine .nil (.code (.seq (.keep [(14, _), (13, _), (12, _), (11, _), (10, _), (9, _), (8, _), (7, _), (0, _), (2, _)] ⟨rfl, rfl, rfl, rfl, rfl, rfl, rfl, rfl, rfl, rfl, trivial⟩ (.region ?_))))
      refine .p rfl rfl (.mv rfl) ?_
      refine .call (first := []) (captured := []) rfl rfl rfl rfl (RefTRead_fn hl) ?_
      rintro _ w47 ⟨v47, rfl, G47, X47⟩
      have R47 := OwnO.rep G47 (R := All) (fun _ _ _ => trivial) (fun _ h _ => h.elim)
      refine .p rfl rfl (.mv rfl) ?_
      refine .p rfl rfl (.extract rfl rfl) ?_
      refine .p rfl rfl (.extract rfl rfl) ?_
      refine .p rfl rfl (.extract rfl rfl) ?_
      refine .p rfl rfl (.as rfl) ?_
      refine .p rfl rfl (.as rfl) ?_
      refine .p rfl rfl (.as rfl) ?_
      refine .nil (.code (.seq (.keep [(17, _), (16, _), (15, _), (14, _), (13, _), (12, _), (11, _), (10, _), (9, _), (8, _), (7, _), (0, _)] ⟨rfl, rfl, rfl, rfl, rfl, rfl, rfl, rfl, rfl, rfl, rfl, rfl, trivial⟩ (.region ?_))))
      refine .p rfl rfl (.mv rfl) ?_
      refine .p rfl rfl (.mv rfl) ?_
      refine .p rfl rfl (.yes (.eqS rfl rfl) (rfl)) ?_
      refine .p rfl rfl (.mv rfl) ?_
      refine .p rfl rfl (.mv rfl) ?_
      refine .p rfl rfl (.mv rfl) ?_
      refine .p rfl rfl (.yes (.eq rfl rfl) (rfl)) ?_
      refine .p rfl rfl (.pickT rfl rfl) ?_
      refine .p rfl rfl (.mv rfl) ?_
      refine .p rfl rfl (.mv rfl) ?_
      refine .p rfl rfl (.mv rfl) ?_
      refine .call (first := []) (captured := []) rfl rfl rfl rfl (SameChangesT_fn ((Sl tChange).ext0 R41 (by repeat (first | exact Ext.refl _ | assumption | refine Ext.trans (by assumption) ?_))) ((Sl tChange).ext0 R47 (by repeat (first | exact Ext.refl _ | assumption | refine Ext.trans (by assumption) ?_)))) ?_
      rintro _ w62 ⟨rfl, X62⟩
      refine .p rfl rfl (.pickT rfl rfl) ?_
      refine .p rfl rfl (.mv rfl) ?_
      refine .p rfl rfl (.mv rfl) ?_
      refine .p rfl rfl (.mv rfl) ?_
      refine .p rfl rfl (.yes (.eq rfl rfl) (rfl)) ?_
      refine .p rfl rfl (.pickT rfl rfl) ?_
      refine .p rfl rfl (.mv rfl) ?_
      refine .p rfl rfl (.mv rfl) ?_
      refine .p rfl rfl (.mv rfl) ?_
      refine .p rfl rfl (.yes (.eq rfl rfl) (rfl)) ?_
      refine .p rfl rfl (.pickT rfl rfl) ?_
      refine .p rfl rfl (.mv rfl) ?_
      refine .p rfl rfl (.mv rfl) ?_
      refine .p rfl rfl (.mv rfl) ?_
      refine .call (first := []) (captured := []) rfl rfl rfl rfl (SameChangesT_fn ((Sl tChange).ext0 R26 (by repeat (first | exact Ext.refl _ | assumption | refine Ext.trans (by assumption) ?_))) ((Sl tChange).ext0 h (by repeat (first | exact Ext.refl _ | assumption | refine Ext.trans (by assumption) ?_)))) ?_
      rintro _ w77 ⟨rfl, X77⟩
      refine .p rfl rfl (.pickT rfl rfl) ?_
      refine .p rfl rfl (.as rfl) ?_
      refine .nil (.code ?_)
      refine .ret _ rfl ?_
      exact ⟨rfl, (by repeat (first | exact Ext.refl _ | assumption | refine Ext.trans (by assumption) ?_))⟩
end Go.Proofs.Ytlkidbafmgmhdaa
