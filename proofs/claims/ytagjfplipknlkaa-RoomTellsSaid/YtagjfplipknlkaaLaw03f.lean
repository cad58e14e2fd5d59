
/-
  RoomTakes, RoomTells: beside the document's answer.
-/
import Derived.Test.YtagjfplipknlkaaRef03c
set_option linter.unusedVariables false
set_option linter.unusedSimpArgs false
set_option maxRecDepth 20000
namespace Go.Proofs.Ytagjfplipknlkaa
open Go room
theorem allOfP {P : Nat → Prop} {w : World} {v : Value} {l : List Piece} (h : (Sl tPiece).rep P w v l) : (Sl tPiece).rep All w v l := (Sl tPiece).mono h (fun _ _ _ => trivial)
theorem room.set_ct {cs : List Value} {i : Nat} {x : Value} (h : cs[2 * i + 1]? = some x) : cs.set (2 * i + 1) x = cs := by
  have : cs[2 * i + 1]'((List.getElem?_eq_some_iff.1 h).1) = x := (List.getElem?_eq_some_iff.1 h).2
  rw [← this, List.set_getElem_self]
theorem RoomTakes_fn {w : World} {v : Value} {l : List Piece} {first count many : Int} (h : (Sl tPiece).rep All w v l) : Fn Try.prog 6 [i64 first, i64 count, v, i64 many] w (fun r w2 => r = .bool true ∧ Ext (fun _ => False) w w2) := by
  obtain ⟨a, cap, rfl, hcap⟩ := Sl.val h
  refine Fn.enter (fun w => Try.call6 _ w) Try.func6 rfl ?_
  refine .seq (.region ?_)
  refine .p rfl rfl (.as rfl) ?_
  refine .nil (.code (.seq (.seq (.keep [(0, _), (1, _), (2, _), (3, _)] ⟨rfl, rfl, rfl, rfl, trivial⟩ (.region ?_)))))
  refine .p rfl rfl (.mv rfl) ?_
  refine .p rfl rfl (.len rfl rfl) ?_
  refine .p rfl rfl (.gt rfl rfl) ?_
  refine .nil (.code (.keep [(20, _), (0, _), (1, _), (2, _), (3, _)] ⟨rfl, rfl, rfl, rfl, rfl, trivial⟩ ?_))
  refine .condD rfl (fun c20 => ?_) (fun c20 => ?_)
  · refine .seq (.keep [] trivial (.region ?_))
    refine .p rfl rfl (.as rfl) ?_
    refine .nil (.code ?_)
    refine .ret _ rfl ?_
    exact ⟨rfl, .refl _⟩
  · refine .skip (.code (.seq (.keep [(0, _), (1, _), (2, _), (3, _)] ⟨rfl, rfl, rfl, rfl, trivial⟩ (.region ?_))))
    refine .p rfl rfl (.mv rfl) ?_
    refine .v rfl rfl (.appendLo (t := tPiece) (xs := []) (ys := l) (Q := fun _ => False) (B := fun k => w.heap.size ≤ k) (eb := 16) rfl OwnO.nil (fun k hk => hk) rfl (Sl.holds h (fun _ _ h => h)) rfl rfl rfl rfl rfl rfl rfl (by simp; omega) (by simp [Lim]; omega) (fun _ h _ => h.elim)) ?_
    rintro r22 w22 ⟨O22, Y22⟩
    rw [List.nil_append] at O22
    have X22 : Ext (fun _ => False) w w22 := (Ext.refl _).then Y22 (fun k hk _ => hk)
    have R22 := OwnO.rep O22 (R := All) (fun _ _ _ => trivial) (fun _ h _ => h.elim)
    refine .p rfl rfl (.as rfl) ?_
    refine .nil (.code (.seq (.keep [(9, _), (0, _), (1, _), (2, _), (3, _)] ⟨rfl, rfl, rfl, rfl, rfl, trivial⟩ (.region ?_))))
    refine .p rfl rfl (.mv rfl) ?_
    refine .p rfl rfl (.mv rfl) ?_
    refine .p rfl rfl (.mv rfl) ?_
    refine .call (first := []) (captured := []) rfl rfl rfl rfl (Free_fn R22) ?_
    rintro _ w27 ⟨v27, rfl, O27, X27⟩
    have R27 := OwnO.rep O27 (R := All) (fun _ _ _ => trivial) (fun _ h _ => h.elim)
    refine .p rfl rfl (.mv rfl) ?_
    refine .p rfl rfl (.extract rfl rfl) ?_
    refine .p rfl rfl (.extract rfl rfl) ?_
    refine .p rfl rfl (.as rfl) ?_
    refine .p rfl rfl (.as rfl) ?_
    refine .nil (.code (.seq (.keep [(11, _), (10, _), (9, _), (0, _), (1, _), (2, _), (3, _)] ⟨rfl, rfl, rfl, rfl, rfl, rfl, rfl, trivial⟩ (.region ?_))))
    refine .p rfl rfl (.mv rfl) ?_
    refine .p rfl rfl (.mv rfl) ?_
    refine .p rfl rfl (.mv rfl) ?_
    refine .call (first := []) (captured := []) rfl rfl rfl rfl (RefFree_fn ((Sl tPiece).ext0 h (by repeat (first | exact Ext.refl _ | assumption | refine Ext.trans (by assumption) ?_)))) ?_
    rintro _ w34 ⟨v34, rfl, O34, X34⟩
    have R34 := OwnO.rep O34 (R := All) (fun _ _ _ => trivial) (fun _ h _ => h.elim)
    refine .p rfl rfl (.mv rfl) ?_
    refine .p rfl rfl (.extract rfl rfl) ?_
    refine .p rfl rfl (.extract rfl rfl) ?_
    refine .p rfl rfl (.as rfl) ?_
    refine .p rfl rfl (.as rfl) ?_
    refine .nil (.code (.seq (.keep [(13, _), (12, _), (11, _), (10, _), (9, _), (0, _), (1, _), (2, _), (3, _)] ⟨rfl, rfl, rfl, rfl, rfl, rfl, rfl, rfl, rfl, trivial⟩ (.region ?_))))
    refine .p rfl rfl (.mv rfl) ?_
    refine .p rfl rfl (.mv rfl) ?_
    refine .p rfl rfl (.mv rfl) ?_
    refine .p rfl rfl (.mv rfl) ?_
    refine .call (first := []) (captured := []) rfl rfl rfl rfl (Take_fn ((Sl tPiece).ext0 R22 (by repeat (first | exact Ext.refl _ | assumption | refine Ext.trans (by assumption) ?_)))) ?_
    rintro _ w42 ⟨v42, rfl, O42, X42⟩
    have R42 := OwnO.rep O42 (R := All) (fun _ _ _ => trivial) (fun _ h _ => h.elim)
    refine .p rfl rfl (.mv rfl) ?_
    refine .p rfl rfl (.extract rfl rfl) ?_
    refine .p rfl rfl (.extract rfl rfl) ?_
    refine .p rfl rfl (.as rfl) ?_
    refine .p rfl rfl (.as rfl) ?_
    refine .nil (.code (.seq (.keep [(15, _), (14, _), (13, _), (12, _), (11, _), (10, _), (9, _), (0, _), (1, _), (2, _), (3, _)] ⟨rfl, rfl, rfl, rfl, rfl, rfl, rfl, rfl, rfl, rfl, rfl, trivial⟩ (.region ?_))))
    refine .p rfl rfl (.mv rfl) ?_
    refine .p rfl rfl (.mv rfl) ?_
    refine .p rfl rfl (.mv rfl) ?_
    refine .p rfl rfl (.mv rfl) ?_
    refine .call (first := []) (captured := []) rfl rfl rfl rfl (RefTake_fn ((Sl tPiece).ext0 h (by repeat (first | exact Ext.refl _ | assumption | refine Ext.trans (by assumption) ?_)))) ?_
    rintro _ w50 ⟨v50, rfl, O50, X50⟩
    have R50 := OwnO.rep O50 (R := All) (fun _ _ _ => trivial) (fun _ h _ => h.elim)
    refine .p rfl rfl (.mv rfl) ?_
    refine .p rfl rfl (.extract rfl rfl) ?_
    refine .p rfl rfl (.extract rfl rfl) ?_
    refine .p rfl rfl (.as rfl) ?_
    refine .p rfl rfl (.as rfl) ?_
    refine .nil (.code (.seq (.keep [(17, _), (16, _), (15, _), (14, _), (13, _), (12, _), (11, _), (10, _), (9, _), (1, _), (2, _)] ⟨rfl, rfl, rfl, rfl, rfl, rfl, rfl, rfl, rfl, rfl, rfl, trivial⟩ (.region ?_))))
    refine .p rfl rfl (.mv rfl) ?_
    refine .p rfl rfl (.mv rfl) ?_
    refine .call (first := []) (captured := []) rfl rfl rfl rfl (RoomCheck_fn ((Sl tPiece).ext0 R22 (by repeat (first | exact Ext.refl _ | assumption | refine Ext.trans (by assumption) ?_)))) ?_
    rintro _ w55 ⟨rfl, X55⟩
    refine .p rfl rfl (.mv rfl) ?_
    refine .p rfl rfl (.mv rfl) ?_
    refine .call (first := []) (captured := []) rfl rfl rfl rfl (RefCheck_fn ((Sl tPiece).ext0 h (by repeat (first | exact Ext.refl _ | assumption | refine Ext.trans (by assumption) ?_)))) ?_
    rintro _ w58 ⟨rfl, X58⟩
    refine .p rfl rfl (.yes (.eq rfl rfl) (rfl)) ?_
    refine .p rfl rfl (.mv rfl) ?_
    refine .p rfl rfl (.mv rfl) ?_
    refine .p rfl rfl (.mv rfl) ?_
    refine .p rfl rfl (.yes (.eq rfl rfl) (rfl)) ?_
    refine .p rfl rfl (.pickT rfl rfl) ?_
    refine .p rfl rfl (.mv rfl) ?_
    refine .p rfl rfl (.mv rfl) ?_
    refine .p rfl rfl (.mv rfl) ?_
    refine .call (first := []) (captured := []) rfl rfl rfl rfl (RefSameT_fn ((Sl tPiece).ext0 R27 (by repeat (first | exact Ext.refl _ | assumption | refine Ext.trans (by assumption) ?_))) ((Sl tPiece).ext0 R34 (by repeat (first | exact Ext.refl _ | assumption | refine Ext.trans (by assumption) ?_)))) ?_
    rintro _ w68 ⟨rfl, X68⟩
    refine .p rfl rfl (.pickT rfl rfl) ?_
    refine .p rfl rfl (.mv rfl) ?_
    refine .p rfl rfl (.mv rfl) ?_
    refine .p rfl rfl (.mv rfl) ?_
    refine .p rfl rfl (.yes (.eq rfl rfl) (rfl)) ?_
    refine .p rfl rfl (.pickT rfl rfl) ?_
    refine .p rfl rfl (.mv rfl) ?_
    refine .p rfl rfl (.mv rfl) ?_
    refine .p rfl rfl (.mv rfl) ?_
    refine .call (first := []) (captured := []) rfl rfl rfl rfl (RefSameT_fn ((Sl tPiece).ext0 R42 (by repeat (first | exact Ext.refl _ | assumption | refine Ext.trans (by assumption) ?_))) ((Sl tPiece).ext0 R50 (by repeat (first | exact Ext.refl _ | assumption | refine Ext.trans (by assumption) ?_)))) ?_
    rintro _ w78 ⟨rfl, X78⟩
    refine .p rfl rfl (.pickT rfl rfl) ?_
    refine .p rfl rfl (.mv rfl) ?_
    refine .p rfl rfl (.mv rfl) ?_
    refine .p rfl rfl (.mv rfl) ?_
    refine .call (first := []) (captured := []) rfl rfl rfl rfl (RefSameT_fn ((Sl tPiece).ext0 R22 (by repeat (first | exact Ext.refl _ | assumption | refine Ext.trans (by assumption) ?_))) ((Sl tPiece).ext0 h (by repeat (first | exact Ext.refl _ | assumption | refine Ext.trans (by assumption) ?_)))) ?_
    rintro _ w83 ⟨rfl, X83⟩
    refine .p rfl rfl (.pickT rfl rfl) ?_
    refine .p rfl rfl (.as rfl) ?_
    refine .nil (.code ?_)
    refine .ret _ rfl ?_
    exact ⟨rfl, (by repeat (first | exact Ext.refl _ | assumption | refine Ext.trans (by assumption) ?_))⟩
theorem RoomTells_fn {w : World} {v : Value} {l : List Piece} (h : (Sl tPiece).rep All w v l) : Fn Try.prog 4 [v] w (fun r w2 => r = .bool true ∧ Ext (fun _ => False) w w2) := by
  obtain ⟨a, cap, rfl, hcap⟩ := Sl.val h
  refine Fn.enter (fun w => Try.call4 _ w) Try.func4 rfl ?_
  refine .seq (.region ?_)
  refine .p rfl rfl (.as rfl) ?_
  refine .nil (.code (.seq (.seq (.keep [(0, _)] ⟨rfl, trivial⟩ (.region ?_)))))
  refine .p rfl rfl (.mv rfl) ?_
  refine .p rfl rfl (.len rfl rfl) ?_
  refine .p rfl rfl (.gt rfl rfl) ?_
  refine .nil (.code (.keep [(20, _), (0, _)] ⟨rfl, rfl, trivial⟩ ?_))
  refine .condD rfl (fun c20 => ?_) (fun c20 => ?_)
  · refine .seq (.keep [] trivial (.region ?_))
    refine .p rfl rfl (.as rfl) ?_
    refine .nil (.code ?_)
    refine .ret _ rfl ?_
    exact ⟨rfl, .refl _⟩
  · refine .skip (.code (.seq (.keep [(0, _)] ⟨rfl, trivial⟩ (.region ?_))))
    refine .p rfl rfl (.mv rfl) ?_
    refine .v rfl rfl (.appendLo (t := tPiece) (xs := []) (ys := l) (Q := fun _ => False) (B := fun k => w.heap.size ≤ k) (eb := 16) rfl OwnO.nil (fun k hk => hk) rfl (Sl.holds h (fun _ _ h => h)) rfl rfl rfl rfl rfl rfl rfl (by simp; omega) (by simp [Lim]; omega) (fun _ h _ => h.elim)) ?_
    rintro r22 w22 ⟨O22, Y22⟩
    rw [List.nil_append] at O22
    have X22 : Ext (fun _ => False) w w22 := (Ext.refl _).then Y22 (fun k hk _ => hk)
    have R22 := OwnO.rep O22 (R := All) (fun _ _ _ => trivial) (fun _ h _ => h.elim)
    refine .p rfl rfl (.as rfl) ?_
    refine .nil (.code (.seq (.keep [(3, _), (0, _)] ⟨rfl, rfl, trivial⟩ (.region ?_))))
    refine .p rfl rfl (.mv rfl) ?_
    refine .call (first := []) (captured := []) rfl rfl rfl rfl (RoomMany_fn R22) ?_
    rintro _ w25 ⟨rfl, X25⟩
    refine .p rfl rfl (.mv rfl) ?_
    refine .p rfl rfl (.extract rfl rfl) ?_
    refine .p rfl rfl (.extract rfl rfl) ?_
    refine .p rfl rfl (.as rfl) ?_
    refine .p rfl rfl (.as rfl) ?_
    refine .nil (.code (.seq (.keep [(5, _), (4, _), (3, _), (0, _)] ⟨rfl, rfl, rfl, rfl, trivial⟩ (.region ?_))))
    refine .p rfl rfl (.mv rfl) ?_
    refine .call (first := []) (captured := []) rfl rfl rfl rfl (RefMany_fn ((Sl tPiece).ext0 h (by repeat (first | exact Ext.refl _ | assumption | refine Ext.trans (by assumption) ?_)))) ?_
    rintro _ w30 ⟨rfl, X30⟩
    refine .p rfl rfl (.mv rfl) ?_
    refine .p rfl rfl (.extract rfl rfl) ?_
    refine .p rfl rfl (.extract rfl rfl) ?_
    refine .p rfl rfl (.as rfl) ?_
    refine .p rfl rfl (.as rfl) ?_
    refine .nil (.code (.seq (.keep [(7, _), (6, _), (5, _), (4, _), (3, _), (0, _)] ⟨rfl, rfl, rfl, rfl, rfl, rfl, trivial⟩ (.region ?_))))
    refine .p rfl rfl (.mv rfl) ?_
    refine .call (first := []) (captured := []) rfl rfl rfl rfl (Join_fn ((Sl tPiece).ext0 R22 (by repeat (first | exact Ext.refl _ | assumption | refine Ext.trans (by assumption) ?_)))) ?_
    rintro _ w35 ⟨v35, rfl, O35, X35⟩
    have R35 := OwnO.rep O35 (R := All) (fun _ _ _ => trivial) (fun _ h _ => h.elim)
    refine .p rfl rfl (.mv rfl) ?_
    refine .p rfl rfl (.extract rfl rfl) ?_
    refine .p rfl rfl (.extract rfl rfl) ?_
    refine .p rfl rfl (.as rfl) ?_
    refine .p rfl rfl (.as rfl) ?_
    refine .nil (.code (.seq (.keep [(9, _), (8, _), (7, _), (6, _), (5, _), (4, _), (3, _), (0, _)] ⟨rfl, rfl, rfl, rfl, rfl, rfl, rfl, rfl, trivial⟩ (.region ?_))))
    refine .p rfl rfl (.mv rfl) ?_
    refine .call (first := []) (captured := []) rfl rfl rfl rfl (RefJoin_fn ((Sl tPiece).ext0 h (by repeat (first | exact Ext.refl _ | assumption | refine Ext.trans (by assumption) ?_)))) ?_
    rintro _ w40 ⟨v40, rfl, O40, X40⟩
    have R40 := OwnO.rep O40 (R := All) (fun _ _ _ => trivial) (fun _ h _ => h.elim)
    refine .p rfl rfl (.mv rfl) ?_
    refine .p rfl rfl (.extract rfl rfl) ?_
    refine .p rfl rfl (.extract rfl rfl) ?_
    refine .p rfl rfl (.as rfl) ?_
    refine .p rfl rfl (.as rfl) ?_
    refine .nil (.code (.seq (.keep [(11, _), (10, _), (9, _), (8, _), (7, _), (6, _), (5, _), (4, _), (3, _), (0, _)] ⟨rfl, rfl, rfl, rfl, rfl, rfl, rfl, rfl, rfl, rfl, trivial⟩ (.region ?_))))
    refine .p rfl rfl (.mv rfl) ?_
    refine .call (first := []) (captured := []) rfl rfl rfl rfl (Sectors_fn ((Sl tPiece).ext0 R22 (by repeat (first | exact Ext.refl _ | assumption | refine Ext.trans (by assumption) ?_)))) ?_
    rintro _ w45 ⟨v45, rfl, O45, X45⟩
    have R45 := OwnO.rep O45 (R := All) (fun _ _ _ => trivial) (fun _ h _ => h.elim)
    refine .p rfl rfl (.mv rfl) ?_
    refine .p rfl rfl (.extract rfl rfl) ?_
    refine .p rfl rfl (.extract rfl rfl) ?_
    refine .p rfl rfl (.as rfl) ?_
    refine .p rfl rfl (.as rfl) ?_
    refine .nil (.code (.seq (.keep [(13, _), (12, _), (11, _), (10, _), (9, _), (8, _), (7, _), (6, _), (5, _), (4, _), (3, _), (0, _)] ⟨rfl, rfl, rfl, rfl, rfl, rfl, rfl, rfl, rfl, rfl, rfl, rfl, trivial⟩ (.region ?_))))
    refine .p rfl rfl (.mv rfl) ?_
    refine .call (first := []) (captured := []) rfl rfl rfl rfl (RefSectors_fn ((Sl tPiece).ext0 h (by repeat (first | exact Ext.refl _ | assumption | refine Ext.trans (by assumption) ?_)))) ?_
    rintro _ w50 ⟨v50, rfl, O50, X50⟩
    have R50 := OwnO.rep O50 (R := All) (fun _ _ _ => trivial) (fun _ h _ => h.elim)
    generalize hJ : (if checkR 4096 l = 0 then joinF l else []) = J at O35 R35 R40
    generalize hS : (if checkR 4096 l = 0 then sectF l else []) = S at R45 R50
    obtain ⟨a45, c45, rfl, hc45⟩ := Sl.val R45
    obtain ⟨a50, c50, rfl, hc50⟩ := Sl.val R50
    obtain ⟨a35, c35, rfl, hc35⟩ := Sl.val R35
    have hSl := Sl.lim R45
    have hJl := Sl.lim R35
    simp only [Lim] at hSl hJl
    refine .p rfl rfl (.mv rfl) ?_
    refine .p rfl rfl (.extract rfl rfl) ?_
    refine .p rfl rfl (.extract rfl rfl) ?_
    refine .p rfl rfl (.as rfl) ?_
    refine .p rfl rfl (.as rfl) ?_
    refine .nil (.code (.seq (.seq (.keep [(15, _), (14, _), (13, _), (12, _), (11, _), (10, _), (9, _), (8, _), (7, _), (6, _), (5, _), (4, _), (3, _), (0, _)] ⟨rfl, rfl, rfl, rfl, rfl, rfl, rfl, rfl, rfl, rfl, rfl, rfl, rfl, rfl, trivial⟩ (.region ?_)))))
    refine .p rfl rfl (.mv rfl) ?_
    refine .p rfl rfl (.mv rfl) ?_
    refine .p rfl rfl (.no (.ne rfl rfl) (fun h => h rfl)) ?_
    refine .p rfl rfl (.mv rfl) ?_
    refine .p rfl rfl (.mv rfl) ?_
    refine .p rfl rfl (.mv rfl) ?_
    refine .p rfl rfl (.no (.ne rfl rfl) (fun h => h rfl)) ?_
    refine .p rfl rfl (.pickF rfl rfl) ?_
    refine .p rfl rfl (.mv rfl) ?_
    refine .p rfl rfl (.mv rfl) ?_
    refine .p rfl rfl (.mv rfl) ?_
    refine .p rfl rfl (.no (.ne rfl rfl) (fun h => h rfl)) ?_
    refine .p rfl rfl (.pickF rfl rfl) ?_
    refine .p rfl rfl (.mv rfl) ?_
    refine .p rfl rfl (.mv rfl) ?_
    refine .p rfl rfl (.mv rfl) ?_
    refine .call (first := []) (captured := []) rfl rfl rfl rfl (RefSameT_fn ((Sl tPiece).ext0 R35 (by repeat (first | exact Ext.refl _ | assumption | refine Ext.trans (by assumption) ?_))) ((Sl tPiece).ext0 R40 (by repeat (first | exact Ext.refl _ | assumption | refine Ext.trans (by assumption) ?_)))) ?_
    rintro _ w69 ⟨rfl, X69⟩
    have Z69 : Ext (fun _ => False) w30 w69 := (by repeat (first | exact Ext.refl _ | assumption | refine Ext.trans (by assumption) ?_))
    have Z30 : Ext (fun _ => False) w w30 := (by repeat (first | exact Ext.refl _ | assumption | refine Ext.trans (by assumption) ?_))
    have hA := (Sl tInt).ext0 R45 (X50.trans X69)
    have hB := (Sl tInt).ext0 R50 X69
    have hO0 := OwnO.ext0 O35 (((X40.trans X45).trans X50).trans X69)
    have hr0 : (Sl tPiece).rep (fun k => k < w30.heap.size) w69 r22 l := (Sl tPiece).ext0 ((Sl tPiece).mono ((Sl tPiece).ext0 R22 (X25.trans X30)) (fun k _ hk => hk)) Z69
    have hv0 : (Sl tPiece).rep (fun k => k < w30.heap.size) w69 (.slice a l.length cap) l := (Sl tPiece).ext0 ((Sl tPiece).mono ((Sl tPiece).ext0 h Z30) (fun k _ hk => hk)) Z69
    refine .p rfl rfl (.not rfl) ?_
    refine .p rfl rfl (.pickF rfl rfl) ?_
    refine .p rfl rfl (.mv rfl) ?_
    refine .p rfl rfl (.mv rfl) ?_
    refine .p rfl rfl (.mv rfl) ?_
    refine .p rfl rfl (.no (.ne rfl rfl) (fun h => h rfl)) ?_
    refine .p rfl rfl (.pickF rfl rfl) ?_
    refine .p rfl rfl (.mv rfl) ?_
    refine .p rfl rfl (.mv rfl) ?_
    refine .p rfl rfl (.len rfl rfl) ?_
    refine .p rfl rfl (.mv rfl) ?_
    refine .p rfl rfl (.len rfl rfl) ?_
    refine .p rfl rfl (.no (.ne rfl rfl) (fun h => h rfl)) ?_
    refine .p rfl rfl (.pickF rfl rfl) ?_
    refine .nil (.code (.keep [(83, _), (14, _), (12, _), (8, _), (3, _), (0, _)] ⟨rfl, rfl, rfl, rfl, rfl, rfl, trivial⟩ (.condF rfl (.skip (.code (.seq (.seq (.keep [(14, _), (12, _), (8, _), (3, _), (0, _)] ⟨rfl, rfl, rfl, rfl, rfl, trivial⟩ (.region ?_)))))))))
    refine .p rfl rfl (.as rfl) ?_
    refine .nil (.code (.block ?_))
    refine .loop (S := Nat) (fun s => [(0, .slice a l.length cap), (3, r22), (8, .slice a35 J.length c35), (12, .slice a45 S.length c45), (14, .slice a50 S.length c50), (16, i64 s)]) (fun s => w69) (fun s => s ≤ S.length) (fun s => S.length - s) 0 ⟨rfl, rfl, rfl, rfl, rfl, rfl, trivial⟩ rfl (Nat.zero_le _) ?_
    intro i J0 hi' again
    refine .seq (.seq (.region ?_))
    refine .p rfl rfl (.mv rfl) ?_
    refine .p rfl rfl (.mv rfl) ?_
    refine .p rfl rfl (.len rfl rfl) ?_
    refine .p rfl rfl (.lt rfl rfl) ?_
    refine .nil (.code (.keep [(87, _), (0, _), (3, _), (8, _), (12, _), (14, _), (16, _)] ⟨rfl, rfl, rfl, rfl, rfl, rfl, rfl, trivial⟩ ?_))
    refine .condD rfl (fun c87 => ?_) (fun c87 => ?_)
    · have hi : i < S.length := by omega
      obtain ⟨b1, o1, q1, ue, e, _, hcs, hre⟩ := Sl.at hA (List.getElem?_eq_getElem hi)
      cases e
      obtain ⟨rfl, hr1⟩ := hre
      obtain ⟨b3, o3, q3, ue3, e3, _, hct, hrt⟩ := Sl.at hB (List.getElem?_eq_getElem hi)
      cases e3
      obtain ⟨rfl, hr3⟩ := hrt
      have hA0 : w69.cell? { block := b1, off := o1 + i } = some (i64 S[i]) := by have := hcs 0 _ rfl; rw [show tInt.size = 1 from rfl, Nat.mul_one] at this; exact this
      have hB0 : w69.cell? { block := b3, off := o3 + i } = some (i64 S[i]) := by have := hct 0 _ rfl; rw [show tInt.size = 1 from rfl, Nat.mul_one] at this; exact this
      refine .skip (.code (.seq (.block (.seq (.keep [(0, _), (3, _), (8, _), (12, _), (14, _), (16, _)] ⟨rfl, rfl, rfl, rfl, rfl, rfl, trivial⟩ (.draws (by kernel_rfl) (by kernel_rfl) ?_))))))
      refine .p rfl rfl (.mv rfl) ?_
      refine .p rfl rfl (.mv rfl) ?_
      refine .p rfl rfl (.indexAddr1 rfl rfl rfl rfl (by omega)) ?_
      refine .p rfl rfl (.load rfl rfl rfl (by rw [Int.toNat_natCast]; exact hA0)) ?_
      refine .p rfl rfl (.mv rfl) ?_
      refine .p rfl rfl (.mv rfl) ?_
      refine .p rfl rfl (.indexAddr1 rfl rfl rfl rfl (by omega)) ?_
      refine .p rfl rfl (.load rfl rfl rfl (by rw [Int.toNat_natCast]; exact hB0)) ?_
      refine .p rfl rfl (.no (.ne rfl rfl) (fun h => h rfl)) ?_
      refine .nil (.code (.keep [(98, _), (0, _), (3, _), (8, _), (12, _), (14, _), (16, _)] ⟨rfl, rfl, rfl, rfl, rfl, rfl, rfl, trivial⟩ (.condF rfl (.skip (.blk (.code (.keep [(0, _), (3, _), (8, _), (12, _), (14, _), (16, _)] ⟨rfl, rfl, rfl, rfl, rfl, rfl, trivial⟩ (.region ?_))))))))
      refine .p rfl rfl (.mv rfl) ?_
      refine .p rfl rfl (.add rfl rfl (by omega)) ?_
      refine .p rfl rfl (.as rfl) ?_
      refine .nil ?_
      exact (again (i + 1) (by show i + 1 ≤ _; omega) (by show _ - (i + 1) < _ - i; omega)).of ⟨rfl, rfl, rfl, rfl, rfl, rfl, trivial⟩
    · refine .exit rfl (.code (.seq (.seq (.keep [(0, _), (3, _), (8, _)] ⟨rfl, rfl, rfl, trivial⟩ (.region ?_)))))
      refine .p rfl rfl (.as rfl) ?_
      refine .nil (.code (.block ?_))
      refine .loop (S := Nat × World × List Piece) (fun s => [(0, .slice a l.length cap), (3, r22), (8, .slice a35 J.length c35), (17, i64 s.1)]) (fun s => s.2.1) (fun s => s.1 ≤ J.length ∧ s.2.2.length = J.length ∧ OwnO tPiece (fun _ => False) 30 s.2.1 (.slice a35 J.length c35) s.2.2 (fun k => w30.heap.size ≤ k) ∧ Ext (fun k => w30.heap.size ≤ k) w69 s.2.1) (fun s => J.length - s.1) (0, w69, J) ⟨rfl, rfl, rfl, rfl, trivial⟩ rfl ⟨Nat.zero_le _, rfl, hO0, .refl _⟩ ?_
      rintro ⟨i, wi, xs⟩ J0 ⟨hi', hxl, hO, hX⟩ again
      simp only at hi' hxl hO hX
      change G _ [(0, .slice a l.length cap), (3, r22), (8, .slice a35 J.length c35), (17, i64 i)] _ _ wi
      refine .seq (.seq (.region ?_))
      refine .p rfl rfl (.mv rfl) ?_
      refine .p rfl rfl (.mv rfl) ?_
      refine .p rfl rfl (.len rfl rfl) ?_
      refine .p rfl rfl (.lt rfl rfl) ?_
      refine .nil (.code (.keep [(102, _), (0, _), (3, _), (8, _), (17, _)] ⟨rfl, rfl, rfl, rfl, rfl, trivial⟩ ?_))
      refine .condD rfl (fun c102 => ?_) (fun c102 => ?_)
      · have hi : i < J.length := by omega
        obtain ⟨b2, cap2, cs, hv, hbB, hblt, Bo, h5, h6, h7, h8, hup⟩ := OwnO_elem hO (i := i) (by omega)
        injection hv with e1 e2 e3
        subst e1
        refine .skip (.code (.seq (.block (.keep [(0, _), (3, _), (8, _), (17, _)] ⟨rfl, rfl, rfl, rfl, trivial⟩ (.region ?_)))))
        refine .p rfl rfl (.mv rfl) ?_
        refine .p rfl rfl (.mv rfl) ?_
        refine .p rfl rfl (.indexAddr (s := 2) rfl rfl rfl rfl (by omega)) ?_
        refine .p rfl rfl (.fieldAddr rfl rfl rfl rfl) ?_
        refine .s rfl (.store rfl rfl rfl rfl rfl Bo (by show 0 + ((i : Nat) : Int).toNat * 2 + 0 < cs.length; rw [Int.toNat_natCast]; omega)) ?_
        intro w8 P8
        have B8 : Blk w8 b2 30 (cs.set (0 + ((i : Nat) : Int).toNat * 2 + 0) (i64 77)) := P8.blk
        have hX := hX.trans (P8.ext.mono (fun k _ h => by have h : k = b2 := h; show w30.heap.size ≤ k; rw [h]; exact Nat.le_trans (Nat.le_refl _) hbB))
        rw [Int.toNat_natCast, show 0 + i * 2 + 0 = 2 * i by omega] at B8
        refine .nil (.blk (.code (.keep [(0, _), (3, _), (8, _), (17, _)] ⟨rfl, rfl, rfl, rfl, trivial⟩ (.region ?_))))
        refine .p rfl rfl (.mv rfl) ?_
        refine .p rfl rfl (.add rfl rfl (by omega)) ?_
        refine .p rfl rfl (.as rfl) ?_
        refine .nil ?_
        refine (again (i + 1, w8, xs.set i ⟨77, (xs[i]'(by omega)).ct⟩) ⟨by show i + 1 ≤ _; omega, by show (xs.set i _).length = _; rw [List.length_set]; exact hxl, ?_, hX⟩ (by show _ - (i + 1) < _ - i; omega)).of ⟨rfl, rfl, rfl, rfl, trivial⟩
        refine hup w8 ⟨77, (xs[i]'(by omega)).ct⟩ ⟨by show (-9223372036854775808 : Int) ≤ 77 ∧ (77 : Int) ≤ 9223372036854775807; decide, h8.2⟩ ?_
        rw [set_ct (x := i64 (xs[i]'(by omega)).ct) (by rw [List.getElem?_set_ne (by omega)]; exact h6)]
        exact B8
      · refine .exit rfl (.code (.seq (.keep [(0, _), (3, _)] ⟨rfl, rfl, trivial⟩ (.region ?_))))
        refine .p rfl rfl (.mv rfl) ?_
        refine .p rfl rfl (.mv rfl) ?_
        refine .call (first := []) (captured := []) rfl rfl rfl rfl (RefSameT_fn (allOfP ((Sl tPiece).ext hr0 hX (fun k h1 _ h2 => by have h1 : k < w30.heap.size := h1; have h2 : w30.heap.size ≤ k := h2; omega))) (allOfP ((Sl tPiece).ext hv0 hX (fun k h1 _ h2 => by have h1 : k < w30.heap.size := h1; have h2 : w30.heap.size ≤ k := h2; omega)))) ?_
        rintro _ w111 ⟨rfl, X111⟩
        refine .p rfl rfl (.as rfl) ?_
        refine .nil (.code ?_)
        refine .ret _ rfl ?_
        exact ⟨rfl, ((Z30.trans Z69).then hX (fun k hk _ => Nat.le_trans Z30.size hk)).trans X111⟩
end Go.Proofs.Ytagjfplipknlkaa
