
/-
  RoomNames: the chapter's examples.
-/
import Derived.Test.YtagjfplipknlkaaLaw03a
import Derived.Test.YtagjfplipknlkaaRoomSum
set_option linter.unusedVariables false
set_option linter.unusedSimpArgs false
set_option maxRecDepth 20000
namespace Go.Proofs.Ytagjfplipknlkaa
open Go room
theorem sameT_fn {w : World} {v u : Value} {l : List Piece} (hl : (Sl tPiece).rep All w v l) (hm : (Sl tPiece).rep All w u l) : Fn Try.prog 19 [v, u] w (fun r w2 => r = .bool true ∧ Ext (fun _ => False) w w2) :=
  (same_fn hl hm).mono (fun r w2 h => ⟨by rw [h.1, decide_eq_true rfl], h.2⟩)
namespace room
def jP : List Piece := [⟨5, 1⟩, ⟨3, 2⟩]
theorem j_c : checkR 4096 jP = 0 := by decide
theorem j_l : joinF jP = [⟨3, 3⟩] := by
  unfold joinF
  rw [show 4096 = 6 + 4090 from rfl, runs_skip (fun k h1 h2 => covB_false (fun p hp hh => by
    rcases List.mem_cons.1 hp with rfl | hp
    · simp only at hh; omega
    · rcases List.mem_cons.1 hp with rfl | hp
      · simp only at hh; omega
      · cases hp))]
  decide
theorem j_s : sectF jP = [5, 3, 4] := by decide
theorem t_2 : takeE 2 10 twoP 2 = 0 ∧ takeL 2 10 twoP 2 = [⟨2, 1⟩, ⟨5, 1⟩] := by decide
theorem t_5 : takeE 2 10 twoP 5 = 0 ∧ takeL 2 10 twoP 5 = [⟨2, 1⟩, ⟨5, 2⟩, ⟨8, 2⟩] := by decide
theorem t_6 : takeE 2 10 twoP 6 = 30 := by decide
end room
theorem RoomNames_fn {w : World} : Fn Try.prog 8 [] w (fun r w2 => r = .bool true ∧ Ext (fun _ => False) w w2) := by
  refine Fn.enter (fun w => Try.call8 _ w) Try.func8 rfl ?_
  refine .seq (.region ?_)
  refine .p rfl rfl (.as rfl) ?_
  refine .nil (.code (.seq (.keep [] trivial (.region ?_))))
  refine .call (first := []) (captured := []) rfl rfl rfl rfl (two_fn) ?_
  rintro r14 w14 ⟨R14, X14⟩
  refine .call (first := []) (captured := []) rfl rfl rfl rfl (Take_fn (first := 2) (count := 10) (many := 2) R14) ?_
  rintro _ w15 ⟨v15, rfl, O15, X15⟩
  rw [t_2.1]
  rw [t_2.2] at O15
  have R15 := OwnO.rep O15 (R := All) (fun _ _ _ => trivial) (fun _ h _ => h.elim)
  obtain ⟨a15, c15, rfl, hc15⟩ := OwnO.val O15
  refine .p rfl rfl (.mv rfl) ?_
  refine .p rfl rfl (.extract rfl rfl) ?_
  refine .p rfl rfl (.extract rfl rfl) ?_
  refine .p rfl rfl (.as rfl) ?_
  refine .p rfl rfl (.as rfl) ?_
  refine .nil (.code (.seq (.keep [(2, _), (1, _)] ⟨rfl, rfl, trivial⟩ (.region ?_))))
  refine .call (first := []) (captured := []) rfl rfl rfl rfl (two_fn) ?_
  rintro r19 w19 ⟨R19, X19⟩
  refine .call (first := []) (captured := []) rfl rfl rfl rfl (Take_fn (first := 2) (count := 10) (many := 5) R19) ?_
  rintro _ w20 ⟨v20, rfl, O20, X20⟩
  rw [t_5.1]
  rw [t_5.2] at O20
  have R20 := OwnO.rep O20 (R := All) (fun _ _ _ => trivial) (fun _ h _ => h.elim)
  obtain ⟨a20, c20, rfl, hc20⟩ := OwnO.val O20
  refine .p rfl rfl (.mv rfl) ?_
  refine .p rfl rfl (.extract rfl rfl) ?_
  refine .p rfl rfl (.extract rfl rfl) ?_
  refine .p rfl rfl (.as rfl) ?_
  refine .p rfl rfl (.as rfl) ?_
  refine .nil (.code (.seq (.keep [(4, _), (3, _), (2, _), (1, _)] ⟨rfl, rfl, rfl, rfl, trivial⟩ (.region ?_))))
  refine .call (first := []) (captured := []) rfl rfl rfl rfl (two_fn) ?_
  rintro r24 w24 ⟨R24, X24⟩
  refine .call (first := []) (captured := []) rfl rfl rfl rfl (Take_fn (first := 2) (count := 10) (many := 6) R24) ?_
  rintro _ w25 ⟨v25, rfl, O25, X25⟩
  rw [t_6]
  refine .p rfl rfl (.mv rfl) ?_
  refine .p rfl rfl (.extract rfl rfl) ?_
  refine .p rfl rfl (.extract rfl rfl) ?_
  refine .p rfl rfl (.as rfl) ?_
  refine .p rfl rfl (.as rfl) ?_
  refine .nil (.code (.seq (.keep [(6, _), (4, _), (3, _), (2, _), (1, _)] ⟨rfl, rfl, rfl, rfl, rfl, trivial⟩ (.region ?_))))
  refine .p rfl rfl (.build (cs := [i64 5, i64 1]) rfl (fun _ => by kernel_rfl)) ?_
  refine .p rfl rfl (.build (cs := [i64 3, i64 2]) rfl (fun _ => by kernel_rfl)) ?_
  refine .v rfl rfl (.lits rfl rfl (fun _ => by kernel_rfl)) ?_
  rintro _ w31 ⟨rfl, N31⟩
  have R31 : (Sl tPiece).rep All w31 (.slice _ 2 2) [⟨5, 1⟩, ⟨3, 2⟩] := Sl.mk (us := [.agg #[i64 5, i64 1], .agg #[i64 3, i64 2]]) (.cons (tPiece.mk (p := ⟨5, 1⟩) (by decide) (by decide)) (.cons (tPiece.mk (p := ⟨3, 2⟩) (by decide) (by decide)) .nil)) (by have := N31.blk.cells; exact this) trivial N31.blk.lt (by simp) (by simp [Lim]) rfl
  have X31 := N31.ext
  refine .call (first := []) (captured := []) rfl rfl rfl rfl (Join_fn (l := jP) R31) ?_
  rintro _ w32 ⟨v32, rfl, O32, X32⟩
  rw [j_c, if_pos rfl, j_l] at O32
  rw [j_c]
  have R32 := OwnO.rep O32 (R := All) (fun _ _ _ => trivial) (fun _ h _ => h.elim)
  obtain ⟨a32, c32, rfl, hc32⟩ := OwnO.val O32
  refine .p rfl rfl (.mv rfl) ?_
  refine .p rfl rfl (.extract rfl rfl) ?_
  refine .p rfl rfl (.extract rfl rfl) ?_
  refine .p rfl rfl (.as rfl) ?_
  refine .p rfl rfl (.as rfl) ?_
  refine .nil (.code (.seq (.keep [(8, _), (7, _), (6, _), (4, _), (3, _), (2, _), (1, _)] ⟨rfl, rfl, rfl, rfl, rfl, rfl, rfl, trivial⟩ (.region ?_))))
  refine .p rfl rfl (.build (cs := [i64 5, i64 1]) rfl (fun _ => by kernel_rfl)) ?_
  refine .p rfl rfl (.build (cs := [i64 3, i64 2]) rfl (fun _ => by kernel_rfl)) ?_
  refine .v rfl rfl (.lits rfl rfl (fun _ => by kernel_rfl)) ?_
  rintro _ w38 ⟨rfl, N38⟩
  have R38 : (Sl tPiece).rep All w38 (.slice _ 2 2) [⟨5, 1⟩, ⟨3, 2⟩] := Sl.mk (us := [.agg #[i64 5, i64 1], .agg #[i64 3, i64 2]]) (.cons (tPiece.mk (p := ⟨5, 1⟩) (by decide) (by decide)) (.cons (tPiece.mk (p := ⟨3, 2⟩) (by decide) (by decide)) .nil)) (by have := N38.blk.cells; exact this) trivial N38.blk.lt (by simp) (by simp [Lim]) rfl
  have X38 := N38.ext
  refine .call (first := []) (captured := []) rfl rfl rfl rfl (Sectors_fn (l := jP) R38) ?_
  rintro _ w39 ⟨v39, rfl, O39, X39⟩
  rw [j_c, if_pos rfl, j_s] at O39
  rw [j_c]
  have R39 := OwnO.rep O39 (R := All) (fun _ _ _ => trivial) (fun _ h _ => h.elim)
  obtain ⟨a39, c39, rfl, hc39⟩ := OwnO.val O39
  refine .p rfl rfl (.mv rfl) ?_
  refine .p rfl rfl (.extract rfl rfl) ?_
  refine .p rfl rfl (.extract rfl rfl) ?_
  refine .p rfl rfl (.as rfl) ?_
  refine .p rfl rfl (.as rfl) ?_
  refine .nil (.code (.seq (.keep [(10, _), (9, _), (8, _), (7, _), (6, _), (4, _), (3, _), (2, _), (1, _)] ⟨rfl, rfl, rfl, rfl, rfl, rfl, rfl, rfl, rfl, trivial⟩ (.region ?_))))
  refine .p rfl rfl (.mv rfl) ?_
  refine .p rfl rfl (.yes (.eq rfl rfl) (rfl)) ?_
  refine .p rfl rfl (.mv rfl) ?_
  refine .p rfl rfl (.mv rfl) ?_
  refine .p rfl rfl (.build (cs := [i64 2, i64 1]) rfl (fun _ => by kernel_rfl)) ?_
  refine .p rfl rfl (.build (cs := [i64 5, i64 1]) rfl (fun _ => by kernel_rfl)) ?_
  refine .v rfl rfl (.lits rfl rfl (fun _ => by kernel_rfl)) ?_
  rintro _ w48 ⟨rfl, N48⟩
  have R48 : (Sl tPiece).rep All w48 (.slice _ 2 2) [⟨2, 1⟩, ⟨5, 1⟩] := Sl.mk (us := [.agg #[i64 2, i64 1], .agg #[i64 5, i64 1]]) (.cons (tPiece.mk (p := ⟨2, 1⟩) (by decide) (by decide)) (.cons (tPiece.mk (p := ⟨5, 1⟩) (by decide) (by decide)) .nil)) (by have := N48.blk.cells; exact this) trivial N48.blk.lt (by simp) (by simp [Lim]) rfl
  have X48 := N48.ext
  refine .call (first := []) (captured := []) rfl rfl rfl rfl (sameT_fn ((Sl tPiece).ext0 R15 (by repeat (first | exact Ext.refl _ | assumption | refine Ext.trans (by assumption) ?_))) ((Sl tPiece).ext0 R48 (by repeat (first | exact Ext.refl _ | assumption | refine Ext.trans (by assumption) ?_)))) ?_
  rintro _ w49 ⟨rfl, X49⟩
  refine .p rfl rfl (.pickT rfl rfl) ?_
  refine .p rfl rfl (.mv rfl) ?_
  refine .p rfl rfl (.mv rfl) ?_
  refine .p rfl rfl (.yes (.eq rfl rfl) (rfl)) ?_
  refine .p rfl rfl (.pickT rfl rfl) ?_
  refine .p rfl rfl (.mv rfl) ?_
  refine .p rfl rfl (.mv rfl) ?_
  refine .p rfl rfl (.build (cs := [i64 2, i64 1]) rfl (fun _ => by kernel_rfl)) ?_
  refine .p rfl rfl (.build (cs := [i64 5, i64 2]) rfl (fun _ => by kernel_rfl)) ?_
  refine .p rfl rfl (.build (cs := [i64 8, i64 2]) rfl (fun _ => by kernel_rfl)) ?_
  refine .v rfl rfl (.lits rfl rfl (fun _ => by kernel_rfl)) ?_
  rintro _ w60 ⟨rfl, N60⟩
  have R60 : (Sl tPiece).rep All w60 (.slice _ 3 3) [⟨2, 1⟩, ⟨5, 2⟩, ⟨8, 2⟩] := Sl.mk (us := [.agg #[i64 2, i64 1], .agg #[i64 5, i64 2], .agg #[i64 8, i64 2]]) (.cons (tPiece.mk (p := ⟨2, 1⟩) (by decide) (by decide)) (.cons (tPiece.mk (p := ⟨5, 2⟩) (by decide) (by decide)) (.cons (tPiece.mk (p := ⟨8, 2⟩) (by decide) (by decide)) .nil))) (by have := N60.blk.cells; exact this) trivial N60.blk.lt (by simp) (by simp [Lim]) rfl
  have X60 := N60.ext
  refine .call (first := []) (captured := []) rfl rfl rfl rfl (sameT_fn ((Sl tPiece).ext0 R20 (by repeat (first | exact Ext.refl _ | assumption | refine Ext.trans (by assumption) ?_))) ((Sl tPiece).ext0 R60 (by repeat (first | exact Ext.refl _ | assumption | refine Ext.trans (by assumption) ?_)))) ?_
  rintro _ w61 ⟨rfl, X61⟩
  refine .p rfl rfl (.pickT rfl rfl) ?_
  refine .p rfl rfl (.mv rfl) ?_
  refine .p rfl rfl (.mv rfl) ?_
  refine .p rfl rfl (.yes (.eq rfl rfl) (rfl)) ?_
  refine .p rfl rfl (.pickT rfl rfl) ?_
  refine .p rfl rfl (.mv rfl) ?_
  refine .p rfl rfl (.mv rfl) ?_
  refine .p rfl rfl (.yes (.eq rfl rfl) (rfl)) ?_
  refine .p rfl rfl (.pickT rfl rfl) ?_
  refine .p rfl rfl (.mv rfl) ?_
  refine .p rfl rfl (.mv rfl) ?_
  refine .p rfl rfl (.build (cs := [i64 3, i64 3]) rfl (fun _ => by kernel_rfl)) ?_
  refine .v rfl rfl (.lits rfl rfl (fun _ => by kernel_rfl)) ?_
  rintro _ w74 ⟨rfl, N74⟩
  have R74 : (Sl tPiece).rep All w74 (.slice _ 1 1) [⟨3, 3⟩] := Sl.mk (us := [.agg #[i64 3, i64 3]]) (.cons (tPiece.mk (p := ⟨3, 3⟩) (by decide) (by decide)) .nil) (by have := N74.blk.cells; exact this) trivial N74.blk.lt (by simp) (by simp [Lim]) rfl
  have X74 := N74.ext
  refine .call (first := []) (captured := []) rfl rfl rfl rfl (sameT_fn ((Sl tPiece).ext0 R32 (by repeat (first | exact Ext.refl _ | assumption | refine Ext.trans (by assumption) ?_))) ((Sl tPiece).ext0 R74 (by repeat (first | exact Ext.refl _ | assumption | refine Ext.trans (by assumption) ?_)))) ?_
  rintro _ w75 ⟨rfl, X75⟩
  refine .p rfl rfl (.pickT rfl rfl) ?_
  refine .p rfl rfl (.mv rfl) ?_
  refine .p rfl rfl (.mv rfl) ?_
  refine .p rfl rfl (.yes (.eq rfl rfl) (rfl)) ?_
  refine .p rfl rfl (.pickT rfl rfl) ?_
  refine .p rfl rfl (.mv rfl) ?_
  refine .p rfl rfl (.mv rfl) ?_
  refine .p rfl rfl (.len rfl rfl) ?_
  refine .p rfl rfl (.yes (.eq rfl rfl) (rfl)) ?_
  refine .p rfl rfl (.pickT rfl rfl) ?_
  refine .p rfl rfl (.mv rfl) ?_
  refine .p rfl rfl (.mv rfl) ?_
  have hS : (Sl tInt).rep All w75 (.slice a39 _ c39) [5, 3, 4] := (Sl tInt).ext0 R39 (by repeat (first | exact Ext.refl _ | assumption | refine Ext.trans (by assumption) ?_))
  obtain ⟨b0, o0, q0, u0, e0, _, hS0, hr0⟩ := Sl.at hS (i := 0) (x := 5) rfl
  cases e0
  obtain ⟨rfl, _⟩ := hr0
  obtain ⟨b2, o2, q2, u2, e2, _, hS2, hr2⟩ := Sl.at hS (i := 2) (x := 4) rfl
  cases e2
  obtain ⟨rfl, _⟩ := hr2
  have hS0 := hS0 0 _ rfl
  have hS2 := hS2 0 _ rfl
  refine .p rfl rfl (.indexAddr1 rfl rfl rfl rfl (by decide)) ?_
  refine .p rfl rfl (.load rfl rfl rfl hS0) ?_
  refine .p rfl rfl (.yes (.eq rfl rfl) (rfl)) ?_
  refine .p rfl rfl (.pickT rfl rfl) ?_
  refine .p rfl rfl (.mv rfl) ?_
  refine .p rfl rfl (.mv rfl) ?_
  refine .p rfl rfl (.indexAddr1 rfl rfl rfl rfl (by decide)) ?_
  refine .p rfl rfl (.load rfl rfl rfl hS2) ?_
  refine .p rfl rfl (.yes (.eq rfl rfl) (rfl)) ?_
  refine .p rfl rfl (.pickT rfl rfl) ?_
  refine .p rfl rfl (.as rfl) ?_
  refine .nil (.code (.seq (.keep [(11, _)] ⟨rfl, trivial⟩ (.region ?_))))
  refine .p rfl rfl (.build (cs := [i64 3, i64 2]) rfl (fun _ => by kernel_rfl)) ?_
  refine .p rfl rfl (.build (cs := [i64 4, i64 1]) rfl (fun _ => by kernel_rfl)) ?_
  refine .v rfl rfl (.lits rfl rfl (fun _ => by kernel_rfl)) ?_
  rintro _ w100 ⟨rfl, N100⟩
  have R100 : (Sl tPiece).rep All w100 (.slice _ 2 2) [⟨3, 2⟩, ⟨4, 1⟩] := Sl.mk (us := [.agg #[i64 3, i64 2], .agg #[i64 4, i64 1]]) (.cons (tPiece.mk (p := ⟨3, 2⟩) (by decide) (by decide)) (.cons (tPiece.mk (p := ⟨4, 1⟩) (by decide) (by decide)) .nil)) (by have := N100.blk.cells; exact this) trivial N100.blk.lt (by simp) (by simp [Lim]) rfl
  have X100 := N100.ext
  refine .call (first := []) (captured := []) rfl rfl rfl rfl (RoomCheck_fn (count := 10) R100) ?_
  rintro _ w101 ⟨rfl, X101⟩
  refine .p rfl rfl (.yes (.eq rfl rfl) (by decide)) ?_
  refine .p rfl rfl (.mv rfl) ?_
  refine .p rfl rfl (.build (cs := [i64 9, i64 2]) rfl (fun _ => by kernel_rfl)) ?_
  refine .v rfl rfl (.lits rfl rfl (fun _ => by kernel_rfl)) ?_
  rintro _ w105 ⟨rfl, N105⟩
  have R105 : (Sl tPiece).rep All w105 (.slice _ 1 1) [⟨9, 2⟩] := Sl.mk (us := [.agg #[i64 9, i64 2]]) (.cons (tPiece.mk (p := ⟨9, 2⟩) (by decide) (by decide)) .nil) (by have := N105.blk.cells; exact this) trivial N105.blk.lt (by simp) (by simp [Lim]) rfl
  have X105 := N105.ext
  refine .call (first := []) (captured := []) rfl rfl rfl rfl (RoomCheck_fn (count := 10) R105) ?_
  rintro _ w106 ⟨rfl, X106⟩
  refine .p rfl rfl (.yes (.eq rfl rfl) (by decide)) ?_
  refine .p rfl rfl (.pickT rfl rfl) ?_
  refine .p rfl rfl (.mv rfl) ?_
  refine .p rfl rfl (.build (cs := [i64 3, i64 0]) rfl (fun _ => by kernel_rfl)) ?_
  refine .v rfl rfl (.lits rfl rfl (fun _ => by kernel_rfl)) ?_
  rintro _ w111 ⟨rfl, N111⟩
  have R111 : (Sl tPiece).rep All w111 (.slice _ 1 1) [⟨3, 0⟩] := Sl.mk (us := [.agg #[i64 3, i64 0]]) (.cons (tPiece.mk (p := ⟨3, 0⟩) (by decide) (by decide)) .nil) (by have := N111.blk.cells; exact this) trivial N111.blk.lt (by simp) (by simp [Lim]) rfl
  have X111 := N111.ext
  refine .call (first := []) (captured := []) rfl rfl rfl rfl (RoomCheck_fn (count := 10) R111) ?_
  rintro _ w112 ⟨rfl, X112⟩
  refine .p rfl rfl (.yes (.eq rfl rfl) (by decide)) ?_
  refine .p rfl rfl (.pickT rfl rfl) ?_
  refine .p rfl rfl (.mv rfl) ?_
  refine .call (first := []) (captured := []) rfl rfl rfl rfl (RoomCheck_fn (count := 4097) (l := []) Sl.nil) ?_
  rintro _ w116 ⟨rfl, X116⟩
  refine .p rfl rfl (.yes (.eq rfl rfl) (by decide)) ?_
  refine .p rfl rfl (.pickT rfl rfl) ?_
  refine .p rfl rfl (.as rfl) ?_
  refine .nil (.code (.seq (.keep [(12, _), (11, _)] ⟨rfl, rfl, trivial⟩ (.region ?_))))
  refine .p rfl rfl (.mv rfl) ?_
  refine .call (first := []) (captured := []) rfl rfl rfl rfl (alive_fn) ?_
  rintro _ w120 ⟨rfl, X120⟩
  refine .p rfl rfl (.pickT rfl rfl) ?_
  refine .p rfl rfl (.mv rfl) ?_
  refine .p rfl rfl (.mv rfl) ?_
  refine .p rfl rfl (.pickT rfl rfl) ?_
  refine .p rfl rfl (.mv rfl) ?_
  refine .p rfl rfl (.mv rfl) ?_
  refine .p rfl rfl (.pickT rfl rfl) ?_
  refine .p rfl rfl (.as rfl) ?_
  refine .nil (.code ?_)
  refine .ret _ rfl ?_
  exact ⟨rfl, (by repeat (first | exact Ext.refl _ | assumption | refine Ext.trans (by assumption) ?_))⟩
end Go.Proofs.Ytagjfplipknlkaa
