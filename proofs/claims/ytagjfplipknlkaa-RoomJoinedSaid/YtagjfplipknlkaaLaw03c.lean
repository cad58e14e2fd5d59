
/-
  RoomJoined: pieces put together have the same sectors.
-/
import Derived.Test.YtagjfplipknlkaaLaw03b
import Derived.Test.YtagjfplipknlkaaRoomSum
import Derived.Test.YtagjfplipknlkaaTree
set_option linter.unusedVariables false
set_option linter.unusedSimpArgs false
set_option maxRecDepth 20000
namespace Go.Proofs.Ytagjfplipknlkaa
open Go room
attribute [local irreducible] N
theorem RoomJoined_fn {w : World} {v : Value} {l : List Piece} (h : (Sl tPiece).rep All w v l) : Fn Try.prog 5 [v] w (fun r w2 => r = .bool true ∧ Ext (fun _ => False) w w2) := by
  refine Fn.enter (fun w => Try.call5 _ w) Try.func5 rfl ?_
  refine .seq (.region ?_)
  refine .p rfl rfl (.as rfl) ?_
  refine .nil (.code (.seq (.keep [(0, _)] ⟨rfl, trivial⟩ (.region ?_))))
  refine .call (first := []) (captured := []) rfl rfl rfl rfl (alive_fn) ?_
  rintro _ w16 ⟨rfl, X16⟩
  refine .p rfl rfl (.as rfl) ?_
  refine .nil (.code (.seq (.seq (.keep [(3, _), (0, _)] ⟨rfl, rfl, trivial⟩ (.region ?_)))))
  refine .p rfl rfl (.mv rfl) ?_
  refine .p rfl rfl (.not rfl) ?_
  refine .nil (.code (.keep [(18, _), (3, _), (0, _)] ⟨rfl, rfl, rfl, trivial⟩ (.condF rfl (.skip (.code (.seq (.keep [(3, _), (0, _)] ⟨rfl, rfl, trivial⟩ (.region ?_))))))))
  refine .p rfl rfl (.mv rfl) ?_
  refine .call (first := []) (captured := []) rfl rfl rfl rfl (Join_fn ((Sl tPiece).ext0 h X16)) ?_
  rintro _ w21 ⟨v21, rfl, O21, X21⟩
  obtain ⟨J, hJ⟩ : ∃ J, (if checkR 4096 l = 0 then joinF l else []) = J := ⟨_, rfl⟩
  rw [hJ] at O21
  obtain ⟨a21, c21, rfl, hc21⟩ := OwnO.val O21
  have R21 := OwnO.rep O21 (R := All) (fun _ _ _ => trivial) (fun _ h _ => h.elim)
  have X2 := X16.trans X21
  refine .p rfl rfl (.mv rfl) ?_
  refine .p rfl rfl (.extract rfl rfl) ?_
  refine .p rfl rfl (.extract rfl rfl) ?_
  refine .p rfl rfl (.as rfl) ?_
  refine .p rfl rfl (.as rfl) ?_
  refine .nil (.code (.seq (.keep [(5, _), (4, _), (3, _), (0, _)] ⟨rfl, rfl, rfl, rfl, trivial⟩ (.region ?_))))
  refine .p rfl rfl (.mv rfl) ?_
  refine .call (first := []) (captured := []) rfl rfl rfl rfl (RoomMany_fn ((Sl tPiece).ext0 h X2)) ?_
  rintro _ w26 ⟨rfl, X26⟩
  refine .p rfl rfl (.mv rfl) ?_
  refine .p rfl rfl (.extract rfl rfl) ?_
  refine .p rfl rfl (.extract rfl rfl) ?_
  refine .p rfl rfl (.as rfl) ?_
  refine .p rfl rfl (.as rfl) ?_
  refine .nil (.code (.seq (.keep [(7, _), (6, _), (5, _), (4, _), (3, _), (0, _)] ⟨rfl, rfl, rfl, rfl, rfl, rfl, trivial⟩ (.region ?_))))
  refine .p rfl rfl (.mv rfl) ?_
  refine .call (first := []) (captured := []) rfl rfl rfl rfl (RoomMany_fn ((Sl tPiece).ext0 R21 X26)) ?_
  rintro _ w31 ⟨rfl, X31⟩
  have X3 := (X2.trans X26).trans X31
  have R31 := (Sl tPiece).ext0 R21 (X26.trans X31)
  refine .p rfl rfl (.mv rfl) ?_
  refine .p rfl rfl (.extract rfl rfl) ?_
  refine .p rfl rfl (.extract rfl rfl) ?_
  refine .p rfl rfl (.as rfl) ?_
  refine .p rfl rfl (.as rfl) ?_
  refine .nil (.code (.seq (.seq (.keep [(9, _), (8, _), (7, _), (6, _), (5, _), (4, _), (3, _), (0, _)] ⟨rfl, rfl, rfl, rfl, rfl, rfl, rfl, rfl, trivial⟩ (.region ?_)))))
  refine .p rfl rfl (.mv rfl) ?_
  refine .p rfl rfl (.ne rfl rfl) ?_
  refine .nil (.code (.keep [(35, _), (9, _), (8, _), (7, _), (6, _), (5, _), (4, _), (3, _), (0, _)] ⟨rfl, rfl, rfl, rfl, rfl, rfl, rfl, rfl, rfl, trivial⟩ ?_))
  refine .condD rfl (fun c35 => ?_) (fun c35 => ?_)
  · refine .seq (.keep [(7, _), (5, _), (4, _), (3, _)] ⟨rfl, rfl, rfl, rfl, trivial⟩ (.region ?_))
    refine .p rfl rfl (.mv rfl) ?_
    refine .p rfl rfl (.mv rfl) ?_
    refine .p rfl rfl (.mv rfl) ?_
    refine .p rfl rfl (.mv rfl) ?_
    refine .p rfl rfl (.yes (.eq rfl rfl) (rfl)) ?_
    refine .p rfl rfl (.pickT rfl rfl) ?_
    refine .p rfl rfl (.mv rfl) ?_
    refine .p rfl rfl (.mv rfl) ?_
    refine .p rfl rfl (.len rfl rfl) ?_
    refine .p rfl rfl (.yes (.eq rfl rfl) (by rw [← hJ, if_neg c35]; rfl)) ?_
    refine .p rfl rfl (.pickT rfl rfl) ?_
    refine .p rfl rfl (.as rfl) ?_
    refine .nil (.code ?_)
    refine .ret _ rfl ?_
    exact ⟨rfl, X3⟩
  · have hz : checkR 4096 l = 0 := Decidable.not_not.1 c35
    obtain ⟨_, _, hll, hmay⟩ := check_ok hz
    rw [if_pos hz] at hJ
    have hJc : checkR 4096 J = 0 := by rw [← hJ]; exact join_check l
    have hJt : totalF J = totalF l := by rw [← hJ]; exact join_total hmay
    have hJn : ∀ k, cnt J k = cnt l k := fun k => by rw [← hJ]; exact join_cnt hmay k
    have hJJ : joinF J = J := by rw [← hJ]; exact join_join hmay
    obtain ⟨_, _, hJl, hJmay⟩ := check_ok hJc
    have hJs : J.Pairwise (fun p q => p.fr + p.ct < q.fr) := by rw [← hJ]; exact (runs_ok (covB l) 0 4096).sep
    refine .skip (.code (.seq (.seq (.keep [(9, _), (8, _), (7, _), (6, _), (4, _), (3, _), (0, _)] ⟨rfl, rfl, rfl, rfl, rfl, rfl, rfl, trivial⟩ (.region ?_)))))
    refine .p rfl rfl (.mv rfl) ?_
    refine .p rfl rfl (.ne rfl rfl) ?_
    refine .p rfl rfl (.mv rfl) ?_
    refine .caseD 49 rfl (fun c49 => ?_) (fun c49 => ?_)
    · exact absurd hz c49
    · refine .p rfl rfl (.mv rfl) ?_
      refine .p rfl rfl (.ne rfl rfl) ?_
      refine .p rfl rfl (.pickF rfl rfl) ?_
      refine .p rfl rfl (.mv rfl) ?_
      refine .caseD 53 rfl (fun c53 => ?_) (fun c53 => ?_)
      · exact absurd hJc c53
      · refine .p rfl rfl (.mv rfl) ?_
        refine .p rfl rfl (.mv rfl) ?_
        refine .p rfl rfl (.ne rfl rfl) ?_
        refine .p rfl rfl (.pickF rfl rfl) ?_
        refine .nil (.code (.keep [(57, _), (4, _), (3, _), (0, _)] ⟨rfl, rfl, rfl, rfl, trivial⟩ ?_))
        refine .condD rfl (fun c57 => ?_) (fun c57 => ?_)
        · exact absurd (by rw [if_pos hz, if_pos hJc, hJt]) c57
        · refine .skip (.code (.seq (.keep [(4, _), (3, _), (0, _)] ⟨rfl, rfl, rfl, trivial⟩ ?_)))
          refine .meet (S := Nat × Nat × World) (fun s => [(0, v), (3, .bool true), (4, .slice a21 J.length c21), (10, .slice (some ⟨s.1, 0, none⟩) 4096 4096), (11, .slice (some ⟨s.2.1, 0, none⟩) 4096 4096)]) (fun s => s.2.2) (fun s => s.1 ≠ s.2.1 ∧ Blk s.2.2 s.1 3 (rowM 4096 (fun _ => 0)) ∧ Blk s.2.2 s.2.1 3 (rowM 4096 (fun _ => 0)) ∧ w31.heap.size ≤ s.1 ∧ w31.heap.size ≤ s.2.1 ∧ Ext (fun _ => False) w31 s.2.2) ?_ ?_
          · rintro ⟨p, q, wm⟩ ⟨hpq, Bp, Bq, hp, hq, Xm⟩
            simp only at hpq Bp Bq hp hq Xm
            have Rl : (Sl tPiece).rep (fun k => k ≠ p) wm v l := (Sl tPiece).ext0 ((Sl tPiece).mono ((Sl tPiece).ext0 h X3) (fun k _ hk => by have : k < w31.heap.size := hk; show k ≠ p; omega)) Xm
            have RJ0 : (Sl tPiece).rep (fun k => k < w31.heap.size) wm (.slice a21 J.length c21) J := (Sl tPiece).ext0 ((Sl tPiece).mono R31 (fun k _ hk => hk)) Xm
            have RJ : (Sl tPiece).rep (fun k => k ≠ q ∧ k < w31.heap.size) wm (.slice a21 J.length c21) J := (Sl tPiece).mono RJ0 (fun k hk _ => ⟨by have hk : k < w31.heap.size := hk; omega, hk⟩)
            change A _ [(0, v), (3, .bool true), (4, .slice a21 J.length c21), (10, .slice (some ⟨p, 0, none⟩) 4096 4096), (11, .slice (some ⟨q, 0, none⟩) 4096 4096)] _ wm
            refine .code (.seq (.seq (.region ?_)))
            refine .p rfl rfl (.mv rfl) ?_
            refine .p rfl rfl (.mv rfl) ?_
            refine .call (first := []) (captured := []) rfl rfl rfl rfl (marks_fn (b := p) (n := 4096) (cap := 4096) Rl Bp (fun x hx => by have := hmay.1 x hx; unfold okP at this; omega) (fun _ => ⟨by omega, by omega⟩) (by omega) (by omega)) ?_
            rintro _ w62 ⟨rfl, B62, X62⟩
            have Bq := Bq.ext X62 (fun h => hpq h.symm)
            refine .p rfl rfl (.not rfl) ?_
            refine .p rfl rfl (.mv rfl) ?_
            refine .p rfl rfl (.mv rfl) ?_
            refine .p rfl rfl (.mv rfl) ?_
            refine .call (first := []) (captured := []) rfl rfl rfl rfl (marks_fn (b := q) (n := 4096) (cap := 4096) ((Sl tPiece).mono ((Sl tPiece).ext RJ X62 (fun k hk hlt he => by have h1 : k < w31.heap.size := hk.2; have h2 : k = p := he; omega)) (fun k hk _ => hk.1)) Bq (fun x hx => by have := hJmay.1 x hx; unfold okP at this; omega) (fun _ => ⟨by omega, by omega⟩) (by omega) (by omega)) ?_
            rintro _ w67 ⟨rfl, B67, X67⟩
            have B62 := B62.ext X67 hpq
            have X67' := (Xm.then X62 (fun k he hlt => by have he : k = p := he; omega)).then X67 (fun k he hlt => by have he : k = q := he; omega)
            have Rg := (Sl tPiece).ext0 R31 X67'
            refine .p rfl rfl (.not rfl) ?_
            refine .p rfl rfl (.pickF rfl rfl) ?_
            refine .nil (.code (.keep [(69, _), (3, _), (4, _), (10, _), (11, _)] ⟨rfl, rfl, rfl, rfl, rfl, trivial⟩ (.condF rfl (.skip (.code (.seq (.seq (.keep [(3, _), (4, _), (10, _), (11, _)] ⟨rfl, rfl, rfl, rfl, trivial⟩ (.region ?_)))))))))
            refine .p rfl rfl (.as rfl) ?_
            refine .nil (.code (.block ?_))
            refine .loop (S := Nat) (fun s => [(3, .bool true), (4, .slice a21 J.length c21), (10, .slice (some ⟨p, 0, none⟩) 4096 4096), (11, .slice (some ⟨q, 0, none⟩) 4096 4096), (12, i64 s)]) (fun s => w67) (fun s => s ≤ 4096) (fun s => 4096 - s) 0 ⟨rfl, rfl, rfl, rfl, rfl, trivial⟩ rfl (Nat.zero_le _) ?_
            intro i J0 hi' again
            refine .seq (.seq (.region ?_))
            refine .p rfl rfl (.mv rfl) ?_
            refine .p rfl rfl (.lt rfl rfl) ?_
            refine .nil (.code (.keep [(71, _), (3, _), (4, _), (10, _), (11, _), (12, _)] ⟨rfl, rfl, rfl, rfl, rfl, rfl, trivial⟩ ?_))
            refine .condD rfl (fun c71 => ?_) (fun c71 => ?_)
            · have hi : i < 4096 := by omega
              have hg := rowM_get (fun k => 0 + cnt l k) hi
              have hg2 := rowM_get (fun k => 0 + cnt J k) hi
              refine .skip (.code (.seq (.block (.seq (.keep [(3, _), (4, _), (10, _), (11, _), (12, _)] ⟨rfl, rfl, rfl, rfl, rfl, trivial⟩ (.draws (by kernel_rfl) (by kernel_rfl) ?_))))))
              refine .p rfl rfl (.mv rfl) ?_
              refine .p rfl rfl (.mv rfl) ?_
              refine .p rfl rfl (.indexAddr1 rfl rfl rfl rfl (by omega)) ?_
              refine .p rfl rfl (.load rfl rfl rfl (by rw [Int.toNat_natCast, Nat.zero_add]; exact (B62.cell _).trans hg)) ?_
              refine .p rfl rfl (.mv rfl) ?_
              refine .p rfl rfl (.mv rfl) ?_
              refine .p rfl rfl (.indexAddr1 rfl rfl rfl rfl (by omega)) ?_
              refine .p rfl rfl (.load rfl rfl rfl (by rw [Int.toNat_natCast, Nat.zero_add]; exact (B67.cell _).trans hg2)) ?_
              refine .p rfl rfl (.ne rfl rfl) ?_
              refine .nil (.code (.keep [(82, _), (3, _), (4, _), (10, _), (11, _), (12, _)] ⟨rfl, rfl, rfl, rfl, rfl, rfl, trivial⟩ ?_))
              refine .condD rfl (fun c82 => ?_) (fun c82 => ?_)
              · exact absurd (by show 0 + cnt l i = 0 + cnt J i; rw [hJn]) c82
              · refine .skip (.blk (.code (.keep [(3, _), (4, _), (10, _), (11, _), (12, _)] ⟨rfl, rfl, rfl, rfl, rfl, trivial⟩ (.region ?_))))
                refine .p rfl rfl (.mv rfl) ?_
                refine .p rfl rfl (.add rfl rfl (by omega)) ?_
                refine .p rfl rfl (.as rfl) ?_
                refine .nil ?_
                exact (again (i + 1) (by show i + 1 ≤ _; omega) (by show _ - (i + 1) < _ - i; omega)).of ⟨rfl, rfl, rfl, rfl, rfl, trivial⟩
            · refine .exit rfl (.code (.seq (.seq (.keep [(3, _), (4, _)] ⟨rfl, rfl, trivial⟩ (.region ?_)))))
              refine .p rfl rfl (.as rfl) ?_
              refine .nil (.code (.block ?_))
              refine .loop (S := Nat) (fun s => [(3, .bool true), (4, .slice a21 J.length c21), (13, i64 s)]) (fun s => w67) (fun s => 1 ≤ s ∧ s ≤ J.length + 1) (fun s => J.length + 1 - s) 1 ⟨rfl, rfl, rfl, trivial⟩ rfl ⟨Nat.le_refl _, Nat.le_add_left 1 _⟩ ?_
              rintro i J0 ⟨hi1, hi'⟩ again
              refine .seq (.seq (.region ?_))
              refine .p rfl rfl (.mv rfl) ?_
              refine .p rfl rfl (.mv rfl) ?_
              refine .p rfl rfl (.len rfl rfl) ?_
              refine .p rfl rfl (.lt rfl rfl) ?_
              refine .nil (.code (.keep [(86, _), (3, _), (4, _), (13, _)] ⟨rfl, rfl, rfl, rfl, trivial⟩ ?_))
              refine .condD rfl (fun c86 => ?_) (fun c86 => ?_)
              · have hi : i < J.length := by omega
                obtain ⟨b1, o1, q1, ue, e, hb1, hcs, hre⟩ := Sl.at Rg (List.getElem?_eq_getElem hi)
                cases e
                obtain ⟨rfl, hr1, hr2⟩ := tPiece.val hre
                obtain ⟨b2, o2, q2, ue2, e2, hb2, hcp, hrp⟩ := Sl.at Rg (i := i - 1) (List.getElem?_eq_getElem (by omega))
                cases e2
                obtain ⟨rfl, hp1, hp2⟩ := tPiece.val hrp
                have eix : ((i : Int) - 1).toNat = i - 1 := by omega
                have hk := hJmay.1 J[i - 1] (List.getElem_mem (by omega))
                unfold okP at hk
                have hsp := List.pairwise_iff_getElem.1 hJs (i - 1) i (by omega) hi (by omega)
                refine .skip (.code (.seq (.block (.seq (.keep [(3, _), (4, _), (13, _)] ⟨rfl, rfl, rfl, trivial⟩ (.draws (by kernel_rfl) (by kernel_rfl) ?_))))))
                refine .p rfl rfl (.mv rfl) ?_
                refine .p rfl rfl (.mv rfl) ?_
                refine .p rfl rfl (.sub rfl rfl (by omega)) ?_
                refine .p rfl rfl (.indexAddr (s := 2) rfl rfl rfl rfl (by omega)) ?_
                refine .p rfl rfl (.fieldAddr rfl rfl rfl rfl) ?_
                refine .p rfl rfl (.load rfl rfl rfl (by rw [eix]; exact hcp 0 _ rfl)) ?_
                refine .p rfl rfl (.mv rfl) ?_
                refine .p rfl rfl (.mv rfl) ?_
                refine .p rfl rfl (.sub rfl rfl (by omega)) ?_
                refine .p rfl rfl (.indexAddr (s := 2) rfl rfl rfl rfl (by omega)) ?_
                refine .p rfl rfl (.fieldAddr rfl rfl rfl rfl) ?_
                refine .p rfl rfl (.load rfl rfl rfl (by rw [eix]; exact hcp 1 _ rfl)) ?_
                refine .p rfl rfl (.add rfl rfl (by omega)) ?_
                refine .p rfl rfl (.mv rfl) ?_
                refine .p rfl rfl (.mv rfl) ?_
                refine .p rfl rfl (.indexAddr (s := 2) rfl rfl rfl rfl (by omega)) ?_
                refine .p rfl rfl (.fieldAddr rfl rfl rfl rfl) ?_
                refine .p rfl rfl (.load rfl rfl rfl (hcs 0 _ rfl)) ?_
                refine .p rfl rfl (.ge rfl rfl) ?_
                refine .nil (.code (.keep [(107, _), (3, _), (4, _), (13, _)] ⟨rfl, rfl, rfl, rfl, trivial⟩ ?_))
                refine .condD rfl (fun c107 => ?_) (fun c107 => ?_)
                · exact absurd c107 (by omega)
                · refine .skip (.blk (.code (.keep [(3, _), (4, _), (13, _)] ⟨rfl, rfl, rfl, trivial⟩ (.region ?_))))
                  refine .p rfl rfl (.mv rfl) ?_
                  refine .p rfl rfl (.add rfl rfl (by omega)) ?_
                  refine .p rfl rfl (.as rfl) ?_
                  refine .nil ?_
                  exact (again (i + 1) ⟨by show 1 ≤ i + 1; omega, by show i + 1 ≤ _; omega⟩ (by show _ - (i + 1) < _ - i; omega)).of ⟨rfl, rfl, rfl, trivial⟩
              · refine .exit rfl (.code (.seq (.keep [(3, _), (4, _)] ⟨rfl, rfl, trivial⟩ (.region ?_))))
                refine .p rfl rfl (.mv rfl) ?_
                refine .call (first := []) (captured := []) rfl rfl rfl rfl (Join_fn Rg) ?_
                rintro _ w110 ⟨v110, rfl, O110, X110⟩
                rw [if_pos hJc, hJJ] at O110
                have R110 := OwnO.rep O110 (R := All) (fun _ _ _ => trivial) (fun _ h _ => h.elim)
                refine .p rfl rfl (.mv rfl) ?_
                refine .p rfl rfl (.extract rfl rfl) ?_
                refine .p rfl rfl (.extract rfl rfl) ?_
                refine .p rfl rfl (.as rfl) ?_
                refine .p rfl rfl (.as rfl) ?_
                refine .nil (.code (.seq (.keep [(15, _), (14, _), (3, _), (4, _)] ⟨rfl, rfl, rfl, rfl, trivial⟩ (.region ?_))))
                refine .p rfl rfl (.mv rfl) ?_
                refine .p rfl rfl (.mv rfl) ?_
                refine .p rfl rfl (.mv rfl) ?_
                refine .p rfl rfl (.yes (.eq rfl rfl) (hJc)) ?_
                refine .p rfl rfl (.pickT rfl rfl) ?_
                refine .p rfl rfl (.mv rfl) ?_
                refine .p rfl rfl (.mv rfl) ?_
                refine .p rfl rfl (.mv rfl) ?_
                refine .call (first := []) (captured := []) rfl rfl rfl rfl (same_fn R110 ((Sl tPiece).ext0 Rg X110)) ?_
                rintro _ w121 ⟨rfl, X121⟩
                rw [decide_eq_true rfl]
                refine .p rfl rfl (.pickT rfl rfl) ?_
                refine .p rfl rfl (.as rfl) ?_
                refine .nil (.code ?_)
                refine .ret _ rfl ?_
                exact ⟨rfl, ((X3.trans X67').trans X110).trans X121⟩
          · intro meet
            refine .tree (fun _ => False) [0, 1] (.alt 0 (.op 0 (.op 2 (.alt 1 (.op 1 (.op 3 (.nil))) (.stop)))) (.alt 1 (.op 1 (.alt 0 (.op 0 (.op 2 (.op 3 (.nil)))) (.stop))) (.stop))) (by kernel_rfl) (by kernel_rfl) (by kernel_rfl) ?_
            refine .alt ?_ ?_
            · refine .v rfl rfl rfl rfl (.make (eb := 8) rfl rfl rfl rfl rfl rfl rfl rfl (by omega)) (by rintro _ _ ⟨_, hN⟩; exact ((Ext.refl _)).trans hN.ext0) ?_
              rintro _ w58 ⟨rfl, N58⟩
              have hX58 : Ext (fun _ => False) _ _ := (Ext.refl _).trans (N58.ext0)
              refine .p rfl rfl rfl rfl (fun wx hx => .as rfl) ?_
              refine .alt ?_ ?_
              · refine .v rfl rfl rfl rfl (.make (eb := 8) rfl rfl rfl rfl rfl rfl rfl rfl (by omega)) (by rintro _ _ ⟨_, hN⟩; exact hX58.trans hN.ext0) ?_
                rintro _ w59 ⟨rfl, N59⟩
                have hX59 : Ext (fun _ => False) _ _ := hX58.trans (N59.ext0)
                refine .p rfl rfl rfl rfl (fun wx hx => .as rfl) ?_
                refine .nil ?_
                exact (meet (w31.heap.size, w58.heap.size, w59) ⟨by show w31.heap.size ≠ w58.heap.size; have := N58.size; omega, by rw [← rowM_zero]; exact N58.blk.ext N59.ext (fun x => x), by rw [← rowM_zero]; exact N59.blk, Nat.le_refl _, N58.ext.size, N58.ext.trans N59.ext⟩).of ⟨rfl, rfl, rfl, rfl, rfl, trivial⟩
              exact .stop
            refine .alt ?_ ?_
            · refine .v rfl rfl rfl rfl (.make (eb := 8) rfl rfl rfl rfl rfl rfl rfl rfl (by omega)) (by rintro _ _ ⟨_, hN⟩; exact ((Ext.refl _)).trans hN.ext0) ?_
              rintro _ w59 ⟨rfl, N59⟩
              have hX59 : Ext (fun _ => False) _ _ := (Ext.refl _).trans (N59.ext0)
              refine .alt ?_ ?_
              · refine .v rfl rfl rfl rfl (.make (eb := 8) rfl rfl rfl rfl rfl rfl rfl rfl (by omega)) (by rintro _ _ ⟨_, hN⟩; exact hX59.trans hN.ext0) ?_
                rintro _ w58 ⟨rfl, N58⟩
                have hX58 : Ext (fun _ => False) _ _ := hX59.trans (N58.ext0)
                refine .p rfl rfl rfl rfl (fun wx hx => .as rfl) ?_
                refine .p rfl rfl rfl rfl (fun wx hx => .as rfl) ?_
                refine .nil ?_
                exact (meet (w59.heap.size, w31.heap.size, w58) ⟨by show w59.heap.size ≠ w31.heap.size; have := N59.size; omega, by rw [← rowM_zero]; exact N58.blk, by rw [← rowM_zero]; exact N59.blk.ext N58.ext (fun x => x), N59.ext.size, Nat.le_refl _, N59.ext.trans N58.ext⟩).of ⟨rfl, rfl, rfl, rfl, rfl, trivial⟩
              exact .stop
            exact .stop
end Go.Proofs.Ytagjfplipknlkaa
