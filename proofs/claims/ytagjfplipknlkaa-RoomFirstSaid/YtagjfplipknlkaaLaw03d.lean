
/-
  RoomFirst: what is taken was free, as many as asked, the first ones.
-/
import Derived.Test.YtagjfplipknlkaaLaw03a
import Derived.Test.YtagjfplipknlkaaRoomSum
set_option linter.unusedVariables false
set_option linter.unusedSimpArgs false
set_option maxRecDepth 20000
namespace Go.Proofs.Ytagjfplipknlkaa
open Go room
namespace room
theorem check_not30 (c : Int) (l : List Piece) : ¬ checkR c l = 30 := by
  unfold checkR
  split
  · decide
  · split
    · decide
    · split <;> decide
theorem take_30 {first count : Int} {l : List Piece} {many : Int} (h : takeE first count l many = 30) : freeE first count l = 0 ∧ totalF (freeL first count l) < many := by
  unfold takeE at h
  split at h
  · cases h
  · split at h
    · rename_i hn
      unfold freeE at h
      split at h
      · cases h
      · exact absurd h (check_not30 _ _)
    · rename_i hn
      split at h
      · rename_i h2; exact ⟨Decidable.not_not.1 hn, h2⟩
      · cases h
theorem take_in {first count : Int} {l : List Piece} {many : Int} (h : takeE first count l many = 0) : 0 ≤ many ∧ many ≤ 4096 ∧ freeE first count l = 0 ∧ many ≤ totalF (freeL first count l) := by
  unfold takeE at h
  split at h
  · cases h
  · rename_i h1
    split at h
    · rename_i hn; exact absurd h hn
    · rename_i hn
      split at h
      · cases h
      · rename_i h2; exact ⟨by omega, by omega, Decidable.not_not.1 hn, by omega⟩
theorem takeL_runs {f n : Nat} {l : List Piece} {many : Int} (h : takeE (f : Int) (n : Int) l many = 0) : ∃ n', f + n' ≤ n ∧ takeL (f : Int) (n : Int) l many = runsTo (fun k => !covB l k) f n' ∧ totalF (takeL (f : Int) (n : Int) l many) = many := by
  obtain ⟨h1, h2, h3, h4⟩ := take_in h
  obtain ⟨i1, i2, i3, _⟩ := freeE_in h3
  have hF : freeL (f : Int) (n : Int) l = runsTo (fun k => !covB l k) f (n - f) := freeL_ok h3
  rw [hF] at h4
  obtain ⟨n', a1, a2, a3⟩ := take_runs h1 h4
  refine ⟨n', by omega, ?_, ?_⟩
  · rw [takeL_ok h, hF, a2]
  · rw [takeL_ok h, hF, a2, a3]
end room
theorem RoomFirst_fn {w : World} {v : Value} {l : List Piece} {first count many : Int} (h : (Sl tPiece).rep All w v l) : Fn Try.prog 7 [i64 first, i64 count, v, i64 many] w (fun r w2 => r = .bool true ∧ Ext (fun _ => False) w w2) := by
  refine Fn.enter (fun w => Try.call7 _ w) Try.func7 rfl ?_
  refine .seq (.region ?_)
  refine .p rfl rfl (.as rfl) ?_
  refine .nil (.code (.seq (.keep [(0, _), (1, _), (2, _), (3, _)] ⟨rfl, rfl, rfl, rfl, trivial⟩ (.region ?_))))
  refine .call (first := []) (captured := []) rfl rfl rfl rfl (alive_fn) ?_
  rintro _ w22 ⟨rfl, X22⟩
  refine .p rfl rfl (.as rfl) ?_
  refine .nil (.code (.seq (.seq (.keep [(9, _), (0, _), (1, _), (2, _), (3, _)] ⟨rfl, rfl, rfl, rfl, rfl, trivial⟩ (.region ?_)))))
  refine .p rfl rfl (.mv rfl) ?_
  refine .p rfl rfl (.not rfl) ?_
  refine .nil (.code (.keep [(24, _), (9, _), (0, _), (1, _), (2, _), (3, _)] ⟨rfl, rfl, rfl, rfl, rfl, rfl, trivial⟩ (.condF rfl (.skip (.code (.seq (.keep [(9, _), (0, _), (1, _), (2, _), (3, _)] ⟨rfl, rfl, rfl, rfl, rfl, trivial⟩ (.region ?_))))))))
  refine .p rfl rfl (.mv rfl) ?_
  refine .p rfl rfl (.mv rfl) ?_
  refine .p rfl rfl (.mv rfl) ?_
  refine .p rfl rfl (.mv rfl) ?_
  refine .call (first := []) (captured := []) rfl rfl rfl rfl (Take_fn ((Sl tPiece).ext0 h X22)) ?_
  rintro _ w30 ⟨v30, rfl, O30, X30⟩
  obtain ⟨a30, c30, rfl, hc30⟩ := OwnO.val O30
  have R30 := OwnO.rep O30 (R := All) (fun _ _ _ => trivial) (fun _ h _ => h.elim)
  refine .p rfl rfl (.mv rfl) ?_
  refine .p rfl rfl (.extract rfl rfl) ?_
  refine .p rfl rfl (.extract rfl rfl) ?_
  refine .p rfl rfl (.as rfl) ?_
  refine .p rfl rfl (.as rfl) ?_
  refine .nil (.code (.seq (.keep [(11, _), (10, _), (9, _), (0, _), (1, _), (2, _), (3, _)] ⟨rfl, rfl, rfl, rfl, rfl, rfl, rfl, trivial⟩ (.region ?_))))
  refine .p rfl rfl (.mv rfl) ?_
  refine .p rfl rfl (.mv rfl) ?_
  refine .p rfl rfl (.mv rfl) ?_
  refine .call (first := []) (captured := []) rfl rfl rfl rfl (Free_fn ((Sl tPiece).ext0 h (X22.trans X30))) ?_
  rintro _ w37 ⟨v37, rfl, O37, X37⟩
  obtain ⟨a37, c37, rfl, hc37⟩ := OwnO.val O37
  have R37 := OwnO.rep O37 (R := All) (fun _ _ _ => trivial) (fun _ h _ => h.elim)
  have Z37 := (X22.trans X30).trans X37
  refine .p rfl rfl (.mv rfl) ?_
  refine .p rfl rfl (.extract rfl rfl) ?_
  refine .p rfl rfl (.extract rfl rfl) ?_
  refine .p rfl rfl (.as rfl) ?_
  refine .p rfl rfl (.as rfl) ?_
  refine .nil (.code (.seq (.seq (.keep [(13, _), (12, _), (11, _), (10, _), (9, _), (0, _), (1, _), (2, _), (3, _)] ⟨rfl, rfl, rfl, rfl, rfl, rfl, rfl, rfl, rfl, trivial⟩ (.region ?_)))))
  refine .p rfl rfl (.mv rfl) ?_
  refine .p rfl rfl (.ne rfl rfl) ?_
  refine .nil (.code (.keep [(41, _), (13, _), (12, _), (11, _), (10, _), (9, _), (0, _), (1, _), (2, _), (3, _)] ⟨rfl, rfl, rfl, rfl, rfl, rfl, rfl, rfl, rfl, rfl, trivial⟩ ?_))
  refine .condD rfl (fun c41 => ?_) (fun c41 => ?_)
  · refine .seq (.keep [(13, _), (12, _), (11, _), (10, _), (9, _), (3, _)] ⟨rfl, rfl, rfl, rfl, rfl, rfl, trivial⟩ (.region ?_))
    refine .p rfl rfl (.mv rfl) ?_
    refine .call (first := []) (captured := []) rfl rfl rfl rfl (RoomMany_fn R37) ?_
    rintro _ w44 ⟨rfl, X44⟩
    refine .p rfl rfl (.mv rfl) ?_
    refine .p rfl rfl (.extract rfl rfl) ?_
    refine .p rfl rfl (.extract rfl rfl) ?_
    refine .p rfl rfl (.as rfl) ?_
    refine .p rfl rfl (.as rfl) ?_
    refine .nil (.code (.seq (.keep [(14, _), (13, _), (11, _), (10, _), (9, _), (3, _)] ⟨rfl, rfl, rfl, rfl, rfl, rfl, trivial⟩ (.region ?_))))
    refine .p rfl rfl (.mv rfl) ?_
    refine .p rfl rfl (.mv rfl) ?_
    refine .p rfl rfl (.mv rfl) ?_
    refine .p rfl rfl (.len rfl rfl) ?_
    refine .p rfl rfl (.yes (.eq rfl rfl) (by rw [takeL_bad c41]; rfl)) ?_
    refine .p rfl rfl (.pickT rfl rfl) ?_
    refine .p rfl rfl (.mv rfl) ?_
    refine .p rfl rfl (.mv rfl) ?_
    refine .p rfl rfl (.ne rfl rfl) ?_
    refine .p rfl rfl (.mv rfl) ?_
    refine .caseD 56 rfl (fun c56 => ?_) (fun c56 => ?_)
    · refine .skip rfl rfl ?_
      refine .skip rfl rfl ?_
      refine .skip rfl rfl ?_
      refine .skip rfl rfl ?_
      refine .skip rfl rfl ?_
      refine .skip rfl rfl ?_
      refine .skip rfl rfl ?_
      refine .p rfl rfl (.pickT rfl rfl) ?_
      refine .p rfl rfl (.pickT rfl rfl) ?_
      refine .p rfl rfl (.as rfl) ?_
      refine .nil (.code ?_)
      refine .ret _ rfl ?_
      exact ⟨rfl, Z37.trans X44⟩
    · refine .p rfl rfl (.mv rfl) ?_
      refine .p rfl rfl (.yes (.eq rfl rfl) ((take_30 (Decidable.not_not.1 c56)).1)) ?_
      refine .p rfl rfl (.mv rfl) ?_
      refine .p rfl rfl (.mv rfl) ?_
      refine .p rfl rfl (.mv rfl) ?_
      refine .p rfl rfl (.yes (.lt rfl rfl) (by have h3 := (take_30 (Decidable.not_not.1 c56)).2; have h4 := total_pos (l := freeL first count l) (fun p hp => (freeL_in hp).1); split <;> omega)) ?_
      refine .p rfl rfl (.pickT rfl rfl) ?_
      refine .p rfl rfl (.pickF rfl rfl) ?_
      refine .p rfl rfl (.pickT rfl rfl) ?_
      refine .p rfl rfl (.as rfl) ?_
      refine .nil (.code ?_)
      refine .ret _ rfl ?_
      exact ⟨rfl, Z37.trans X44⟩
  · have hz : takeE first count l many = 0 := Decidable.not_not.1 c41
    obtain ⟨m1, m2, hfe, m3⟩ := take_in hz
    obtain ⟨i1, i2, i3, hck⟩ := freeE_in hfe
    obtain ⟨_, _, hll, hmay⟩ := check_ok hck
    obtain ⟨f0, rfl⟩ := Int.eq_ofNat_of_zero_le i1
    obtain ⟨n0, rfl⟩ := Int.eq_ofNat_of_zero_le (show 0 ≤ count by omega)
    obtain ⟨n', hn', hTr, hTt⟩ := takeL_runs hz
    generalize takeL (f0 : Int) (n0 : Int) l many = Tl at R30 hc30 hTr hTt
    have hTmay : mayP ((4096 : Nat) : Int) Tl := runs_may (N := 4096) (by omega) Tl hTr
    have hTl := (may_length hTmay).1
    have hTc : checkR 4096 Tl = 0 := check_0 (by decide) (by omega) hTmay
    have hBmay : mayP (n0 : Int) (l ++ Tl) := by rw [hTr]; exact both_may hn' hmay
    have hBl := (may_length hBmay).1
    have hBc : checkR (n0 : Int) (l ++ Tl) = 0 := check_0 (by omega) (by omega) hBmay
    have hBe : freeE (f0 : Int) (n0 : Int) (l ++ Tl) = 0 := by rw [freeE_c (by omega)]; exact hBc
    refine .skip (.code (.seq (.keep [(13, _), (10, _), (9, _), (0, _), (1, _), (2, _), (3, _)] ⟨rfl, rfl, rfl, rfl, rfl, rfl, rfl, trivial⟩ (.region ?_))))
    refine .p rfl rfl (.mv rfl) ?_
    refine .call (first := []) (captured := []) rfl rfl rfl rfl (RoomMany_fn ((Sl tPiece).ext0 R30 X37)) ?_
    rintro _ w68 ⟨rfl, X68⟩
    refine .p rfl rfl (.mv rfl) ?_
    refine .p rfl rfl (.extract rfl rfl) ?_
    refine .p rfl rfl (.extract rfl rfl) ?_
    refine .p rfl rfl (.as rfl) ?_
    refine .p rfl rfl (.as rfl) ?_
    refine .nil (.code (.seq (.keep [(17, _), (16, _), (13, _), (10, _), (9, _), (0, _), (1, _), (2, _), (3, _)] ⟨rfl, rfl, rfl, rfl, rfl, rfl, rfl, rfl, rfl, trivial⟩ (.region ?_))))
    refine .p rfl rfl (.mv rfl) ?_
    refine .v rfl rfl (.appendLo (t := tPiece) (xs := []) (ys := l) (Q := fun _ => False) (B := fun k => w68.heap.size ≤ k) (eb := 16) rfl OwnO.nil (fun k hk => hk) rfl (Sl.holds ((Sl tPiece).ext0 h (Z37.trans X68)) (fun _ _ h => h)) rfl rfl rfl rfl rfl rfl rfl (by simp; omega) (by simp [Lim]; omega) (fun _ h _ => h.elim)) ?_
    rintro r72 w72 ⟨O72, X72⟩
    rw [List.nil_append] at O72
    have Y72 : Ext (fun _ => False) w68 w72 := (Ext.refl _).then X72 (fun k hk _ => hk)
    have z72 := Y72.size
    refine .p rfl rfl (.mv rfl) ?_
    refine .v rfl rfl (.appendLo (t := tPiece) (xs := l) (ys := Tl) (Q := fun _ => False) (B := fun k => w68.heap.size ≤ k) (eb := 16) rfl O72 (fun k hk => by show w68.heap.size ≤ k; omega) rfl (Sl.holds ((Sl tPiece).ext0 R30 ((X37.trans X68).trans Y72)) (fun _ _ h => h)) rfl rfl rfl rfl rfl rfl rfl (by omega) (by simp only [Lim]; omega) (fun _ h _ => h.elim)) ?_
    rintro r74 w74 ⟨O74, X74⟩
    have Y74 : Ext (fun _ => False) w68 w74 := Y72.then X74 (fun k hk _ => hk)
    have R74 := OwnO.rep O74 (R := All) (fun _ _ _ => trivial) (fun _ h _ => h.elim)
    have Z74 := (Z37.trans X68).trans Y74
    refine .p rfl rfl (.as rfl) ?_
    refine .nil (.code (.seq (.seq (.keep [(18, _), (17, _), (16, _), (13, _), (10, _), (9, _), (0, _), (1, _), (3, _)] ⟨rfl, rfl, rfl, rfl, rfl, rfl, rfl, rfl, rfl, trivial⟩ (.region ?_)))))
    refine .p rfl rfl (.mv rfl) ?_
    refine .p rfl rfl (.ne rfl rfl) ?_
    refine .p rfl rfl (.mv rfl) ?_
    refine .caseD 77 rfl (fun c77 => ?_) (fun c77 => ?_)
    · exact absurd hfe c77
    · refine .p rfl rfl (.mv rfl) ?_
      refine .p rfl rfl (.ne rfl rfl) ?_
      refine .p rfl rfl (.pickF rfl rfl) ?_
      refine .p rfl rfl (.mv rfl) ?_
      refine .caseD 81 rfl (fun c81 => ?_) (fun c81 => ?_)
      · exact absurd hTc c81
      · refine .p rfl rfl (.mv rfl) ?_
        refine .p rfl rfl (.mv rfl) ?_
        refine .p rfl rfl (.ne rfl rfl) ?_
        refine .p rfl rfl (.pickF rfl rfl) ?_
        refine .p rfl rfl (.mv rfl) ?_
        refine .caseD 86 rfl (fun c86 => ?_) (fun c86 => ?_)
        · exact absurd (by rw [if_pos hTc, hTt]) c86
        · refine .p rfl rfl (.mv rfl) ?_
          refine .p rfl rfl (.mv rfl) ?_
          refine .call (first := []) (captured := []) rfl rfl rfl rfl (RoomCheck_fn R74) ?_
          rintro _ w89 ⟨rfl, X89⟩
          refine .p rfl rfl (.ne rfl rfl) ?_
          refine .p rfl rfl (.pickF rfl rfl) ?_
          refine .nil (.code (.keep [(91, _), (18, _), (10, _), (9, _), (0, _), (1, _)] ⟨rfl, rfl, rfl, rfl, rfl, rfl, trivial⟩ ?_))
          refine .condD rfl (fun c91 => ?_) (fun c91 => ?_)
          · exact absurd hBc c91
          · refine .skip (.code (.seq (.keep [(18, _), (10, _), (9, _), (0, _), (1, _)] ⟨rfl, rfl, rfl, rfl, rfl, trivial⟩ (.region ?_))))
            refine .p rfl rfl (.mv rfl) ?_
            refine .p rfl rfl (.mv rfl) ?_
            refine .p rfl rfl (.mv rfl) ?_
            refine .call (first := []) (captured := []) rfl rfl rfl rfl (Free_fn (first := (f0 : Int)) (count := (n0 : Int)) ((Sl tPiece).ext0 R74 X89)) ?_
            rintro _ w96 ⟨v96, rfl, O96, X96⟩
            have hBl : freeL (f0 : Int) (n0 : Int) (l ++ Tl) = runsTo (fun k => !covB (l ++ Tl) k) f0 (n0 - f0) := freeL_ok hBe
            rw [hBl] at O96
            generalize hrs : runsTo (fun k => !covB (l ++ Tl) k) f0 (n0 - f0) = rest at O96
            obtain ⟨a96, c96, rfl, hc96⟩ := OwnO.val O96
            have R96 := OwnO.rep O96 (R := All) (fun _ _ _ => trivial) (fun _ h _ => h.elim)
            have Z96 := (Z74.trans X89).trans X96
            refine .p rfl rfl (.mv rfl) ?_
            refine .p rfl rfl (.extract rfl rfl) ?_
            refine .p rfl rfl (.extract rfl rfl) ?_
            refine .p rfl rfl (.as rfl) ?_
            refine .p rfl rfl (.as rfl) ?_
            refine .nil (.code (.seq (.seq (.keep [(20, _), (19, _), (10, _), (9, _)] ⟨rfl, rfl, rfl, rfl, trivial⟩ (.region ?_)))))
            refine .p rfl rfl (.mv rfl) ?_
            refine .p rfl rfl (.ne rfl rfl) ?_
            refine .nil (.code (.keep [(100, _), (19, _), (10, _), (9, _)] ⟨rfl, rfl, rfl, rfl, trivial⟩ ?_))
            refine .condD rfl (fun c100 => ?_) (fun c100 => ?_)
            · exact absurd hBe c100
            · refine .skip (.code (.seq (.seq (.keep [(19, _), (10, _), (9, _)] ⟨rfl, rfl, rfl, trivial⟩ (.region ?_)))))
              refine .p rfl rfl (.mv rfl) ?_
              refine .p rfl rfl (.len rfl rfl) ?_
              refine .p rfl rfl (.eq rfl rfl) ?_
              refine .p rfl rfl (.mv rfl) ?_
              refine .caseD 104 rfl (fun c104 => ?_) (fun c104 => ?_)
              · refine .skip rfl rfl ?_
                refine .skip rfl rfl ?_
                refine .skip rfl rfl ?_
                refine .p rfl rfl (.pickT rfl rfl) ?_
                refine .nil (.code (.keep [(108, _), (19, _), (10, _), (9, _)] ⟨rfl, rfl, rfl, rfl, trivial⟩ (.condT rfl (.seq (.keep [(9, _)] ⟨rfl, trivial⟩ (.region ?_))))))
                refine .p rfl rfl (.mv rfl) ?_
                refine .p rfl rfl (.as rfl) ?_
                refine .nil (.code ?_)
                refine .ret _ rfl ?_
                exact ⟨rfl, Z96⟩
              · refine .p rfl rfl (.mv rfl) ?_
                refine .p rfl rfl (.len rfl rfl) ?_
                refine .p rfl rfl (.eq rfl rfl) ?_
                refine .p rfl rfl (.pickF rfl rfl) ?_
                refine .nil (.code (.keep [(108, _), (19, _), (10, _), (9, _)] ⟨rfl, rfl, rfl, rfl, trivial⟩ ?_))
                refine .condD rfl (fun c108 => ?_) (fun c108 => ?_)
                · refine .seq (.keep [(9, _)] ⟨rfl, trivial⟩ (.region ?_))
                  refine .p rfl rfl (.mv rfl) ?_
                  refine .p rfl rfl (.as rfl) ?_
                  refine .nil (.code ?_)
                  refine .ret _ rfl ?_
                  exact ⟨rfl, Z96⟩
                · have hT0 : Tl.length - 1 < Tl.length := by omega
                  have hr0 : 0 < rest.length := by omega
                  obtain ⟨b1, o1, q1, ue, e, hb1, hcs, hre⟩ := Sl.at ((Sl tPiece).ext0 R30 (((X37.trans X68).trans Y74).trans (X89.trans X96))) (List.getElem?_eq_getElem hT0)
                  cases e
                  obtain ⟨rfl, hr1, hr2⟩ := tPiece.val hre
                  obtain ⟨b2, o2, q2, ue2, e2, hb2, hcr, hrr⟩ := Sl.at R96 (List.getElem?_eq_getElem hr0)
                  cases e2
                  obtain ⟨rfl, hs1, hs2⟩ := tPiece.val hrr
                  have eix : ((Tl.length : Int) - 1).toNat = Tl.length - 1 := by omega
                  have hbeh : Tl[Tl.length - 1].fr + Tl[Tl.length - 1].ct ≤ rest[0].fr := rest_behind (l := l) (a := f0) (n := n0 - f0) (n' := n') (by omega) (by rw [← hTr, hrs]; exact List.getElem_mem hr0) (by rw [← hTr]; exact List.getElem_mem hT0)
                  have hokT := hTmay.1 Tl[Tl.length - 1] (List.getElem_mem hT0)
                  unfold okP at hokT
                  refine .skip (.code (.seq (.keep [(19, _), (10, _), (9, _)] ⟨rfl, rfl, rfl, trivial⟩ (.region ?_))))
                  refine .p rfl rfl (.mv rfl) ?_
                  refine .p rfl rfl (.mv rfl) ?_
                  refine .p rfl rfl (.len rfl rfl) ?_
                  refine .p rfl rfl (.sub rfl rfl (by omega)) ?_
                  refine .p rfl rfl (.indexAddr (s := 2) rfl rfl rfl rfl (by omega)) ?_
                  refine .p rfl rfl (.loadA (n := 2) rfl rfl rfl rfl rfl (by rw [eix]; exact hcs)) ?_
                  refine .v rfl rfl (.alloc rfl rfl) ?_
                  rintro _ w7a ⟨rfl, N7⟩
                  refine .s rfl (.storeAll (n := 2) rfl rfl rfl rfl rfl N7.blk rfl) ?_
                  intro w7 P7
                  have X7 := N7.ext.then P7.ext (by rintro k rfl _; exact Nat.le_refl _)
                  have B7 : Blk w7 w96.heap.size 30 [i64 Tl[Tl.length - 1].fr, i64 Tl[Tl.length - 1].ct] := P7.blk
                  refine .nil (.code (.seq (.keep [(21, _), (19, _), (9, _)] ⟨rfl, rfl, rfl, trivial⟩ (.draws (by kernel_rfl) (by kernel_rfl) ?_))))
                  refine .p rfl rfl (.mv rfl) ?_
                  refine .p rfl rfl (.mv rfl) ?_
                  refine .p rfl rfl (.mv rfl) ?_
                  refine .p rfl rfl (.indexAddr (s := 2) rfl rfl rfl rfl (by omega)) ?_
                  refine .p rfl rfl (.fieldAddr rfl rfl rfl rfl) ?_
                  refine .p rfl rfl (.load rfl rfl rfl ((hcr.ext X7 (fun x => x)) 0 _ rfl)) ?_
                  refine .p rfl rfl (.fieldAddr rfl rfl rfl rfl) ?_
                  refine .p rfl rfl (.load rfl rfl rfl (B7.cell 0)) ?_
                  refine .p rfl rfl (.fieldAddr rfl rfl rfl rfl) ?_
                  refine .p rfl rfl (.load rfl rfl rfl (B7.cell 1)) ?_
                  refine .p rfl rfl (.add rfl rfl (by omega)) ?_
                  refine .p rfl rfl (.yes (.ge rfl rfl) (by omega)) ?_
                  refine .p rfl rfl (.pickT rfl rfl) ?_
                  refine .p rfl rfl (.as rfl) ?_
                  refine .nil (.code ?_)
                  refine .ret _ rfl ?_
                  exact ⟨rfl, Z96.trans X7⟩
end Go.Proofs.Ytagjfplipknlkaa
