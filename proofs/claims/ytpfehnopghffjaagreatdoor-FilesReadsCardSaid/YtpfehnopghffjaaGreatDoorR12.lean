import Derived.Test.YtpfehnopghffjaaGreatDoorR11
import Derived.Test.YtpfehnopghffjaaGreatDoorR05
import Derived.Test.YtpfehnopghffjaaGreatDoorR07
set_option linter.unusedVariables false
set_option linter.unusedSimpArgs false
set_option maxRecDepth 20000
namespace Go.Proofs.YtpfehnopghffjaaGreatDoor
open Go room
namespace room
theorem free_all {f n : Nat} {l : List Piece} (h : freeE (f : Int) (n : Int) l = 0) : takeF (runsTo (fun k => !covB l k) f (n - f)) 4096 = freeL (f : Int) (n : Int) l := by
  obtain ⟨i1, i2, i3, _⟩ := freeE_in h
  rw [freeL_ok h]
  exact take_all (fun p hp => ((runs_ok _ f (n - f)).pos p hp).1) (total_in (N := 4096) (by omega))
end room
theorem RoomAsked_fn {w : World} {v : Value} {l : List Piece} {first count : Int} (h : (Sl tPiece).rep All w v l) : Fn Tryz.prog 126 [i64 first, i64 count, v] w (fun r w2 => r = i64 (freeE first count l) ∧ Ext (fun _ => False) w w2) := by
  refine Fn.enter (fun w => Tryz.call126 _ w) Tryz.func126 rfl ?_
  refine .seq (.region ?_)
  refine .p rfl rfl (.as rfl) ?_
  refine .nil (.code (.seq (.seq (.keep [(0, _), (1, _), (2, _)] ⟨rfl, rfl, rfl, trivial⟩ (.region ?_)))))
  refine .p rfl rfl (.mv rfl) ?_
  refine .p rfl rfl (.lt rfl rfl) ?_
  refine .p rfl rfl (.mv rfl) ?_
  refine .caseD 9 rfl (fun c9 => ?_) (fun c9 => ?_)
  · refine .skip rfl rfl ?_
    refine .skip rfl rfl ?_
    refine .p rfl rfl (.pickT rfl rfl) ?_
    refine .p rfl rfl (.mv rfl) ?_
    refine .skip rfl rfl ?_
    refine .skip rfl rfl ?_
    refine .p rfl rfl (.pickT rfl rfl) ?_
    refine .p rfl rfl (.mv rfl) ?_
    refine .skip rfl rfl ?_
    refine .skip rfl rfl ?_
    refine .skip rfl rfl ?_
    refine .p rfl rfl (.pickT rfl rfl) ?_
    refine .nil (.code (.keep [(21, _), (1, _), (2, _)] ⟨rfl, rfl, rfl, trivial⟩ (.condT rfl (.seq (.keep [] trivial (.region ?_))))))
    refine .p rfl rfl (.as rfl) ?_
    refine .nil (.code ?_)
    refine .ret _ rfl ?_
    rw [freeE_2 (by omega)]
    exact ⟨rfl, .refl _⟩
  · refine .p rfl rfl (.mv rfl) ?_
    refine .p rfl rfl (.gt rfl rfl) ?_
    refine .p rfl rfl (.pickF rfl rfl) ?_
    refine .p rfl rfl (.mv rfl) ?_
    refine .caseD 13 rfl (fun c13 => ?_) (fun c13 => ?_)
    · refine .skip rfl rfl ?_
      refine .skip rfl rfl ?_
      refine .p rfl rfl (.pickT rfl rfl) ?_
      refine .p rfl rfl (.mv rfl) ?_
      refine .skip rfl rfl ?_
      refine .skip rfl rfl ?_
      refine .skip rfl rfl ?_
      refine .p rfl rfl (.pickT rfl rfl) ?_
      refine .nil (.code (.keep [(21, _), (1, _), (2, _)] ⟨rfl, rfl, rfl, trivial⟩ (.condT rfl (.seq (.keep [] trivial (.region ?_))))))
      refine .p rfl rfl (.as rfl) ?_
      refine .nil (.code ?_)
      refine .ret _ rfl ?_
      rw [freeE_2 (by omega)]
      exact ⟨rfl, .refl _⟩
    · refine .p rfl rfl (.mv rfl) ?_
      refine .p rfl rfl (.lt rfl rfl) ?_
      refine .p rfl rfl (.pickF rfl rfl) ?_
      refine .p rfl rfl (.mv rfl) ?_
      refine .caseD 17 rfl (fun c17 => ?_) (fun c17 => ?_)
      · refine .skip rfl rfl ?_
        refine .skip rfl rfl ?_
        refine .skip rfl rfl ?_
        refine .p rfl rfl (.pickT rfl rfl) ?_
        refine .nil (.code (.keep [(21, _), (1, _), (2, _)] ⟨rfl, rfl, rfl, trivial⟩ (.condT rfl (.seq (.keep [] trivial (.region ?_))))))
        refine .p rfl rfl (.as rfl) ?_
        refine .nil (.code ?_)
        refine .ret _ rfl ?_
        rw [freeE_2 (by omega)]
        exact ⟨rfl, .refl _⟩
      · refine .p rfl rfl (.mv rfl) ?_
        refine .p rfl rfl (.mv rfl) ?_
        refine .p rfl rfl (.gt rfl rfl) ?_
        refine .p rfl rfl (.pickF rfl rfl) ?_
        refine .nil (.code (.keep [(21, _), (1, _), (2, _)] ⟨rfl, rfl, rfl, trivial⟩ ?_))
        refine .condD rfl (fun c21 => ?_) (fun c21 => ?_)
        · refine .seq (.keep [] trivial (.region ?_))
          refine .p rfl rfl (.as rfl) ?_
          refine .nil (.code ?_)
          refine .ret _ rfl ?_
          rw [freeE_2 (by omega)]
          exact ⟨rfl, .refl _⟩
        · refine .skip (.code (.seq (.keep [(1, _), (2, _)] ⟨rfl, rfl, trivial⟩ (.region ?_))))
          refine .p rfl rfl (.mv rfl) ?_
          refine .p rfl rfl (.mv rfl) ?_
          refine .call (first := []) (captured := []) rfl rfl rfl rfl (RefCheck_fn h) ?_
          rintro _ w24 ⟨rfl, X24⟩
          refine .p rfl rfl (.as rfl) ?_
          refine .nil (.code ?_)
          refine .ret _ rfl ?_
          rw [freeE_c (by omega)]
          exact ⟨rfl, X24⟩
theorem RefFree_fn {w : World} {v : Value} {l : List Piece} {first count : Int} (h : (Sl tPiece).rep All w v l) : Fn Tryz.prog 76 [i64 first, i64 count, v] w (fun r w2 => ∃ v', r = .tuple #[v', i64 (freeE first count l)] ∧ OwnO tPiece (fun _ => False) 40 w2 v' (freeL first count l) (fun k => w.heap.size ≤ k) ∧ Ext (fun _ => False) w w2) := by
  refine Fn.enter (fun w => Tryz.call76 _ w) Tryz.func76 rfl ?_
  refine .seq (.region ?_)
  refine .p rfl rfl (.as rfl) ?_
  refine .p rfl rfl (.as rfl) ?_
  refine .nil (.code (.seq (.keep [(0, _), (1, _), (2, _)] ⟨rfl, rfl, rfl, trivial⟩ (.region ?_))))
  refine .p rfl rfl (.mv rfl) ?_
  refine .p rfl rfl (.mv rfl) ?_
  refine .p rfl rfl (.mv rfl) ?_
  refine .call (first := []) (captured := []) rfl rfl rfl rfl (RoomAsked_fn h) ?_
  rintro _ w14 ⟨rfl, X14⟩
  refine .p rfl rfl (.as rfl) ?_
  refine .nil (.code (.seq (.seq (.keep [(8, _), (0, _), (1, _), (2, _)] ⟨rfl, rfl, rfl, rfl, trivial⟩ (.region ?_)))))
  refine .p rfl rfl (.mv rfl) ?_
  refine .p rfl rfl (.ne rfl rfl) ?_
  refine .nil (.code (.keep [(16, _), (8, _), (0, _), (1, _), (2, _)] ⟨rfl, rfl, rfl, rfl, rfl, trivial⟩ ?_))
  refine .condD rfl (fun c16 => ?_) (fun c16 => ?_)
  · refine .seq (.keep [(8, _)] ⟨rfl, trivial⟩ (.region ?_))
    refine .p rfl rfl (.mv rfl) ?_
    refine .p rfl rfl (.as rfl) ?_
    refine .p rfl rfl (.as rfl) ?_
    refine .nil (.code ?_)
    refine .ret _ rfl ?_
    rw [freeL_bad c16]
    exact ⟨_, rfl, OwnO.nil, X14⟩
  · have hz : freeE first count l = 0 := Decidable.not_not.1 c16
    obtain ⟨i1, i2, i3, hck⟩ := freeE_in hz
    obtain ⟨_, _, hll, hmay⟩ := check_ok hck
    obtain ⟨f0, rfl⟩ := Int.eq_ofNat_of_zero_le i1
    obtain ⟨n0, rfl⟩ := Int.eq_ofNat_of_zero_le (show 0 ≤ count by omega)
    refine .skip (.code (.seq (.keep [(0, _), (1, _), (2, _)] ⟨rfl, rfl, rfl, trivial⟩ (.region ?_))))
    refine .p rfl rfl (.mv rfl) ?_
    refine .p rfl rfl (.mv rfl) ?_
    refine .call (first := []) (captured := []) rfl rfl rfl rfl (taken_fn (n := n0) ((Sl tPiece).ext0 h X14) (by omega)) ?_
    rintro _ w21 ⟨v21, rfl, hB21, X21⟩
    obtain ⟨rfl, B21⟩ := hB21 hmay
    refine .p rfl rfl (.mv rfl) ?_
    refine .p rfl rfl (.extract rfl rfl) ?_
    refine .p rfl rfl (.extract rfl rfl) ?_
    refine .p rfl rfl (.as rfl) ?_
    refine .p rfl rfl (.as rfl) ?_
    refine .nil (.code (.seq (.keep [(9, _), (0, _)] ⟨rfl, rfl, trivial⟩ (.region ?_))))
    refine .p rfl rfl (.mv rfl) ?_
    refine .p rfl rfl (.mv rfl) ?_
    refine .call (first := []) (captured := []) rfl rfl rfl rfl (runs_fn (f := covB l) (g := fun k => !covB l k) (want := false) (m := 4096) B21 (fun k => by cases covB l k <;> rfl) (by omega) (by omega) (by decide)) ?_
    rintro r26 w26 ⟨O26, X26⟩
    rw [free_all hz] at O26
    refine .p rfl rfl (.as rfl) ?_
    refine .p rfl rfl (.as rfl) ?_
    refine .nil (.code ?_)
    refine .ret _ rfl ?_
    rw [hz]
    exact ⟨_, rfl, OwnO.mono O26 (fun _ h _ => h) (fun k hk _ => Nat.le_trans (X14.trans X21).size hk), (X14.trans X21).trans X26⟩
theorem RefMany_fn {w : World} {v : Value} {l : List Piece} (h : (Sl tPiece).rep All w v l) : Fn Tryz.prog 78 [v] w (fun r w2 => r = .tuple #[i64 (if checkR 4096 l = 0 then totalF l else 0), i64 (checkR 4096 l)] ∧ Ext (fun _ => False) w w2) := by
  obtain ⟨a, cap, rfl, hcap⟩ := Sl.val h
  refine Fn.enter (fun w => Tryz.call78 _ w) Tryz.func78 rfl ?_
  refine .seq (.region ?_)
  refine .p rfl rfl (.as rfl) ?_
  refine .p rfl rfl (.as rfl) ?_
  refine .nil (.code (.seq (.keep [(0, _)] ⟨rfl, trivial⟩ (.region ?_))))
  refine .p rfl rfl (.mv rfl) ?_
  refine .call (first := []) (captured := []) rfl rfl rfl rfl (RefCheck_fn h) ?_
  rintro _ w8 ⟨rfl, X8⟩
  refine .p rfl rfl (.as rfl) ?_
  refine .nil (.code (.seq (.seq (.keep [(4, _), (0, _)] ⟨rfl, rfl, trivial⟩ (.region ?_)))))
  refine .p rfl rfl (.mv rfl) ?_
  refine .p rfl rfl (.ne rfl rfl) ?_
  refine .nil (.code (.keep [(10, _), (4, _), (0, _)] ⟨rfl, rfl, rfl, trivial⟩ ?_))
  refine .condD rfl (fun c10 => ?_) (fun c10 => ?_)
  · refine .seq (.keep [(4, _)] ⟨rfl, trivial⟩ (.region ?_))
    refine .p rfl rfl (.mv rfl) ?_
    refine .p rfl rfl (.as rfl) ?_
    refine .p rfl rfl (.as rfl) ?_
    refine .nil (.code ?_)
    refine .ret _ rfl ?_
    rw [if_neg c10]
    exact ⟨rfl, X8⟩
  · have hz : checkR 4096 l = 0 := Decidable.not_not.1 c10
    obtain ⟨_, _, hll, hmay⟩ := check_ok hz
    have hpos : ∀ p ∈ l, 0 ≤ p.ct ∧ p.ct ≤ 4096 := fun p hp => by have := hmay.1 p hp; unfold okP at this; omega
    refine .skip (.code (.seq (.keep [(0, _)] ⟨rfl, trivial⟩ (.region ?_))))
    refine .p rfl rfl (.as rfl) ?_
    refine .nil (.code (.seq (.seq (.region ?_))))
    refine .p rfl rfl (.as rfl) ?_
    refine .nil (.code (.block ?_))
    refine .loop (S := Nat) (fun s => [(0, .slice a l.length cap), (5, i64 (totalF (l.take s))), (6, i64 s)]) (fun s => w8) (fun s => s ≤ l.length) (fun s => l.length - s) 0 ⟨rfl, rfl, rfl, trivial⟩ rfl (Nat.zero_le _) ?_
    intro i J hi' again
    refine .seq (.seq (.region ?_))
    refine .p rfl rfl (.mv rfl) ?_
    refine .p rfl rfl (.mv rfl) ?_
    refine .p rfl rfl (.len rfl rfl) ?_
    refine .p rfl rfl (.lt rfl rfl) ?_
    refine .nil (.code (.keep [(15, _), (0, _), (5, _), (6, _)] ⟨rfl, rfl, rfl, rfl, trivial⟩ ?_))
    refine .condD rfl (fun c15 => ?_) (fun c15 => ?_)
    · have hi : i < l.length := by omega
      obtain ⟨b1, o1, q1, ue, e, _, hcs, hre⟩ := Sl.at h (List.getElem?_eq_getElem hi)
      cases e
      obtain ⟨rfl, hr1, hr2⟩ := tPiece.val hre
      have ht := total_bd (M := 4096) (by decide) (l := l.take i) (fun p hp => hpos p (List.mem_of_mem_take hp))
      have hl0 := hpos l[i] (List.getElem_mem hi)
      have hle : (l.take i).length ≤ l.length := by rw [List.length_take]; omega
      refine .skip (.code (.seq (.block (.keep [(0, _), (5, _), (6, _)] ⟨rfl, rfl, rfl, trivial⟩ (.region ?_)))))
      refine .p rfl rfl (.mv rfl) ?_
      refine .p rfl rfl (.mv rfl) ?_
      refine .p rfl rfl (.mv rfl) ?_
      refine .p rfl rfl (.indexAddr (s := 2) rfl rfl rfl rfl (by omega)) ?_
      refine .p rfl rfl (.fieldAddr rfl rfl rfl rfl) ?_
      refine .p rfl rfl (.load rfl rfl rfl ((hcs.ext X8 (fun x => x)) 1 _ rfl)) ?_
      refine .p rfl rfl (.cast (.add rfl rfl (by omega)) (show i64 (totalF (l.take i) + l[i].ct) = i64 (totalF (l.take (i + 1))) by rw [total_take hi])) ?_
      refine .p rfl rfl (.as rfl) ?_
      refine .nil (.blk (.code (.keep [(5, _), (0, _), (6, _)] ⟨rfl, rfl, rfl, trivial⟩ (.region ?_))))
      refine .p rfl rfl (.mv rfl) ?_
      refine .p rfl rfl (.add rfl rfl (by omega)) ?_
      refine .p rfl rfl (.as rfl) ?_
      refine .nil ?_
      exact (again (i + 1) (by show i + 1 ≤ _; omega) (by show _ - (i + 1) < _ - i; omega)).of ⟨rfl, rfl, rfl, trivial⟩
    · obtain rfl : i = l.length := by omega
      rw [List.take_length]
      refine .exit rfl (.code (.seq (.keep [(5, _)] ⟨rfl, trivial⟩ (.region ?_))))
      refine .p rfl rfl (.mv rfl) ?_
      refine .p rfl rfl (.as rfl) ?_
      refine .p rfl rfl (.as rfl) ?_
      refine .nil (.code ?_)
      refine .ret _ rfl ?_
      rw [if_pos hz, hz]
      exact ⟨rfl, X8⟩
theorem RefSectors_fn {w : World} {v : Value} {l : List Piece} (h : (Sl tPiece).rep All w v l) : Fn Tryz.prog 101 [v] w (fun r w2 => ∃ v', r = .tuple #[v', i64 (checkR 4096 l)] ∧ OwnO tInt (fun _ => False) 3 w2 v' (if checkR 4096 l = 0 then sectF l else []) (fun k => w.heap.size ≤ k) ∧ Ext (fun _ => False) w w2) := by
  obtain ⟨a, cap, rfl, hcap⟩ := Sl.val h
  refine Fn.enter (fun w => Tryz.call101 _ w) Tryz.func101 rfl ?_
  refine .seq (.region ?_)
  refine .p rfl rfl (.as rfl) ?_
  refine .p rfl rfl (.as rfl) ?_
  refine .nil (.code (.seq (.keep [(0, _)] ⟨rfl, trivial⟩ (.region ?_))))
  refine .p rfl rfl (.mv rfl) ?_
  refine .call (first := []) (captured := []) rfl rfl rfl rfl (RefCheck_fn h) ?_
  rintro _ w9 ⟨rfl, X9⟩
  have R9 : (Sl tPiece).rep (fun k => k < w9.heap.size) w9 (.slice a l.length cap) l := (Sl tPiece).mono ((Sl tPiece).ext0 h X9) (fun k _ h => h)
  refine .p rfl rfl (.as rfl) ?_
  refine .nil (.code (.seq (.seq (.keep [(4, _), (0, _)] ⟨rfl, rfl, trivial⟩ (.region ?_)))))
  refine .p rfl rfl (.mv rfl) ?_
  refine .p rfl rfl (.ne rfl rfl) ?_
  refine .nil (.code (.keep [(11, _), (4, _), (0, _)] ⟨rfl, rfl, rfl, trivial⟩ ?_))
  refine .condD rfl (fun c11 => ?_) (fun c11 => ?_)
  · refine .seq (.keep [(4, _)] ⟨rfl, trivial⟩ (.region ?_))
    refine .p rfl rfl (.mv rfl) ?_
    refine .p rfl rfl (.as rfl) ?_
    refine .p rfl rfl (.as rfl) ?_
    refine .nil (.code ?_)
    refine .ret _ rfl ?_
    rw [if_neg c11]
    exact ⟨_, rfl, OwnO.nil, X9⟩
  · have hz : checkR 4096 l = 0 := Decidable.not_not.1 c11
    obtain ⟨_, _, hll, hmay⟩ := check_ok hz
    refine .skip (.code (.seq (.keep [(0, _)] ⟨rfl, trivial⟩ (.region ?_))))
    refine .p rfl rfl (.as rfl) ?_
    refine .nil (.code (.seq (.seq (.region ?_))))
    refine .p rfl rfl (.as rfl) ?_
    refine .nil (.code (.block ?_))
    refine .loop (S := Nat × World × Value) (fun s => [(0, .slice a l.length cap), (5, s.2.2), (6, i64 s.1)]) (fun s => s.2.1) (fun s => s.1 ≤ l.length ∧ OwnO tInt (fun _ => False) 3 s.2.1 s.2.2 (sectF (l.take s.1)) (fun k => w9.heap.size ≤ k) ∧ Ext (fun k => w9.heap.size ≤ k) w9 s.2.1) (fun s => l.length - s.1) (0, w9, .slice none 0 0) ⟨rfl, rfl, rfl, trivial⟩ rfl ⟨Nat.zero_le _, OwnO.nil, .refl _⟩ ?_
    rintro ⟨i, wi, vo⟩ J ⟨hi', hO, hX⟩ again
    simp only at hi' hO hX
    change G _ [(0, .slice a l.length cap), (5, vo), (6, i64 i)] _ _ wi
    refine .seq (.seq (.region ?_))
    refine .p rfl rfl (.mv rfl) ?_
    refine .p rfl rfl (.mv rfl) ?_
    refine .p rfl rfl (.len rfl rfl) ?_
    refine .p rfl rfl (.lt rfl rfl) ?_
    refine .nil (.code (.keep [(16, _), (0, _), (5, _), (6, _)] ⟨rfl, rfl, rfl, rfl, trivial⟩ ?_))
    refine .condD rfl (fun c16 => ?_) (fun c16 => ?_)
    · have hi : i < l.length := by omega
      obtain ⟨b1, o1, q1, ue, e, hb1, hcs, hre⟩ := Sl.at R9 (List.getElem?_eq_getElem hi)
      cases e
      obtain ⟨rfl, hr1, hr2⟩ := tPiece.val hre
      have hb1 : ¬ w9.heap.size ≤ b1 := by have hb1 : b1 < w9.heap.size := hb1; omega
      have hki := hmay.1 l[i] (List.getElem_mem hi)
      unfold okP at hki
      have zi := hX.size
      have hsl := sect_length (l := l.take i) (fun p hp => by have := hmay.1 p (List.mem_of_mem_take hp); unfold okP at this; omega)
      rw [List.length_take] at hsl
      refine .skip (.code (.seq (.block (.seq (.keep [(0, _), (5, _), (6, _)] ⟨rfl, rfl, rfl, trivial⟩ (.region ?_))))))
      refine .p rfl rfl (.as rfl) ?_
      refine .nil (.code (.block ?_))
      refine .loop (S := Nat × World × Value) (fun s => [(0, .slice (some ⟨b1, o1, none⟩) l.length cap), (5, s.2.2), (6, i64 (i : Nat)), (7, i64 s.1)]) (fun s => s.2.1) (fun s => s.1 ≤ l[i].ct.toNat ∧ OwnO tInt (fun _ => False) 3 s.2.1 s.2.2 (sectF (l.take i) ++ oneF l[i] s.1) (fun k => w9.heap.size ≤ k) ∧ Ext (fun k => w9.heap.size ≤ k) w9 s.2.1) (fun s => l[i].ct.toNat - s.1) (0, wi, vo) ⟨rfl, rfl, rfl, rfl, trivial⟩ rfl ⟨Nat.zero_le _, by show OwnO _ _ _ _ _ (_ ++ []) _; rw [List.append_nil]; exact hO, hX⟩ ?_
      rintro ⟨k, wj, vp⟩ J2 ⟨hk', hP, hY⟩ again2
      simp only at hk' hP hY
      have zj := hY.size
      change G _ [(0, .slice (some ⟨b1, o1, none⟩) l.length cap), (5, vp), (6, i64 (i : Nat)), (7, i64 k)] _ _ wj
      refine .seq (.seq (.region ?_))
      refine .p rfl rfl (.mv rfl) ?_
      refine .p rfl rfl (.mv rfl) ?_
      refine .p rfl rfl (.mv rfl) ?_
      refine .p rfl rfl (.indexAddr (s := 2) rfl rfl rfl rfl (by omega)) ?_
      refine .p rfl rfl (.fieldAddr rfl rfl rfl rfl) ?_
      refine .p rfl rfl (.load rfl rfl rfl ((hcs.ext hY hb1) 1 _ rfl)) ?_
      refine .p rfl rfl (.lt rfl rfl) ?_
      refine .nil (.code (.keep [(25, _), (0, _), (5, _), (6, _), (7, _)] ⟨rfl, rfl, rfl, rfl, rfl, trivial⟩ ?_))
      refine .condD rfl (fun c25 => ?_) (fun c25 => ?_)
      · refine .skip (.code (.seq (.block (.keep [(0, _), (5, _), (6, _), (7, _)] ⟨rfl, rfl, rfl, rfl, trivial⟩ (.region ?_)))))
        refine .p rfl rfl (.mv rfl) ?_
        refine .p rfl rfl (.mv rfl) ?_
        refine .p rfl rfl (.mv rfl) ?_
        refine .p rfl rfl (.indexAddr (s := 2) rfl rfl rfl rfl (by omega)) ?_
        refine .p rfl rfl (.fieldAddr rfl rfl rfl rfl) ?_
        refine .p rfl rfl (.load rfl rfl rfl ((hcs.ext hY hb1) 0 _ rfl)) ?_
        refine .p rfl rfl (.mv rfl) ?_
        refine .p rfl rfl (.add rfl rfl (by omega)) ?_
        refine .v rfl rfl (.lits rfl rfl (fun _ => by kernel_rfl)) ?_
        rintro _ w36 ⟨rfl, N36⟩
        refine .v rfl rfl (.appendLo (t := tInt) (xs := sectF (l.take i) ++ oneF l[i] k) (ys := [l[i].fr + (k : Int)]) (Q := fun _ => False) (B := fun k => w9.heap.size ≤ k) (eb := 8) rfl (OwnO.ext0 hP N36.ext) (fun k hk => by have := N36.size; show w9.heap.size ≤ k; omega) rfl (.inr (New.holds (t := tInt) (us := [i64 (l[i].fr + (k : Int))]) (xs := [l[i].fr + (k : Int)]) N36 (.cons ⟨rfl, by omega⟩ .nil) rfl)) rfl rfl rfl rfl rfl rfl rfl (by simp only [List.length_append, one_length, List.length_singleton]; omega) (by simp only [List.length_append, one_length, List.length_singleton, Lim]; omega) (fun _ h _ => h.elim)) ?_
        rintro r37 w37 ⟨O37, X37⟩
        have hY := (hY.trans (N36.ext.mono (fun _ _ h => h.elim))).trans X37
        refine .p rfl rfl (.as rfl) ?_
        refine .nil (.blk (.code (.keep [(5, _), (0, _), (6, _), (7, _)] ⟨rfl, rfl, rfl, rfl, trivial⟩ (.region ?_))))
        refine .p rfl rfl (.mv rfl) ?_
        refine .p rfl rfl (.add rfl rfl (by omega)) ?_
        refine .p rfl rfl (.as rfl) ?_
        refine .nil ?_
        exact (again2 (k + 1, w37, _) ⟨by show k + 1 ≤ _; omega, by rw [one_succ, ← List.append_assoc]; exact O37, hY⟩ (by show _ - (k + 1) < _ - k; omega)).of ⟨rfl, rfl, rfl, rfl, trivial⟩
      · obtain rfl : k = l[i].ct.toNat := by omega
        refine .exit rfl (.blk (.code (.keep [(0, _), (5, _), (6, _)] ⟨rfl, rfl, rfl, trivial⟩ (.region ?_))))
        refine .p rfl rfl (.mv rfl) ?_
        refine .p rfl rfl (.add rfl rfl (by omega)) ?_
        refine .p rfl rfl (.as rfl) ?_
        refine .nil ?_
        exact (again (i + 1, wj, _) ⟨by show i + 1 ≤ _; omega, by rw [sect_take hi]; exact hP, hY⟩ (by show _ - (i + 1) < _ - i; omega)).of ⟨rfl, rfl, rfl, trivial⟩
    · obtain rfl : i = l.length := by omega
      rw [List.take_length] at hO
      refine .exit rfl (.code (.seq (.keep [(5, _)] ⟨rfl, trivial⟩ (.region ?_))))
      refine .p rfl rfl (.mv rfl) ?_
      refine .p rfl rfl (.as rfl) ?_
      refine .p rfl rfl (.as rfl) ?_
      refine .nil (.code ?_)
      refine .ret _ rfl ?_
      rw [if_pos hz, hz]
      exact ⟨_, rfl, OwnO.mono hO (fun _ h _ => h) (fun k hk _ => Nat.le_trans X9.size hk), X9.then hX (fun k hk _ => Nat.le_trans X9.size hk)⟩
end Go.Proofs.YtpfehnopghffjaaGreatDoor
namespace Go.Proofs.YtpfehnopghffjaaGreatDoor
open Go
theorem add128 (m : Nat) : UInt8.ofNat ((m : Int) % 128).toNat + 128 = UInt8.ofNat (m % 128 + 128) := by
  have h : ((m : Int) % 128).toNat = m % 128 := by omega
  rw [h, ← UInt8.toNat_inj]
  simp
theorem RefSmall_fn {w : World} {n : Nat} (hn : n < 18446744073709551616) : Fn Tryz.prog 115 [.int .u64 n] w (fun r w2 => Gr w2 r (smallF n) w.heap.size ∧ Ext (fun _ => False) w w2) := by
  refine Fn.enter (fun w => Tryz.call115 _ w) Tryz.func115 rfl ?_
  refine .seq (.region ?_)
  refine .p rfl rfl (.as rfl) ?_
  refine .nil (.code (.seq (.keep [(0, _)] ⟨rfl, trivial⟩ (.region ?_))))
  refine .p rfl rfl (.as rfl) ?_
  refine .nil (.code (.seq (.block ?_)))
  refine .loop (S := Nat × Nat × Bs × Value × World) (fun s => [(0, .int .u64 (s.2.1 : Nat)), (3, s.2.2.2.1)]) (fun s => s.2.2.2.2) (fun s => 1 ≤ s.1 ∧ s.1 ≤ 10 ∧ s.2.1 < 18446744073709551616 ∧ s.2.1 < 128 ^ s.1 ∧ smallF n = s.2.2.1 ++ smallK s.1 s.2.1 ∧ s.2.2.1.length ≤ 10 - s.1 ∧ Gr s.2.2.2.2 s.2.2.2.1 s.2.2.1 w.heap.size ∧ Ext (fun _ => False) w s.2.2.2.2) (fun s => s.1) (10, n, [], .slice none 0 0, w) ⟨rfl, rfl, trivial⟩ rfl ⟨(by decide : 1 ≤ 10), (by decide : 10 ≤ 10), hn, Nat.lt_of_lt_of_le hn (by decide : 18446744073709551616 ≤ 128 ^ 10), rfl, (by decide : 0 ≤ 10 - 10), OwnO.nil, .refl _⟩ ?_
  rintro ⟨f, m, acc, v, wi⟩ J ⟨h1, h10, hm64, hm, hs, hl, hG, hX⟩ again
  simp only at h1 h10 hm64 hm hs hl hG hX
  have zi : w.heap.size ≤ wi.heap.size := hX.size
  change G _ [(0, .int .u64 (m : Nat)), (3, v)] _ _ wi
  refine .seq (.seq (.region ?_))
  refine .p rfl rfl (.mv rfl) ?_
  refine .p rfl rfl (.ge rfl rfl) ?_
  refine .nil (.code (.keep [(5, _), (0, _), (3, _)] ⟨rfl, rfl, rfl, trivial⟩ ?_))
  refine .condD rfl (fun c5 => ?_) (fun c5 => ?_)
  · obtain ⟨f, rfl⟩ : ∃ f', f = f' + 1 := ⟨f - 1, by omega⟩
    have hle := smallK_length (f + 1) m
    have hsp : smallK (f + 1) m = UInt8.ofNat (m % 128 + 128) :: smallK f (m / 128) := by rw [smallK, if_neg (by omega)]
    refine .skip (.code (.block (.seq (.keep [(0, _), (3, _)] ⟨rfl, rfl, trivial⟩ (.region ?_)))))
    refine .p rfl rfl (.mv rfl) ?_
    refine .p rfl rfl (.mv rfl) ?_
    refine .p rfl rfl (.rem rfl rfl (by omega)) ?_
    refine .p rfl rfl (.convB rfl rfl rfl (by omega)) ?_
    refine .p rfl rfl (.cast (.add8 (b := 128) rfl rfl) (show _ = u8 (UInt8.ofNat (m % 128 + 128)) by rw [add128])) ?_
    refine .v rfl rfl (.lits rfl rfl (fun _ => by kernel_rfl)) ?_
    rintro _ w12 ⟨rfl, N12⟩
    have z12 : w12.heap.size = wi.heap.size + 1 := N12.size
    refine .v rfl rfl (.appendLo (t := tByte) (eb := 1) rfl (hG.ext0 N12.ext) (fun k hk => by have hk : w12.heap.size ≤ k := hk; show w.heap.size ≤ k; omega) rfl (one_holds N12) rfl rfl rfl rfl rfl rfl rfl (by simp; omega) (by simp [Lim]; omega) (fun _ h _ => h.elim)) ?_
    rintro r13 w13 ⟨G13, Y13⟩
    have z13 : w12.heap.size ≤ w13.heap.size := Y13.size
    refine .p rfl rfl (.as rfl) ?_
    refine .nil (.code (.keep [(3, _), (0, _)] ⟨rfl, rfl, trivial⟩ (.region ?_)))
    refine .p rfl rfl (.mv rfl) ?_
    refine .p rfl rfl (.cast (.quoU rfl rfl (by omega)) (show _ = Value.int .u64 ((m / 128 : Nat) : Int) by simp)) ?_
    refine .p rfl rfl (.as rfl) ?_
    refine .nil (.blk ?_)
    have hf1 : 1 ≤ f := by
      rcases Nat.eq_zero_or_pos f with rfl | h
      · have : m < 128 := by simpa using hm
        omega
      · exact h
    exact (again (f, m / 128, acc ++ [UInt8.ofNat (m % 128 + 128)], r13, w13) ⟨hf1, by show f ≤ 10; omega, by show m / 128 < _; omega, by show m / 128 < 128 ^ f; rw [Nat.pow_succ] at hm; omega, by show smallF n = (acc ++ [_]) ++ smallK f (m / 128); rw [hs, hsp, List.append_assoc]; rfl, by show (acc ++ [_]).length ≤ 10 - f; simp; omega, G13, (hX.trans N12.ext).then Y13 (fun k hk _ => hk)⟩ (by show f < f + 1; omega)).of ⟨rfl, rfl, trivial⟩
  · obtain ⟨f, rfl⟩ : ∃ f', f = f' + 1 := ⟨f - 1, by omega⟩
    have hsp : smallK (f + 1) m = [UInt8.ofNat m] := by rw [smallK, if_pos (by omega)]
    refine .exit rfl (.code (.seq (.keep [(0, _), (3, _)] ⟨rfl, rfl, trivial⟩ (.region ?_))))
    refine .p rfl rfl (.mv rfl) ?_
    refine .p rfl rfl (.mv rfl) ?_
    refine .p rfl rfl (.cast (.convB rfl rfl rfl (by omega)) (show _ = u8 (UInt8.ofNat m) by rw [Int.toNat_natCast])) ?_
    refine .v rfl rfl (.lits rfl rfl (fun _ => by kernel_rfl)) ?_
    rintro _ w17 ⟨rfl, N17⟩
    have z17 : w17.heap.size = wi.heap.size + 1 := N17.size
    refine .v rfl rfl (.appendLo (t := tByte) (eb := 1) rfl (hG.ext0 N17.ext) (fun k hk => by have hk : w17.heap.size ≤ k := hk; show w.heap.size ≤ k; omega) rfl (one_holds N17) rfl rfl rfl rfl rfl rfl rfl (by simp; omega) (by simp [Lim]; omega) (fun _ h _ => h.elim)) ?_
    rintro r18 w18 ⟨G18, Y18⟩
    have z18 : w17.heap.size ≤ w18.heap.size := Y18.size
    refine .p rfl rfl (.as rfl) ?_
    refine .nil (.code ?_)
    refine .ret _ rfl ?_
    exact ⟨by rw [hs, hsp]; exact G18, (hX.trans N17.ext).then Y18 (fun k hk _ => hk)⟩
theorem RefText_fn {w : World} {l : Bs} (hl : l.length < Lim) (hl2 : l.length + 10 < Lim) : Fn Tryz.prog 53 [str l] w (fun r w2 => Gr w2 r (textF l) w.heap.size ∧ Ext (fun _ => False) w w2) := by
  simp only [Lim] at hl
  have hsl := smallF_length l.length
  refine Fn.enter (fun w => Tryz.call53 _ w) Tryz.func53 rfl ?_
  refine .seq (.region ?_)
  refine .p rfl rfl (.as rfl) ?_
  refine .nil (.code (.seq (.keep [(0, _)] ⟨rfl, trivial⟩ (.region ?_))))
  refine .p rfl rfl (.mv rfl) ?_
  refine .p rfl rfl (.lenS rfl rfl) ?_
  refine .p rfl rfl (.convU rfl rfl rfl (by omega)) ?_
  refine .call (first := []) (captured := []) rfl rfl rfl rfl (RefSmall_fn (n := l.length) (by omega)) ?_
  rintro r6 w6 ⟨G6, X6⟩
  have z6 : w.heap.size ≤ w6.heap.size := X6.size
  refine .p rfl rfl (.mv rfl) ?_
  refine .v rfl rfl (.appendSLo rfl G6 (fun k hk => by have hk : w6.heap.size ≤ k := hk; show w.heap.size ≤ k; omega) rfl rfl rfl rfl rfl rfl rfl rfl (by simp only [Lim] at hl2 ⊢; omega) (fun _ h _ => h.elim)) ?_
  rintro r8 w8 ⟨G8, Y8⟩
  refine .p rfl rfl (.as rfl) ?_
  refine .nil (.code ?_)
  refine .ret _ rfl ?_
  exact ⟨G8, X6.then Y8 (fun k hk _ => hk)⟩
end Go.Proofs.YtpfehnopghffjaaGreatDoor
namespace Go.Proofs.YtpfehnopghffjaaGreatDoor
open Go
theorem byteOf_mod (n i : Nat) : u8 (byteOf n i) = u8 (UInt8.ofNat (((n / 256 ^ i : Nat) : Int) % 256).toNat) := by
  have h1 : (((n / 256 ^ i : Nat) : Int) % 256).toNat = n / 256 ^ i % 256 := by omega
  rw [h1]
  have h2 : byteOf n i = UInt8.ofNat (n / 256 ^ i % 256) := by
    apply UInt8.toNat_inj.1
    rw [byteOf, Nat.pow_mul]
    simp
  rw [h2]
theorem div_succ (n i : Nat) : n / 256 ^ i / 256 = n / 256 ^ (i + 1) := by rw [Nat.div_div_eq_div_mul, Nat.pow_succ]
def hiTo (l : Bs) : Nat → Nat
  | 0 => 0
  | j + 1 => hiTo l j * 256 + (l.getD (7 - j) 0).toNat
theorem hiTo_lt (l : Bs) : ∀ j, hiTo l j < 256 ^ j
  | 0 => by simp [hiTo]
  | j + 1 => by
    have h := hiTo_lt l j
    have hb := (l.getD (7 - j) 0).toNat_lt
    rw [hiTo, Nat.pow_succ]
    omega
theorem hiTo_bd (l : Bs) {j : Nat} (h : j ≤ 8) : hiTo l j < 18446744073709551616 := Nat.lt_of_lt_of_le (hiTo_lt l j) (Nat.pow_le_pow_right (n := 256) (by decide) h)
theorem hiTo_8 (l : Bs) : hiTo l 8 = getTo l 8 := by
  simp only [hiTo, getTo, Nat.sub_zero, Nat.reduceSub, Nat.reduceMul, Nat.reducePow]
  omega
theorem RefPut_fn {w : World} {n : Nat} (hn : n < 18446744073709551616) : Fn Tryz.prog 54 [.int .u64 n] w (fun r w2 => tBytes.rep (fun k => w.heap.size ≤ k) w2 r (put8 n) ∧ Ext (fun _ => False) w w2) := by
  refine Fn.enter (fun w => Tryz.call54 _ w) Tryz.func54 rfl ?_
  refine .seq (.region ?_)
  refine .p rfl rfl (.as rfl) ?_
  refine .nil (.code (.seq (.keep [(0, _)] ⟨rfl, trivial⟩ (.region ?_))))
  refine .p rfl rfl (.as rfl) ?_
  refine .nil (.code (.seq (.seq (.region ?_))))
  refine .p rfl rfl (.as rfl) ?_
  refine .nil (.code (.block ?_))
  have h0 : (Value.int .u64 (n : Int)) = .int .u64 ((n / 256 ^ 0 : Nat) : Int) := by simp
  rw [h0]
  refine .loop (S := Nat × World × Value × Nat) (fun s => [(4, i64 s.1), (3, s.2.2.1), (0, .int .u64 (n / 256 ^ s.1 : Nat))]) (fun s => s.2.1) (fun s => s.1 ≤ 8 ∧ Own tByte (fun _ => False) 5 s.2.1 s.2.2.1 ((List.range s.1).map (byteOf n)) s.2.2.2 ∧ Ext (fun _ => False) w s.2.1 ∧ w.heap.size ≤ s.2.2.2) (fun s => 8 - s.1) (0, w, .slice none 0 0, w.heap.size) ⟨rfl, rfl, rfl, trivial⟩ rfl ⟨Nat.zero_le _, Own.nil, .refl _, Nat.le_refl _⟩ ?_
  rintro ⟨i, wi, v, b⟩ J ⟨hi, hO, hX, hb⟩ again
  simp only at hi hO hX hb
  change G _ [(4, i64 i), (3, v), (0, .int .u64 (n / 256 ^ i : Nat))] _ _ wi
  refine .seq (.seq (.region ?_))
  refine .p rfl rfl (.mv rfl) ?_
  refine .p rfl rfl (.lt rfl rfl) ?_
  refine .nil (.code (.keep [(6, _), (4, _), (3, _), (0, _)] ⟨rfl, rfl, rfl, rfl, trivial⟩ ?_))
  refine .condD rfl (fun c6 => ?_) (fun c6 => ?_)
  · have hq : ((n / 256 ^ i : Nat) : Int) ≤ 18446744073709551615 := by have h1 := Nat.le_trans (Nat.div_le_self n (256 ^ i)) (show n ≤ 18446744073709551615 by omega); exact Int.ofNat_le.2 h1
    refine .skip (.code (.seq (.block (.seq (.keep [(4, _), (3, _), (0, _)] ⟨rfl, rfl, rfl, trivial⟩ (.region ?_))))))
    refine .p rfl rfl (.mv rfl) ?_
    refine .p rfl rfl (.mv rfl) ?_
    refine .p rfl rfl (.rem rfl rfl ⟨Int.natCast_nonneg _, by decide⟩) ?_
    refine .p rfl rfl (.convB rfl rfl rfl (Int.emod_nonneg _ (by decide))) ?_
    refine .v rfl rfl (.lits rfl rfl (fun _ => by kernel_rfl)) ?_
    rintro _ w13 ⟨rfl, N13⟩
    refine .v rfl rfl (.append (t := tByte) (eb := 1) rfl (hO.ext0 N13.ext) rfl (.inr (New.holds (us := [u8 (UInt8.ofNat (((n / 256 ^ i : Nat) : Int) % 256).toNat)]) (xs := [byteOf n i]) N13 (by rw [← byteOf_mod]; exact each_u8 [byteOf n i]) rfl)) rfl rfl rfl rfl rfl rfl rfl (by simp; omega) (by simp [Lim]; omega) (fun _ h _ => h.elim)) ?_
    rintro v14 w14 ⟨b14, O14, X14, hb14⟩
    have O14 := O14.mono (Q' := fun _ => False) (fun _ h _ => h.1)
    have hX14 := (hX.trans N13.ext).then X14 (by rintro k rfl _; omega)
    refine .p rfl rfl (.as rfl) ?_
    refine .nil (.code (.keep [(3, _), (4, _), (0, _)] ⟨rfl, rfl, rfl, trivial⟩ (.region ?_)))
    refine .p rfl rfl (.mv rfl) ?_
    refine .p rfl rfl (.cast (.quoU rfl rfl ⟨Int.natCast_nonneg _, hq, by decide⟩) (by show Value.int .u64 _ = Value.int .u64 ((n / 256 ^ (i + 1) : Nat) : Int); rw [← div_succ]; rfl)) ?_
    refine .p rfl rfl (.as rfl) ?_
    refine .nil (.blk (.code (.keep [(0, _), (3, _), (4, _)] ⟨rfl, rfl, rfl, trivial⟩ (.region ?_))))
    refine .p rfl rfl (.mv rfl) ?_
    refine .p rfl rfl (.add rfl rfl (by omega)) ?_
    refine .p rfl rfl (.as rfl) ?_
    refine .nil ?_
    refine (again (i + 1, w14, v14, b14) ⟨by show i + 1 ≤ 8; omega, ?_, hX14, ?_⟩ (by show 8 - (i + 1) < 8 - i; omega)).of ⟨rfl, rfl, rfl, trivial⟩
    · show Own tByte _ _ w14 v14 _ b14
      rw [List.range_succ, List.map_append]
      exact O14
    · show w.heap.size ≤ b14
      have := (hX.trans N13.ext).size
      omega
  · refine .exit rfl (.code (.seq (.keep [(3, _)] ⟨rfl, trivial⟩ (.region ?_))))
    refine .p rfl rfl (.mv rfl) ?_
    refine .p rfl rfl (.as rfl) ?_
    refine .nil (.code ?_)
    refine .ret _ rfl ?_
    obtain rfl : i = 8 := by omega
    exact ⟨hO.rep hb (fun _ h _ => h.elim), hX⟩
end Go.Proofs.YtpfehnopghffjaaGreatDoor
namespace Go.Proofs.YtpfehnopghffjaaGreatDoor
open Go
open room files
namespace files
theorem name_len {s : Bs} (h : ¬ (1 ≤ s.length ∧ s.length ≤ 32)) : nameF s = false := by rw [nameF, decide_eq_false h, Bool.false_and]
theorem name_no {s : Bs} {i : Nat} (hi : i < s.length) (h : ¬ (97 ≤ s[i].toNat ∧ s[i].toNat ≤ 122 ∨ 48 ≤ s[i].toNat ∧ s[i].toNat ≤ 57 ∨ s[i].toNat = 45 ∨ s[i].toNat = 95 ∨ s[i].toNat = 46)) : nameF s = false := by
  have h1 : ¬ nameC s[i] = true := fun h2 => h (of_decide_eq_true h2)
  have h2 : s.all nameC = false := by
    rw [Bool.eq_false_iff]
    exact fun h3 => h1 (List.all_eq_true.1 h3 _ (List.getElem_mem hi))
  rw [nameF, h2, Bool.and_false]
theorem name_yes {s : Bs} (h : 1 ≤ s.length ∧ s.length ≤ 32) (h2 : s.all nameC = true) : nameF s = true := by rw [nameF, decide_eq_true h, h2]; rfl
theorem name_step {s : Bs} {i : Nat} (hi : i < s.length) (h : (s.take i).all nameC = true) (h2 : 97 ≤ s[i].toNat ∧ s[i].toNat ≤ 122 ∨ 48 ≤ s[i].toNat ∧ s[i].toNat ≤ 57 ∨ s[i].toNat = 45 ∨ s[i].toNat = 95 ∨ s[i].toNat = 46) : (s.take (i + 1)).all nameC = true := by
  rw [List.take_succ_eq_append_getElem hi, List.all_append, h, Bool.true_and]
  show (nameC s[i] && true) = true
  rw [Bool.and_true]
  exact decide_eq_true h2
end files
theorem RefIsName_fn {w : World} {nm : Bs} (hs : nm.length < Lim) : Fn Tryz.prog 70 [str nm] w (fun r w2 => r = .bool (nameF nm) ∧ Ext (fun _ => False) w w2) := by
  refine Fn.enter (fun w => Tryz.call70 _ w) Tryz.func70 rfl ?_
  refine .seq (.region ?_)
  refine .p rfl rfl (.as rfl) ?_
  refine .nil (.code (.seq (.seq (.keep [(0, _)] ⟨rfl, trivial⟩ (.region ?_)))))
  refine .p rfl rfl (.mv rfl) ?_
  refine .p rfl rfl (.lenS rfl rfl) ?_
  refine .p rfl rfl (.lt rfl rfl) ?_
  refine .p rfl rfl (.mv rfl) ?_
  refine .caseD 8 rfl (fun c8 => ?_) (fun c8 => ?_)
  · refine .skip rfl rfl ?_
    refine .skip rfl rfl ?_
    refine .skip rfl rfl ?_
    refine .p rfl rfl (.pickT rfl rfl) ?_
    refine .nil (.code (.keep [(12, _), (0, _)] ⟨rfl, rfl, trivial⟩ (.condT rfl (.seq (.keep [] trivial (.region ?_))))))
    refine .p rfl rfl (.as rfl) ?_
    refine .nil (.code ?_)
    refine .ret _ rfl ?_
    first
      | (rw [name_len (by omega)]; exact ⟨rfl, .refl _⟩)
      | (rw [name_no hi (by omega)]; exact ⟨rfl, .refl _⟩)
      | (rw [name_yes (by omega) hall]; exact ⟨rfl, .refl _⟩)
  · refine .p rfl rfl (.mv rfl) ?_
    refine .p rfl rfl (.lenS rfl rfl) ?_
    refine .p rfl rfl (.gt rfl rfl) ?_
    refine .p rfl rfl (.pickF rfl rfl) ?_
    refine .nil (.code (.keep [(12, _), (0, _)] ⟨rfl, rfl, trivial⟩ ?_))
    refine .condD rfl (fun c12 => ?_) (fun c12 => ?_)
    · refine .seq (.keep [] trivial (.region ?_))
      refine .p rfl rfl (.as rfl) ?_
      refine .nil (.code ?_)
      refine .ret _ rfl ?_
      first
        | (rw [name_len (by omega)]; exact ⟨rfl, .refl _⟩)
        | (rw [name_no hi (by omega)]; exact ⟨rfl, .refl _⟩)
        | (rw [name_yes (by omega) hall]; exact ⟨rfl, .refl _⟩)
    · refine .skip (.code (.seq (.seq (.keep [(0, _)] ⟨rfl, trivial⟩ (.region ?_)))))
      refine .p rfl rfl (.as rfl) ?_
      refine .nil (.code (.block ?_))
      refine .loop (S := Nat) (fun s => [(0, str nm), (3, i64 s)]) (fun s => w) (fun s => s ≤ nm.length ∧ (nm.take s).all nameC = true) (fun s => nm.length - s) 0 ⟨rfl, rfl, trivial⟩ rfl ⟨Nat.zero_le _, rfl⟩ ?_
      rintro i J ⟨hi', hall⟩ again
      refine .seq (.seq (.region ?_))
      refine .p rfl rfl (.mv rfl) ?_
      refine .p rfl rfl (.mv rfl) ?_
      refine .p rfl rfl (.lenS rfl rfl) ?_
      refine .p rfl rfl (.lt rfl rfl) ?_
      refine .nil (.code (.keep [(16, _), (0, _), (3, _)] ⟨rfl, rfl, rfl, trivial⟩ ?_))
      refine .condD rfl (fun c16 => ?_) (fun c16 => ?_)
      · have hi : i < nm.length := by omega
        refine .skip (.code (.seq (.block (.seq (.keep [(0, _), (3, _)] ⟨rfl, rfl, trivial⟩ (.region ?_))))))
        refine .p rfl rfl (.mv rfl) ?_
        refine .p rfl rfl (.mv rfl) ?_
        refine .p rfl rfl (.idxS rfl rfl rfl (by omega) (show nm[(i : Int).toNat]? = some (nm[i]'(by omega)) by rw [Int.toNat_natCast]; exact List.getElem?_eq_getElem _)) ?_
        refine .p rfl rfl (.as rfl) ?_
        refine .nil (.code (.seq (.keep [(4, _), (0, _), (3, _)] ⟨rfl, rfl, rfl, trivial⟩ (.region ?_))))
        refine .p rfl rfl (.mv rfl) ?_
        refine .p rfl rfl (.ge rfl rfl) ?_
        refine .p rfl rfl (.mv rfl) ?_
        refine .caseD 24 rfl (fun c24 => ?_) (fun c24 => ?_)
        · refine .p rfl rfl (.mv rfl) ?_
          refine .p rfl rfl (.le rfl rfl) ?_
          refine .p rfl rfl (.pickT rfl rfl) ?_
          refine .p rfl rfl (.mv rfl) ?_
          refine .caseD 28 rfl (fun c28 => ?_) (fun c28 => ?_)
          · refine .skip rfl rfl ?_
            refine .skip rfl rfl ?_
            refine .skip rfl rfl ?_
            refine .skip rfl rfl ?_
            refine .skip rfl rfl ?_
            refine .skip rfl rfl ?_
            refine .p rfl rfl (.pickT rfl rfl) ?_
            refine .p rfl rfl (.mv rfl) ?_
            refine .skip rfl rfl ?_
            refine .skip rfl rfl ?_
            refine .p rfl rfl (.pickT rfl rfl) ?_
            refine .p rfl rfl (.mv rfl) ?_
            refine .skip rfl rfl ?_
            refine .skip rfl rfl ?_
            refine .p rfl rfl (.pickT rfl rfl) ?_
            refine .p rfl rfl (.mv rfl) ?_
            refine .skip rfl rfl ?_
            refine .skip rfl rfl ?_
            refine .p rfl rfl (.pickT rfl rfl) ?_
            refine .p rfl rfl (.not rfl) ?_
            refine .nil (.code (.keep [(48, _), (0, _), (3, _)] ⟨rfl, rfl, rfl, trivial⟩ (.condF rfl (.skip (.blk (.code (.keep [(0, _), (3, _)] ⟨rfl, rfl, trivial⟩ (.region ?_))))))))
            refine .p rfl rfl (.mv rfl) ?_
            refine .p rfl rfl (.add rfl rfl (by omega)) ?_
            refine .p rfl rfl (.as rfl) ?_
            refine .nil ?_
            exact (again (i + 1) ⟨by show i + 1 ≤ _; omega, name_step hi hall (by omega)⟩ (by show _ - (i + 1) < _ - i; omega)).of ⟨rfl, rfl, trivial⟩
          · refine .p rfl rfl (.mv rfl) ?_
            refine .p rfl rfl (.ge rfl rfl) ?_
            refine .p rfl rfl (.mv rfl) ?_
            refine .caseD 31 rfl (fun c31 => ?_) (fun c31 => ?_)
            · refine .p rfl rfl (.mv rfl) ?_
              refine .p rfl rfl (.le rfl rfl) ?_
              refine .p rfl rfl (.pickT rfl rfl) ?_
              refine .p rfl rfl (.pickF rfl rfl) ?_
              refine .p rfl rfl (.mv rfl) ?_
              refine .caseD 36 rfl (fun c36 => ?_) (fun c36 => ?_)
              · refine .skip rfl rfl ?_
                refine .skip rfl rfl ?_
                refine .p rfl rfl (.pickT rfl rfl) ?_
                refine .p rfl rfl (.mv rfl) ?_
                refine .skip rfl rfl ?_
                refine .skip rfl rfl ?_
                refine .p rfl rfl (.pickT rfl rfl) ?_
                refine .p rfl rfl (.mv rfl) ?_
                refine .skip rfl rfl ?_
                refine .skip rfl rfl ?_
                refine .p rfl rfl (.pickT rfl rfl) ?_
                refine .p rfl rfl (.not rfl) ?_
                refine .nil (.code (.keep [(48, _), (0, _), (3, _)] ⟨rfl, rfl, rfl, trivial⟩ (.condF rfl (.skip (.blk (.code (.keep [(0, _), (3, _)] ⟨rfl, rfl, trivial⟩ (.region ?_))))))))
                refine .p rfl rfl (.mv rfl) ?_
                refine .p rfl rfl (.add rfl rfl (by omega)) ?_
                refine .p rfl rfl (.as rfl) ?_
                refine .nil ?_
                exact (again (i + 1) ⟨by show i + 1 ≤ _; omega, name_step hi hall (by omega)⟩ (by show _ - (i + 1) < _ - i; omega)).of ⟨rfl, rfl, trivial⟩
              · refine .p rfl rfl (.mv rfl) ?_
                refine .p rfl rfl (.eq rfl rfl) ?_
                refine .p rfl rfl (.pickF rfl rfl) ?_
                refine .p rfl rfl (.mv rfl) ?_
                refine .caseD 40 rfl (fun c40 => ?_) (fun c40 => ?_)
                · refine .skip rfl rfl ?_
                  refine .skip rfl rfl ?_
                  refine .p rfl rfl (.pickT rfl rfl) ?_
                  refine .p rfl rfl (.mv rfl) ?_
                  refine .skip rfl rfl ?_
                  refine .skip rfl rfl ?_
                  refine .p rfl rfl (.pickT rfl rfl) ?_
                  refine .p rfl rfl (.not rfl) ?_
                  refine .nil (.code (.keep [(48, _), (0, _), (3, _)] ⟨rfl, rfl, rfl, trivial⟩ (.condF rfl (.skip (.blk (.code (.keep [(0, _), (3, _)] ⟨rfl, rfl, trivial⟩ (.region ?_))))))))
                  refine .p rfl rfl (.mv rfl) ?_
                  refine .p rfl rfl (.add rfl rfl (by omega)) ?_
                  refine .p rfl rfl (.as rfl) ?_
                  refine .nil ?_
                  exact (again (i + 1) ⟨by show i + 1 ≤ _; omega, name_step hi hall (by omega)⟩ (by show _ - (i + 1) < _ - i; omega)).of ⟨rfl, rfl, trivial⟩
                · refine .p rfl rfl (.mv rfl) ?_
                  refine .p rfl rfl (.eq rfl rfl) ?_
                  refine .p rfl rfl (.pickF rfl rfl) ?_
                  refine .p rfl rfl (.mv rfl) ?_
                  refine .caseD 44 rfl (fun c44 => ?_) (fun c44 => ?_)
                  · refine .skip rfl rfl ?_
                    refine .skip rfl rfl ?_
                    refine .p rfl rfl (.pickT rfl rfl) ?_
                    refine .p rfl rfl (.not rfl) ?_
                    refine .nil (.code (.keep [(48, _), (0, _), (3, _)] ⟨rfl, rfl, rfl, trivial⟩ (.condF rfl (.skip (.blk (.code (.keep [(0, _), (3, _)] ⟨rfl, rfl, trivial⟩ (.region ?_))))))))
                    refine .p rfl rfl (.mv rfl) ?_
                    refine .p rfl rfl (.add rfl rfl (by omega)) ?_
                    refine .p rfl rfl (.as rfl) ?_
                    refine .nil ?_
                    exact (again (i + 1) ⟨by show i + 1 ≤ _; omega, name_step hi hall (by omega)⟩ (by show _ - (i + 1) < _ - i; omega)).of ⟨rfl, rfl, trivial⟩
                  · refine .p rfl rfl (.mv rfl) ?_
                    refine .p rfl rfl (.eq rfl rfl) ?_
                    refine .p rfl rfl (.pickF rfl rfl) ?_
                    refine .p rfl rfl (.notD rfl) ?_
                    refine .nil (.code (.keep [(48, _), (0, _), (3, _)] ⟨rfl, rfl, rfl, trivial⟩ ?_))
                    refine .condD rfl (fun c48 => ?_) (fun c48 => ?_)
                    · refine .seq (.keep [] trivial (.region ?_))
                      refine .p rfl rfl (.as rfl) ?_
                      refine .nil (.code ?_)
                      refine .ret _ rfl ?_
                      first
                        | (rw [name_len (by omega)]; exact ⟨rfl, .refl _⟩)
                        | (rw [name_no hi (by omega)]; exact ⟨rfl, .refl _⟩)
                        | (rw [name_yes (by omega) hall]; exact ⟨rfl, .refl _⟩)
                    · refine .skip (.blk (.code (.keep [(0, _), (3, _)] ⟨rfl, rfl, trivial⟩ (.region ?_))))
                      refine .p rfl rfl (.mv rfl) ?_
                      refine .p rfl rfl (.add rfl rfl (by omega)) ?_
                      refine .p rfl rfl (.as rfl) ?_
                      refine .nil ?_
                      exact (again (i + 1) ⟨by show i + 1 ≤ _; omega, name_step hi hall (by omega)⟩ (by show _ - (i + 1) < _ - i; omega)).of ⟨rfl, rfl, trivial⟩
            · refine .skip rfl rfl ?_
              refine .skip rfl rfl ?_
              refine .p rfl rfl (.pickF rfl rfl) ?_
              refine .p rfl rfl (.pickF rfl rfl) ?_
              refine .p rfl rfl (.mv rfl) ?_
              refine .p rfl rfl (.mv rfl) ?_
              refine .p rfl rfl (.eq rfl rfl) ?_
              refine .p rfl rfl (.pickF rfl rfl) ?_
              refine .p rfl rfl (.mv rfl) ?_
              refine .caseD 40 rfl (fun c40 => ?_) (fun c40 => ?_)
              · refine .skip rfl rfl ?_
                refine .skip rfl rfl ?_
                refine .p rfl rfl (.pickT rfl rfl) ?_
                refine .p rfl rfl (.mv rfl) ?_
                refine .skip rfl rfl ?_
                refine .skip rfl rfl ?_
                refine .p rfl rfl (.pickT rfl rfl) ?_
                refine .p rfl rfl (.not rfl) ?_
                refine .nil (.code (.keep [(48, _), (0, _), (3, _)] ⟨rfl, rfl, rfl, trivial⟩ (.condF rfl (.skip (.blk (.code (.keep [(0, _), (3, _)] ⟨rfl, rfl, trivial⟩ (.region ?_))))))))
                refine .p rfl rfl (.mv rfl) ?_
                refine .p rfl rfl (.add rfl rfl (by omega)) ?_
                refine .p rfl rfl (.as rfl) ?_
                refine .nil ?_
                exact (again (i + 1) ⟨by show i + 1 ≤ _; omega, name_step hi hall (by omega)⟩ (by show _ - (i + 1) < _ - i; omega)).of ⟨rfl, rfl, trivial⟩
              · refine .p rfl rfl (.mv rfl) ?_
                refine .p rfl rfl (.eq rfl rfl) ?_
                refine .p rfl rfl (.pickF rfl rfl) ?_
                refine .p rfl rfl (.mv rfl) ?_
                refine .caseD 44 rfl (fun c44 => ?_) (fun c44 => ?_)
                · refine .skip rfl rfl ?_
                  refine .skip rfl rfl ?_
                  refine .p rfl rfl (.pickT rfl rfl) ?_
                  refine .p rfl rfl (.not rfl) ?_
                  refine .nil (.code (.keep [(48, _), (0, _), (3, _)] ⟨rfl, rfl, rfl, trivial⟩ (.condF rfl (.skip (.blk (.code (.keep [(0, _), (3, _)] ⟨rfl, rfl, trivial⟩ (.region ?_))))))))
                  refine .p rfl rfl (.mv rfl) ?_
                  refine .p rfl rfl (.add rfl rfl (by omega)) ?_
                  refine .p rfl rfl (.as rfl) ?_
                  refine .nil ?_
                  exact (again (i + 1) ⟨by show i + 1 ≤ _; omega, name_step hi hall (by omega)⟩ (by show _ - (i + 1) < _ - i; omega)).of ⟨rfl, rfl, trivial⟩
                · refine .p rfl rfl (.mv rfl) ?_
                  refine .p rfl rfl (.eq rfl rfl) ?_
                  refine .p rfl rfl (.pickF rfl rfl) ?_
                  refine .p rfl rfl (.notD rfl) ?_
                  refine .nil (.code (.keep [(48, _), (0, _), (3, _)] ⟨rfl, rfl, rfl, trivial⟩ ?_))
                  refine .condD rfl (fun c48 => ?_) (fun c48 => ?_)
                  · refine .seq (.keep [] trivial (.region ?_))
                    refine .p rfl rfl (.as rfl) ?_
                    refine .nil (.code ?_)
                    refine .ret _ rfl ?_
                    first
                      | (rw [name_len (by omega)]; exact ⟨rfl, .refl _⟩)
                      | (rw [name_no hi (by omega)]; exact ⟨rfl, .refl _⟩)
                      | (rw [name_yes (by omega) hall]; exact ⟨rfl, .refl _⟩)
                  · refine .skip (.blk (.code (.keep [(0, _), (3, _)] ⟨rfl, rfl, trivial⟩ (.region ?_))))
                    refine .p rfl rfl (.mv rfl) ?_
                    refine .p rfl rfl (.add rfl rfl (by omega)) ?_
                    refine .p rfl rfl (.as rfl) ?_
                    refine .nil ?_
                    exact (again (i + 1) ⟨by show i + 1 ≤ _; omega, name_step hi hall (by omega)⟩ (by show _ - (i + 1) < _ - i; omega)).of ⟨rfl, rfl, trivial⟩
        · refine .skip rfl rfl ?_
          refine .skip rfl rfl ?_
          refine .p rfl rfl (.pickF rfl rfl) ?_
          refine .p rfl rfl (.mv rfl) ?_
          refine .p rfl rfl (.mv rfl) ?_
          refine .p rfl rfl (.ge rfl rfl) ?_
          refine .p rfl rfl (.mv rfl) ?_
          refine .caseD 31 rfl (fun c31 => ?_) (fun c31 => ?_)
          · refine .p rfl rfl (.mv rfl) ?_
            refine .p rfl rfl (.le rfl rfl) ?_
            refine .p rfl rfl (.pickT rfl rfl) ?_
            refine .p rfl rfl (.pickF rfl rfl) ?_
            refine .p rfl rfl (.mv rfl) ?_
            refine .caseD 36 rfl (fun c36 => ?_) (fun c36 => ?_)
            · refine .skip rfl rfl ?_
              refine .skip rfl rfl ?_
              refine .p rfl rfl (.pickT rfl rfl) ?_
              refine .p rfl rfl (.mv rfl) ?_
              refine .skip rfl rfl ?_
              refine .skip rfl rfl ?_
              refine .p rfl rfl (.pickT rfl rfl) ?_
              refine .p rfl rfl (.mv rfl) ?_
              refine .skip rfl rfl ?_
              refine .skip rfl rfl ?_
              refine .p rfl rfl (.pickT rfl rfl) ?_
              refine .p rfl rfl (.not rfl) ?_
              refine .nil (.code (.keep [(48, _), (0, _), (3, _)] ⟨rfl, rfl, rfl, trivial⟩ (.condF rfl (.skip (.blk (.code (.keep [(0, _), (3, _)] ⟨rfl, rfl, trivial⟩ (.region ?_))))))))
              refine .p rfl rfl (.mv rfl) ?_
              refine .p rfl rfl (.add rfl rfl (by omega)) ?_
              refine .p rfl rfl (.as rfl) ?_
              refine .nil ?_
              exact (again (i + 1) ⟨by show i + 1 ≤ _; omega, name_step hi hall (by omega)⟩ (by show _ - (i + 1) < _ - i; omega)).of ⟨rfl, rfl, trivial⟩
            · refine .p rfl rfl (.mv rfl) ?_
              refine .p rfl rfl (.eq rfl rfl) ?_
              refine .p rfl rfl (.pickF rfl rfl) ?_
              refine .p rfl rfl (.mv rfl) ?_
              refine .caseD 40 rfl (fun c40 => ?_) (fun c40 => ?_)
              · refine .skip rfl rfl ?_
                refine .skip rfl rfl ?_
                refine .p rfl rfl (.pickT rfl rfl) ?_
                refine .p rfl rfl (.mv rfl) ?_
                refine .skip rfl rfl ?_
                refine .skip rfl rfl ?_
                refine .p rfl rfl (.pickT rfl rfl) ?_
                refine .p rfl rfl (.not rfl) ?_
                refine .nil (.code (.keep [(48, _), (0, _), (3, _)] ⟨rfl, rfl, rfl, trivial⟩ (.condF rfl (.skip (.blk (.code (.keep [(0, _), (3, _)] ⟨rfl, rfl, trivial⟩ (.region ?_))))))))
                refine .p rfl rfl (.mv rfl) ?_
                refine .p rfl rfl (.add rfl rfl (by omega)) ?_
                refine .p rfl rfl (.as rfl) ?_
                refine .nil ?_
                exact (again (i + 1) ⟨by show i + 1 ≤ _; omega, name_step hi hall (by omega)⟩ (by show _ - (i + 1) < _ - i; omega)).of ⟨rfl, rfl, trivial⟩
              · refine .p rfl rfl (.mv rfl) ?_
                refine .p rfl rfl (.eq rfl rfl) ?_
                refine .p rfl rfl (.pickF rfl rfl) ?_
                refine .p rfl rfl (.mv rfl) ?_
                refine .caseD 44 rfl (fun c44 => ?_) (fun c44 => ?_)
                · refine .skip rfl rfl ?_
                  refine .skip rfl rfl ?_
                  refine .p rfl rfl (.pickT rfl rfl) ?_
                  refine .p rfl rfl (.not rfl) ?_
                  refine .nil (.code (.keep [(48, _), (0, _), (3, _)] ⟨rfl, rfl, rfl, trivial⟩ (.condF rfl (.skip (.blk (.code (.keep [(0, _), (3, _)] ⟨rfl, rfl, trivial⟩ (.region ?_))))))))
                  refine .p rfl rfl (.mv rfl) ?_
                  refine .p rfl rfl (.add rfl rfl (by omega)) ?_
                  refine .p rfl rfl (.as rfl) ?_
                  refine .nil ?_
                  exact (again (i + 1) ⟨by show i + 1 ≤ _; omega, name_step hi hall (by omega)⟩ (by show _ - (i + 1) < _ - i; omega)).of ⟨rfl, rfl, trivial⟩
                · refine .p rfl rfl (.mv rfl) ?_
                  refine .p rfl rfl (.eq rfl rfl) ?_
                  refine .p rfl rfl (.pickF rfl rfl) ?_
                  refine .p rfl rfl (.notD rfl) ?_
                  refine .nil (.code (.keep [(48, _), (0, _), (3, _)] ⟨rfl, rfl, rfl, trivial⟩ ?_))
                  refine .condD rfl (fun c48 => ?_) (fun c48 => ?_)
                  · refine .seq (.keep [] trivial (.region ?_))
                    refine .p rfl rfl (.as rfl) ?_
                    refine .nil (.code ?_)
                    refine .ret _ rfl ?_
                    first
                      | (rw [name_len (by omega)]; exact ⟨rfl, .refl _⟩)
                      | (rw [name_no hi (by omega)]; exact ⟨rfl, .refl _⟩)
                      | (rw [name_yes (by omega) hall]; exact ⟨rfl, .refl _⟩)
                  · refine .skip (.blk (.code (.keep [(0, _), (3, _)] ⟨rfl, rfl, trivial⟩ (.region ?_))))
                    refine .p rfl rfl (.mv rfl) ?_
                    refine .p rfl rfl (.add rfl rfl (by omega)) ?_
                    refine .p rfl rfl (.as rfl) ?_
                    refine .nil ?_
                    exact (again (i + 1) ⟨by show i + 1 ≤ _; omega, name_step hi hall (by omega)⟩ (by show _ - (i + 1) < _ - i; omega)).of ⟨rfl, rfl, trivial⟩
          · refine .skip rfl rfl ?_
            refine .skip rfl rfl ?_
            refine .p rfl rfl (.pickF rfl rfl) ?_
            refine .p rfl rfl (.pickF rfl rfl) ?_
            refine .p rfl rfl (.mv rfl) ?_
            refine .p rfl rfl (.mv rfl) ?_
            refine .p rfl rfl (.eq rfl rfl) ?_
            refine .p rfl rfl (.pickF rfl rfl) ?_
            refine .p rfl rfl (.mv rfl) ?_
            refine .caseD 40 rfl (fun c40 => ?_) (fun c40 => ?_)
            · refine .skip rfl rfl ?_
              refine .skip rfl rfl ?_
              refine .p rfl rfl (.pickT rfl rfl) ?_
              refine .p rfl rfl (.mv rfl) ?_
              refine .skip rfl rfl ?_
              refine .skip rfl rfl ?_
              refine .p rfl rfl (.pickT rfl rfl) ?_
              refine .p rfl rfl (.not rfl) ?_
              refine .nil (.code (.keep [(48, _), (0, _), (3, _)] ⟨rfl, rfl, rfl, trivial⟩ (.condF rfl (.skip (.blk (.code (.keep [(0, _), (3, _)] ⟨rfl, rfl, trivial⟩ (.region ?_))))))))
              refine .p rfl rfl (.mv rfl) ?_
              refine .p rfl rfl (.add rfl rfl (by omega)) ?_
              refine .p rfl rfl (.as rfl) ?_
              refine .nil ?_
              exact (again (i + 1) ⟨by show i + 1 ≤ _; omega, name_step hi hall (by omega)⟩ (by show _ - (i + 1) < _ - i; omega)).of ⟨rfl, rfl, trivial⟩
            · refine .p rfl rfl (.mv rfl) ?_
              refine .p rfl rfl (.eq rfl rfl) ?_
              refine .p rfl rfl (.pickF rfl rfl) ?_
              refine .p rfl rfl (.mv rfl) ?_
              refine .caseD 44 rfl (fun c44 => ?_) (fun c44 => ?_)
              · refine .skip rfl rfl ?_
                refine .skip rfl rfl ?_
                refine .p rfl rfl (.pickT rfl rfl) ?_
                refine .p rfl rfl (.not rfl) ?_
                refine .nil (.code (.keep [(48, _), (0, _), (3, _)] ⟨rfl, rfl, rfl, trivial⟩ (.condF rfl (.skip (.blk (.code (.keep [(0, _), (3, _)] ⟨rfl, rfl, trivial⟩ (.region ?_))))))))
                refine .p rfl rfl (.mv rfl) ?_
                refine .p rfl rfl (.add rfl rfl (by omega)) ?_
                refine .p rfl rfl (.as rfl) ?_
                refine .nil ?_
                exact (again (i + 1) ⟨by show i + 1 ≤ _; omega, name_step hi hall (by omega)⟩ (by show _ - (i + 1) < _ - i; omega)).of ⟨rfl, rfl, trivial⟩
              · refine .p rfl rfl (.mv rfl) ?_
                refine .p rfl rfl (.eq rfl rfl) ?_
                refine .p rfl rfl (.pickF rfl rfl) ?_
                refine .p rfl rfl (.notD rfl) ?_
                refine .nil (.code (.keep [(48, _), (0, _), (3, _)] ⟨rfl, rfl, rfl, trivial⟩ ?_))
                refine .condD rfl (fun c48 => ?_) (fun c48 => ?_)
                · refine .seq (.keep [] trivial (.region ?_))
                  refine .p rfl rfl (.as rfl) ?_
                  refine .nil (.code ?_)
                  refine .ret _ rfl ?_
                  first
                    | (rw [name_len (by omega)]; exact ⟨rfl, .refl _⟩)
                    | (rw [name_no hi (by omega)]; exact ⟨rfl, .refl _⟩)
                    | (rw [name_yes (by omega) hall]; exact ⟨rfl, .refl _⟩)
                · refine .skip (.blk (.code (.keep [(0, _), (3, _)] ⟨rfl, rfl, trivial⟩ (.region ?_))))
                  refine .p rfl rfl (.mv rfl) ?_
                  refine .p rfl rfl (.add rfl rfl (by omega)) ?_
                  refine .p rfl rfl (.as rfl) ?_
                  refine .nil ?_
                  exact (again (i + 1) ⟨by show i + 1 ≤ _; omega, name_step hi hall (by omega)⟩ (by show _ - (i + 1) < _ - i; omega)).of ⟨rfl, rfl, trivial⟩
      · obtain rfl : i = nm.length := by omega
        rw [List.take_length] at hall
        refine .exit rfl (.code (.seq (.keep [] trivial (.region ?_))))
        refine .p rfl rfl (.as rfl) ?_
        refine .nil (.code ?_)
        refine .ret _ rfl ?_
        first
          | (rw [name_len (by omega)]; exact ⟨rfl, .refl _⟩)
          | (rw [name_no hi (by omega)]; exact ⟨rfl, .refl _⟩)
          | (rw [name_yes (by omega) hall]; exact ⟨rfl, .refl _⟩)
theorem refNeeds_fn {w : World} {n : Int} (hn : 0 ≤ n ∧ n ≤ 9223372036854775000) : Fn Tryz.prog 98 [i64 n] w (fun r w2 => r = i64 (needF n) ∧ Ext (fun _ => False) w w2) := by
  refine Fn.enter (fun w => Tryz.call98 _ w) Tryz.func98 rfl ?_
  refine .seq (.region ?_)
  refine .p rfl rfl (.as rfl) ?_
  refine .nil (.code (.seq (.keep [(0, _)] ⟨rfl, trivial⟩ (.region ?_))))
  refine .p rfl rfl (.mv rfl) ?_
  refine .p rfl rfl (.add rfl rfl (by omega)) ?_
  refine .p rfl rfl (.sub rfl rfl (by omega)) ?_
  refine .p rfl rfl (.quo rfl rfl (by omega)) ?_
  refine .p rfl rfl (.as rfl) ?_
  refine .nil (.code ?_)
  refine .ret _ rfl ?_
  exact ⟨by show i64 ((n + 128 - 1) / 128) = i64 (needF n); unfold needF; rw [show n + 127 = n + 128 - 1 by omega], .refl _⟩
theorem refPieces_fn {w : World} {v : Value} {x : Dir} (h : tDir.rep All w v x) (hp : (allP x.fs).length ≤ 1000000) : Fn Tryz.prog 77 [v] w (fun r w2 => OwnO tPiece (fun _ => False) 40 w2 r (allP x.fs) (fun k => w.heap.size ≤ k) ∧ Ext (fun _ => False) w w2) := by
  obtain ⟨a, cap, rfl, hf, hg⟩ := tDir.val h
  have hlim := Sl.lim hf
  simp only [Lim] at hlim
  refine Fn.enter (fun w => Tryz.call77 _ w) Tryz.func77 rfl ?_
  refine .seq (.region ?_)
  refine .v rfl rfl (.box rfl) ?_
  rintro _ w1 ⟨rfl, N1⟩
  have B1 := N1.blk
  have X1 := N1.ext
  have z1 := N1.size
  refine .p rfl rfl (.as rfl) ?_
  refine .nil (.code (.seq (.keep [(1, _)] ⟨rfl, trivial⟩ (.region ?_))))
  refine .p rfl rfl (.as rfl) ?_
  refine .nil (.code (.seq (.seq (.region ?_))))
  refine .p rfl rfl (.as rfl) ?_
  refine .nil (.code (.block ?_))
  refine .loop (S := Nat × List Piece × Value × World) (fun s => [(1, .pointer (some ⟨w.heap.size, 0, none⟩)), (3, s.2.2.1), (4, i64 s.1)]) (fun s => s.2.2.2) (fun s => s.1 ≤ x.fs.length ∧ s.2.1 = (x.fs.take s.1).flatMap (·.ps) ∧ OwnO tPiece (fun _ => False) 40 s.2.2.2 s.2.2.1 s.2.1 (fun k => w1.heap.size ≤ k) ∧ Ext (fun _ => False) w1 s.2.2.2) (fun s => x.fs.length - s.1) (0, [], .slice none 0 0, w1) ⟨rfl, rfl, rfl, trivial⟩ rfl ⟨Nat.zero_le _, rfl, OwnO.nil, .refl _⟩ ?_
  rintro ⟨i, acc, vi, wi⟩ J ⟨hi', ha, hO, hX⟩ again
  simp only at hi' ha hO hX
  have zi := hX.size
  change G _ [(1, .pointer (some ⟨w.heap.size, 0, none⟩)), (3, vi), (4, i64 i)] _ _ wi
  refine .seq (.seq (.region ?_))
  refine .p rfl rfl (.mv rfl) ?_
  refine .p rfl rfl (.fieldAddr rfl rfl rfl rfl) ?_
  refine .p rfl rfl (.load rfl rfl rfl ((B1.ext (S := fun _ => False) (by repeat (first | exact Ext.refl _ | assumption | refine Ext.trans (by assumption) ?_)) (fun x => x)).cell 1)) ?_
  refine .p rfl rfl (.len rfl rfl) ?_
  refine .p rfl rfl (.lt rfl rfl) ?_
  refine .nil (.code (.keep [(9, _), (1, _), (3, _), (4, _)] ⟨rfl, rfl, rfl, rfl, trivial⟩ ?_))
  refine .condD rfl (fun c9 => ?_) (fun c9 => ?_)
  · have hi : i < x.fs.length := by omega
    obtain ⟨b1, o1, q1, ue1, e1, _, hcs, hre⟩ := Sl.at hf (List.getElem?_eq_getElem hi)
    cases e1
    obtain ⟨fa1, fc1, rfl, hps, hnm, hsz⟩ := tFile.val hre
    have hst := allP_step hi
    rw [← ha] at hst
    refine .skip (.code (.seq (.block (.keep [(1, _), (3, _), (4, _)] ⟨rfl, rfl, rfl, trivial⟩ (.region ?_)))))
    refine .p rfl rfl (.mv rfl) ?_
    refine .p rfl rfl (.fieldAddr rfl rfl rfl rfl) ?_
    refine .p rfl rfl (.load rfl rfl rfl ((B1.ext (S := fun _ => False) (by repeat (first | exact Ext.refl _ | assumption | refine Ext.trans (by assumption) ?_)) (fun x => x)).cell 1)) ?_
    refine .p rfl rfl (.mv rfl) ?_
    refine .p rfl rfl (.indexAddr (s := 3) rfl rfl rfl rfl (by omega)) ?_
    refine .p rfl rfl (.fieldAddr rfl rfl rfl rfl) ?_
    refine .p rfl rfl (.load rfl rfl rfl ((hcs.ext (S := fun _ => False) (by repeat (first | exact Ext.refl _ | assumption | refine Ext.trans (by assumption) ?_)) (fun x => x)) 2 _ rfl)) ?_
    refine .v rfl rfl (.appendLo (t := tPiece) (eb := 16) rfl hO (fun k hk => by show w1.heap.size ≤ k; omega) rfl (Sl.holds ((Sl tPiece).ext0 hps (by repeat (first | exact Ext.refl _ | assumption | refine Ext.trans (by assumption) ?_))) (fun _ _ h => h)) rfl rfl rfl rfl rfl rfl rfl (by omega) (by simp only [Lim]; omega) (fun _ h _ => h.elim)) ?_
    rintro v19 w19 ⟨O19, A19⟩
    refine .p rfl rfl (.as rfl) ?_
    refine .nil (.blk (.code (.keep [(3, _), (1, _), (4, _)] ⟨rfl, rfl, rfl, trivial⟩ (.region ?_))))
    refine .p rfl rfl (.mv rfl) ?_
    refine .p rfl rfl (.add rfl rfl (by omega)) ?_
    refine .p rfl rfl (.as rfl) ?_
    refine .nil ?_
    exact (again (i + 1, acc ++ x.fs[i].ps, v19, w19) ⟨by show i + 1 ≤ _; omega, by show acc ++ x.fs[i].ps = _; rw [files_step hi, ha], O19, hX.then A19 (fun k h _ => h)⟩ (by show _ - (i + 1) < _ - i; omega)).of ⟨rfl, rfl, rfl, trivial⟩
  · obtain rfl : i = x.fs.length := by omega
    rw [List.take_length] at ha
    refine .exit rfl (.code (.seq (.keep [(3, _)] ⟨rfl, trivial⟩ (.region ?_))))
    refine .p rfl rfl (.mv rfl) ?_
    refine .p rfl rfl (.as rfl) ?_
    refine .nil (.code ?_)
    refine .ret _ rfl ?_
    rw [ha] at hO
    exact ⟨OwnO.mono hO (fun _ h _ => h) (fun k h _ => by have h : w1.heap.size ≤ k := h; show w.heap.size ≤ k; omega), (by repeat (first | exact Ext.refl _ | assumption | refine Ext.trans (by assumption) ?_))⟩
theorem refMay_fn {w : World} {v : Value} {x : Dir} (h : tDir.rep All w v x) (hp : (allP x.fs).length ≤ 1000000) : Fn Tryz.prog 51 [v] w (fun r w2 => ∃ t, r = .bool t ∧ (t = true ↔ mayD x) ∧ Ext (fun _ => False) w w2) := by
  have h0 := h
  obtain ⟨a, cap, rfl, hf, hg⟩ := tDir.val h
  have hlim := Sl.lim hf
  simp only [Lim] at hlim
  refine Fn.enter (fun w => Tryz.call51 _ w) Tryz.func51 rfl ?_
  refine .seq (.region ?_)
  refine .v rfl rfl (.box rfl) ?_
  rintro _ w1 ⟨rfl, N1⟩
  have B1 := N1.blk
  have X1 := N1.ext
  have z1 := N1.size
  refine .p rfl rfl (.as rfl) ?_
  refine .nil (.code (.seq (.seq (.keep [(1, _)] ⟨rfl, trivial⟩ (.region ?_)))))
  refine .p rfl rfl (.fieldAddr rfl rfl rfl rfl) ?_
  refine .p rfl rfl (.load rfl rfl rfl ((B1.ext (S := fun _ => False) (by repeat (first | exact Ext.refl _ | assumption | refine Ext.trans (by assumption) ?_)) (fun x => x)).cell 0)) ?_
  refine .p rfl rfl (.lt rfl rfl) ?_
  refine .p rfl rfl (.mv rfl) ?_
  refine .caseD 12 rfl (fun c12 => ?_) (fun c12 => ?_)
  · refine .skip rfl rfl ?_
    refine .skip rfl rfl ?_
    refine .skip rfl rfl ?_
    refine .p rfl rfl (.pickT rfl rfl) ?_
    refine .nil (.code (.keep [(16, _), (1, _)] ⟨rfl, rfl, trivial⟩ (.condT rfl (.seq (.keep [] trivial (.region ?_))))))
    refine .p rfl rfl (.as rfl) ?_
    refine .nil (.code ?_)
    refine .ret _ rfl ?_
    exact ⟨_, rfl, ⟨fun h => (by cases h), fun hm => by have := hm.1.1; omega⟩, (by repeat (first | exact Ext.refl _ | assumption | refine Ext.trans (by assumption) ?_))⟩
  · refine .p rfl rfl (.fieldAddr rfl rfl rfl rfl) ?_
    refine .p rfl rfl (.load rfl rfl rfl ((B1.ext (S := fun _ => False) (by repeat (first | exact Ext.refl _ | assumption | refine Ext.trans (by assumption) ?_)) (fun x => x)).cell 0)) ?_
    refine .p rfl rfl (.ge rfl rfl) ?_
    refine .p rfl rfl (.pickF rfl rfl) ?_
    refine .nil (.code (.keep [(16, _), (1, _)] ⟨rfl, rfl, trivial⟩ ?_))
    refine .condD rfl (fun c16 => ?_) (fun c16 => ?_)
    · refine .seq (.keep [] trivial (.region ?_))
      refine .p rfl rfl (.as rfl) ?_
      refine .nil (.code ?_)
      refine .ret _ rfl ?_
      exact ⟨_, rfl, ⟨fun h => (by cases h), fun hm => by have := hm.1.2; omega⟩, (by repeat (first | exact Ext.refl _ | assumption | refine Ext.trans (by assumption) ?_))⟩
    · refine .skip (.code (.seq (.keep [(1, _)] ⟨rfl, trivial⟩ (.region ?_))))
      refine .p rfl rfl (.loadA (n := 2) rfl rfl rfl rfl rfl (B1.ext (S := fun _ => False) (by repeat (first | exact Ext.refl _ | assumption | refine Ext.trans (by assumption) ?_)) (fun x => x)).cells) ?_
      refine .call (first := []) (captured := []) rfl rfl rfl rfl (refPieces_fn (x := x) (tDir.ext0 h0 (by repeat (first | exact Ext.refl _ | assumption | refine Ext.trans (by assumption) ?_))) hp) ?_
      rintro v18 w18 ⟨O18, X18⟩
      have z18 := X18.size
      have R18 := OwnO.rep O18 (R := All) (fun _ _ _ => trivial) (fun _ h _ => h.elim)
      obtain ⟨a18, k18, rfl, _⟩ := OwnO.val O18
      refine .p rfl rfl (.as rfl) ?_
      refine .nil (.code (.seq (.seq (.keep [(3, _), (1, _)] ⟨rfl, rfl, trivial⟩ (.region ?_)))))
      refine .p rfl rfl (.mv rfl) ?_
      refine .call (first := []) (captured := []) rfl rfl rfl rfl (RefCheck_fn (count := 4096) R18) ?_
      rintro _ w20 ⟨rfl, X20⟩
      have z20 := X20.size
      refine .p rfl rfl (.ne rfl rfl) ?_
      refine .nil (.code (.keep [(21, _), (3, _), (1, _)] ⟨rfl, rfl, rfl, trivial⟩ ?_))
      refine .condD rfl (fun c21 => ?_) (fun c21 => ?_)
      · refine .seq (.keep [] trivial (.region ?_))
        refine .p rfl rfl (.as rfl) ?_
        refine .nil (.code ?_)
        refine .ret _ rfl ?_
        exact ⟨_, rfl, ⟨fun h => (by cases h), fun hm => absurd hm.2.1 c21⟩, (by repeat (first | exact Ext.refl _ | assumption | refine Ext.trans (by assumption) ?_))⟩
      · have hck : checkR 4096 (allP x.fs) = 0 := Decidable.not_not.1 c21
        have hpl := (check_ok hck).2.2.1
        refine .skip (.code (.seq (.seq (.keep [(3, _), (1, _)] ⟨rfl, rfl, trivial⟩ (.region ?_)))))
        refine .p rfl rfl (.as rfl) ?_
        refine .nil (.code (.block ?_))
        refine .loop (S := Nat) (fun s => [(1, .pointer (some ⟨w.heap.size, 0, none⟩)), (3, .slice a18 (allP x.fs).length k18), (4, i64 s)]) (fun s => w20) (fun s => s ≤ (allP x.fs).length ∧ ∀ j (h : j < (allP x.fs).length), j < s → 80 ≤ (allP x.fs)[j].fr) (fun s => (allP x.fs).length - s) 0 ⟨rfl, rfl, rfl, trivial⟩ rfl ⟨Nat.zero_le _, fun j _ h => absurd h (Nat.not_lt_zero _)⟩ ?_
        rintro i J ⟨hi', hlo⟩ again
        refine .seq (.seq (.region ?_))
        refine .p rfl rfl (.mv rfl) ?_
        refine .p rfl rfl (.mv rfl) ?_
        refine .p rfl rfl (.len rfl rfl) ?_
        refine .p rfl rfl (.lt rfl rfl) ?_
        refine .nil (.code (.keep [(25, _), (1, _), (3, _), (4, _)] ⟨rfl, rfl, rfl, rfl, trivial⟩ ?_))
        refine .condD rfl (fun c25 => ?_) (fun c25 => ?_)
        · have hi : i < (allP x.fs).length := by omega
          obtain ⟨bp, op, qp, up, ep, _, hcp, hrp⟩ := Sl.at R18 (List.getElem?_eq_getElem hi)
          cases ep
          obtain ⟨rfl, hr1, hr2⟩ := tPiece.val hrp
          refine .skip (.code (.seq (.block (.seq (.keep [(1, _), (3, _), (4, _)] ⟨rfl, rfl, rfl, trivial⟩ (.region ?_))))))
          refine .p rfl rfl (.mv rfl) ?_
          refine .p rfl rfl (.mv rfl) ?_
          refine .p rfl rfl (.indexAddr (s := 2) rfl rfl rfl rfl (by omega)) ?_
          refine .p rfl rfl (.fieldAddr rfl rfl rfl rfl) ?_
          refine .p rfl rfl (.load rfl rfl rfl (hcp.ext (S := fun _ => False) (by repeat (first | exact Ext.refl _ | assumption | refine Ext.trans (by assumption) ?_)) (fun x => x) 0 _ rfl)) ?_
          refine .p rfl rfl (.lt rfl rfl) ?_
          refine .nil (.code (.keep [(33, _), (1, _), (3, _), (4, _)] ⟨rfl, rfl, rfl, rfl, trivial⟩ ?_))
          refine .condD rfl (fun c33 => ?_) (fun c33 => ?_)
          · refine .seq (.keep [] trivial (.region ?_))
            refine .p rfl rfl (.as rfl) ?_
            refine .nil (.code ?_)
            refine .ret _ rfl ?_
            exact ⟨_, rfl, ⟨fun h => (by cases h), fun hm => by have := hm.2.2.1 _ (List.getElem_mem hi); omega⟩, (by repeat (first | exact Ext.refl _ | assumption | refine Ext.trans (by assumption) ?_))⟩
          · refine .skip (.blk (.code (.keep [(1, _), (3, _), (4, _)] ⟨rfl, rfl, rfl, trivial⟩ (.region ?_))))
            refine .p rfl rfl (.mv rfl) ?_
            refine .p rfl rfl (.add rfl rfl (by omega)) ?_
            refine .p rfl rfl (.as rfl) ?_
            refine .nil ?_
            refine (again (i + 1) ⟨by show i + 1 ≤ _; omega, fun j hj h1 => ?_⟩ (by show _ - (i + 1) < _ - i; omega)).of ⟨rfl, rfl, rfl, trivial⟩
            rcases Nat.lt_or_ge j i with h2 | h2
            · exact hlo j hj h2
            · have h1 : j < i + 1 := h1
              obtain rfl : j = i := by omega
              exact Int.not_lt.1 c33
        · obtain rfl : i = (allP x.fs).length := by omega
          refine .exit rfl (.code (.seq (.seq (.keep [(1, _)] ⟨rfl, trivial⟩ (.region ?_)))))
          refine .p rfl rfl (.as rfl) ?_
          refine .nil (.code (.block ?_))
          refine .loop (S := Nat × World) (fun s => [(1, .pointer (some ⟨w.heap.size, 0, none⟩)), (5, i64 s.1)]) (fun s => s.2) (fun s => s.1 ≤ x.fs.length ∧ (∀ j (h : j < x.fs.length), j < s.1 → okAt x.fs j h) ∧ Ext (fun _ => False) w20 s.2) (fun s => x.fs.length - s.1) (0, w20) ⟨rfl, rfl, trivial⟩ rfl ⟨Nat.zero_le _, fun j _ h => absurd h (Nat.not_lt_zero _), .refl _⟩ ?_
          rintro ⟨i, wi⟩ J ⟨hi', hok, hX⟩ again
          simp only at hi' hok hX
          have zi := hX.size
          change G _ [(1, .pointer (some ⟨w.heap.size, 0, none⟩)), (5, i64 i)] _ _ wi
          refine .seq (.seq (.region ?_))
          refine .p rfl rfl (.mv rfl) ?_
          refine .p rfl rfl (.fieldAddr rfl rfl rfl rfl) ?_
          refine .p rfl rfl (.load rfl rfl rfl ((B1.ext (S := fun _ => False) (by repeat (first | exact Ext.refl _ | assumption | refine Ext.trans (by assumption) ?_)) (fun x => x)).cell 1)) ?_
          refine .p rfl rfl (.len rfl rfl) ?_
          refine .p rfl rfl (.lt rfl rfl) ?_
          refine .nil (.code (.keep [(38, _), (1, _), (5, _)] ⟨rfl, rfl, rfl, trivial⟩ ?_))
          refine .condD rfl (fun c38 => ?_) (fun c38 => ?_)
          · have hi : i < x.fs.length := by omega
            obtain ⟨b1, o1, q1, ue1, e1, _, hcs, hre⟩ := Sl.at hf (List.getElem?_eq_getElem hi)
            cases e1
            obtain ⟨fa1, fc1, rfl, hps, hnm, hsz⟩ := tFile.val hre
            refine .skip (.code (.seq (.block (.seq (.keep [(1, _), (5, _)] ⟨rfl, rfl, trivial⟩ (.region ?_))))))
            refine .p rfl rfl (.fieldAddr rfl rfl rfl rfl) ?_
            refine .p rfl rfl (.load rfl rfl rfl ((B1.ext (S := fun _ => False) (by repeat (first | exact Ext.refl _ | assumption | refine Ext.trans (by assumption) ?_)) (fun x => x)).cell 1)) ?_
            refine .p rfl rfl (.mv rfl) ?_
            refine .p rfl rfl (.indexAddr (s := 3) rfl rfl rfl rfl (by omega)) ?_
            refine .p rfl rfl (.loadA (n := 3) rfl rfl rfl rfl rfl (hcs.ext (S := fun _ => False) (by repeat (first | exact Ext.refl _ | assumption | refine Ext.trans (by assumption) ?_)) (fun x => x))) ?_
            refine .v rfl rfl (.alloc rfl rfl) ?_
            rintro _ wn6 ⟨rfl, N6⟩
            refine .s rfl (.storeAll (n := 3) rfl rfl rfl rfl rfl N6.blk rfl) ?_
            intro w6 P6
            have Y6 := N6.ext.then P6.ext (by rintro k rfl _; exact Nat.le_refl _)
            have zy6 := Y6.size
            have B6 := P6.blk
            clear P6 N6
            refine .nil (.code (.seq (.seq (.keep [(6, _), (1, _), (5, _)] ⟨rfl, rfl, rfl, trivial⟩ (.mix (fun _ => False) [2] (by kernel_rfl) (by kernel_rfl) (by kernel_rfl) ?_)))))
            refine .p rfl rfl rfl (fun wx hx => .fieldAddr rfl rfl rfl rfl) ?_
            refine .p rfl rfl rfl (fun wx hx => .load rfl rfl rfl ((B6.ext (S := fun _ => False) (Ext.trans (by repeat (first | exact Ext.refl _ | assumption | refine Ext.trans (by assumption) ?_)) hx) (fun x => x)).cell 0)) ?_
            refine .call (first := []) (captured := []) rfl rfl rfl rfl rfl (RefIsName_fn hnm) (by rintro _ _ ⟨_, hx⟩; exact hx) ?_
            rintro _ w48 ⟨rfl, X48⟩
            have z48 := X48.size
            refine .p rfl rfl rfl (fun wx hx => .not rfl) ?_
            refine .p rfl rfl rfl (fun wx hx => .mv rfl) ?_
            refine .case 50 rfl (fun c50 => ?_) (fun c50 => ?_)
            · refine .skip rfl rfl ?_
              refine .skip rfl rfl ?_
              refine .skip rfl rfl ?_
              refine .skip rfl rfl ?_
              refine .skip rfl rfl ?_
              refine .skip rfl rfl ?_
              refine .skip rfl rfl ?_
              refine .skip rfl rfl ?_
              refine .skip rfl rfl ?_
              refine .skip rfl rfl ?_
              refine .skip rfl rfl ?_
              refine .skip rfl rfl ?_
              refine .skip rfl rfl ?_
              refine .skip rfl rfl ?_
              refine .p rfl rfl rfl (fun wx hx => .pickT rfl rfl) ?_
              refine .p rfl rfl rfl (fun wx hx => .mv rfl) ?_
              refine .skip rfl rfl ?_
              refine .skip rfl rfl ?_
              refine .skip rfl rfl ?_
              refine .p rfl rfl rfl (fun wx hx => .pickT rfl rfl) ?_
              refine .p rfl rfl rfl (fun wx hx => .mv rfl) ?_
              refine .skip rfl rfl ?_
              refine .skip rfl rfl ?_
              refine .skip rfl rfl ?_
              refine .p rfl rfl rfl (fun wx hx => .pickT rfl rfl) ?_
              refine .nil (.code (.keep [(75, _), (6, _), (1, _), (5, _)] ⟨rfl, rfl, rfl, rfl, trivial⟩ (.condT rfl (.seq (.keep [] trivial (.region ?_))))))
              refine .p rfl rfl (.as rfl) ?_
              refine .nil (.code ?_)
              refine .ret _ rfl ?_
              have ho := fun hm : mayD x => hm.2.2.2 i hi
              exact ⟨_, rfl, ⟨fun h => (by cases h), fun hm => by have ho := ho hm; simp [ho.1] at c50⟩, (by repeat (first | exact Ext.refl _ | assumption | refine Ext.trans (by assumption) ?_))⟩
            · refine .p rfl rfl rfl (fun wx hx => .mv rfl) ?_
              refine .p rfl rfl rfl (fun wx hx => .gt rfl rfl) ?_
              refine .p rfl rfl rfl (fun wx hx => .mv rfl) ?_
              refine .caseD 53 rfl (fun c53 => ?_) (fun c53 => ?_)
              · have hpos : 0 < i := by omega
                obtain ⟨b2, o2, q2, ue2, e2, _, hcs2, hre2⟩ := Sl.at hf (i := i - 1) (List.getElem?_eq_getElem (by omega))
                cases e2
                obtain ⟨fa2, fc2, rfl, hps2, hnm2, hsz2⟩ := tFile.val hre2
                have ej : ((i : Int) - 1).toNat = i - 1 := by omega
                refine .p rfl rfl rfl (fun wx hx => .fieldAddr rfl rfl rfl rfl) ?_
                refine .p rfl rfl rfl (fun wx hx => .load rfl rfl rfl ((B1.ext (S := fun _ => False) (Ext.trans (by repeat (first | exact Ext.refl _ | assumption | refine Ext.trans (by assumption) ?_)) hx) (fun x => x)).cell 1)) ?_
                refine .p rfl rfl rfl (fun wx hx => .mv rfl) ?_
                refine .p rfl rfl rfl (fun wx hx => .sub rfl rfl (by omega)) ?_
                refine .p rfl rfl rfl (fun wx hx => .indexAddr (s := 3) rfl rfl rfl rfl (by omega)) ?_
                refine .p rfl rfl rfl (fun wx hx => .fieldAddr rfl rfl rfl rfl) ?_
                refine .p rfl rfl rfl (fun wx hx => .load rfl rfl rfl (by rw [ej]; exact hcs2.ext (S := fun _ => False) (Ext.trans (by repeat (first | exact Ext.refl _ | assumption | refine Ext.trans (by assumption) ?_)) hx) (fun x => x) 0 _ rfl)) ?_
                refine .p rfl rfl rfl (fun wx hx => .fieldAddr rfl rfl rfl rfl) ?_
                refine .p rfl rfl rfl (fun wx hx => .load rfl rfl rfl ((B6.ext (S := fun _ => False) (Ext.trans (by repeat (first | exact Ext.refl _ | assumption | refine Ext.trans (by assumption) ?_)) hx) (fun x => x)).cell 0)) ?_
                refine .p rfl rfl rfl (fun wx hx => .geS rfl rfl) ?_
                refine .p rfl rfl rfl (fun wx hx => .pickT rfl rfl) ?_
                refine .p rfl rfl rfl (fun wx hx => .pickF rfl rfl) ?_
                refine .p rfl rfl rfl (fun wx hx => .mv rfl) ?_
                refine .case 66 rfl (fun c66 => ?_) (fun c66 => ?_)
                · refine .skip rfl rfl ?_
                  refine .skip rfl rfl ?_
                  refine .skip rfl rfl ?_
                  refine .p rfl rfl rfl (fun wx hx => .pickT rfl rfl) ?_
                  refine .p rfl rfl rfl (fun wx hx => .mv rfl) ?_
                  refine .skip rfl rfl ?_
                  refine .skip rfl rfl ?_
                  refine .skip rfl rfl ?_
                  refine .p rfl rfl rfl (fun wx hx => .pickT rfl rfl) ?_
                  refine .nil (.code (.keep [(75, _), (6, _), (1, _), (5, _)] ⟨rfl, rfl, rfl, rfl, trivial⟩ (.condT rfl (.seq (.keep [] trivial (.region ?_))))))
                  refine .p rfl rfl (.as rfl) ?_
                  refine .nil (.code ?_)
                  refine .ret _ rfl ?_
                  have ho := fun hm : mayD x => hm.2.2.2 i hi
                  exact ⟨_, rfl, ⟨fun h => (by cases h), fun hm => by have ho := ho hm; simp [ho.2.1 hpos] at c66⟩, (by repeat (first | exact Ext.refl _ | assumption | refine Ext.trans (by assumption) ?_))⟩
                · refine .p rfl rfl rfl (fun wx hx => .fieldAddr rfl rfl rfl rfl) ?_
                  refine .p rfl rfl rfl (fun wx hx => .load rfl rfl rfl ((B6.ext (S := fun _ => False) (Ext.trans (by repeat (first | exact Ext.refl _ | assumption | refine Ext.trans (by assumption) ?_)) hx) (fun x => x)).cell 1)) ?_
                  refine .p rfl rfl rfl (fun wx hx => .lt rfl rfl) ?_
                  refine .p rfl rfl rfl (fun wx hx => .pickF rfl rfl) ?_
                  refine .p rfl rfl rfl (fun wx hx => .mv rfl) ?_
                  refine .caseD 71 rfl (fun c71 => ?_) (fun c71 => ?_)
                  · refine .skip rfl rfl ?_
                    refine .skip rfl rfl ?_
                    refine .skip rfl rfl ?_
                    refine .p rfl rfl rfl (fun wx hx => .pickT rfl rfl) ?_
                    refine .nil (.code (.keep [(75, _), (6, _), (1, _), (5, _)] ⟨rfl, rfl, rfl, rfl, trivial⟩ (.condT rfl (.seq (.keep [] trivial (.region ?_))))))
                    refine .p rfl rfl (.as rfl) ?_
                    refine .nil (.code ?_)
                    refine .ret _ rfl ?_
                    have ho := fun hm : mayD x => hm.2.2.2 i hi
                    exact ⟨_, rfl, ⟨fun h => (by cases h), fun hm => by have ho := ho hm; have := ho.2.2.1; omega⟩, (by repeat (first | exact Ext.refl _ | assumption | refine Ext.trans (by assumption) ?_))⟩
                  · refine .p rfl rfl rfl (fun wx hx => .fieldAddr rfl rfl rfl rfl) ?_
                    refine .p rfl rfl rfl (fun wx hx => .load rfl rfl rfl ((B6.ext (S := fun _ => False) (Ext.trans (by repeat (first | exact Ext.refl _ | assumption | refine Ext.trans (by assumption) ?_)) hx) (fun x => x)).cell 1)) ?_
                    refine .p rfl rfl rfl (fun wx hx => .gt rfl rfl) ?_
                    refine .p rfl rfl rfl (fun wx hx => .pickF rfl rfl) ?_
                    refine .nil (.code (.keep [(75, _), (6, _), (1, _), (5, _)] ⟨rfl, rfl, rfl, rfl, trivial⟩ ?_))
                    refine .condD rfl (fun c75 => ?_) (fun c75 => ?_)
                    · refine .seq (.keep [] trivial (.region ?_))
                      refine .p rfl rfl (.as rfl) ?_
                      refine .nil (.code ?_)
                      refine .ret _ rfl ?_
                      have ho := fun hm : mayD x => hm.2.2.2 i hi
                      exact ⟨_, rfl, ⟨fun h => (by cases h), fun hm => by have ho := ho hm; have := ho.2.2.2.1; omega⟩, (by repeat (first | exact Ext.refl _ | assumption | refine Ext.trans (by assumption) ?_))⟩
                    · refine .skip (.code (.seq (.keep [(6, _), (1, _), (5, _)] ⟨rfl, rfl, rfl, trivial⟩ (.region ?_))))
                      refine .p rfl rfl (.fieldAddr rfl rfl rfl rfl) ?_
                      refine .p rfl rfl (.load rfl rfl rfl ((B6.ext (S := fun _ => False) (by repeat (first | exact Ext.refl _ | assumption | refine Ext.trans (by assumption) ?_)) (fun x => x)).cell 2)) ?_
                      refine .call (first := []) (captured := []) rfl rfl rfl rfl (RefMany_fn (allOf ((Sl tPiece).ext0 hps (by repeat (first | exact Ext.refl _ | assumption | refine Ext.trans (by assumption) ?_))))) ?_
                      rintro _ w79 ⟨rfl, X79⟩
                      have z79 := X79.size
                      refine .p rfl rfl (.mv rfl) ?_
                      refine .p rfl rfl (.extract rfl rfl) ?_
                      refine .p rfl rfl (.extract rfl rfl) ?_
                      refine .p rfl rfl (.as rfl) ?_
                      refine .p rfl rfl (.as rfl) ?_
                      refine .nil (.code (.seq (.keep [(7, _), (6, _), (1, _), (5, _)] ⟨rfl, rfl, rfl, rfl, trivial⟩ (.region ?_))))
                      refine .p rfl rfl (.mv rfl) ?_
                      refine .p rfl rfl (.fieldAddr rfl rfl rfl rfl) ?_
                      refine .p rfl rfl (.load rfl rfl rfl ((B6.ext (S := fun _ => False) (by repeat (first | exact Ext.refl _ | assumption | refine Ext.trans (by assumption) ?_)) (fun x => x)).cell 1)) ?_
                      refine .call (first := []) (captured := []) rfl rfl rfl rfl (refNeeds_fn (n := x.fs[i].size) (by omega)) ?_
                      rintro _ w85 ⟨rfl, X85⟩
                      have z85 := X85.size
                      refine .p rfl rfl (.ne rfl rfl) ?_
                      refine .nil (.code (.keep [(86, _), (1, _), (5, _)] ⟨rfl, rfl, rfl, trivial⟩ ?_))
                      refine .condD rfl (fun c86 => ?_) (fun c86 => ?_)
                      · refine .seq (.keep [] trivial (.region ?_))
                        refine .p rfl rfl (.as rfl) ?_
                        refine .nil (.code ?_)
                        refine .ret _ rfl ?_
                        have ho := fun hm : mayD x => hm.2.2.2 i hi
                        exact ⟨_, rfl, ⟨fun h => (by cases h), fun hm => by have ho := ho hm; exact absurd (by rw [← manyF_eq]; exact ho.2.2.2.2) c86⟩, (by repeat (first | exact Ext.refl _ | assumption | refine Ext.trans (by assumption) ?_))⟩
                      · refine .skip (.blk (.code (.keep [(1, _), (5, _)] ⟨rfl, rfl, trivial⟩ (.region ?_))))
                        refine .p rfl rfl (.mv rfl) ?_
                        refine .p rfl rfl (.add rfl rfl (by omega)) ?_
                        refine .p rfl rfl (.as rfl) ?_
                        refine .nil ?_
                        refine (again (i + 1, w85) ⟨by show i + 1 ≤ _; omega, fun j hj h1 => ?_, (by repeat (first | exact Ext.refl _ | assumption | refine Ext.trans (by assumption) ?_))⟩ (by show _ - (i + 1) < _ - i; omega)).of ⟨rfl, rfl, trivial⟩
                        rcases Nat.lt_or_ge j i with h2 | h2
                        · exact hok j hj h2
                        · have h1 : j < i + 1 := h1
                          obtain rfl : j = i := by omega
                          exact ⟨by simpa using c50, fun h0 => by simpa using c66, by omega, by omega, by rw [manyF_eq]; exact Classical.not_not.1 c86⟩
              · refine .skip rfl rfl ?_
                refine .skip rfl rfl ?_
                refine .skip rfl rfl ?_
                refine .skip rfl rfl ?_
                refine .skip rfl rfl ?_
                refine .skip rfl rfl ?_
                refine .skip rfl rfl ?_
                refine .skip rfl rfl ?_
                refine .skip rfl rfl ?_
                refine .skip rfl rfl ?_
                refine .p rfl rfl rfl (fun wx hx => .pickF rfl rfl) ?_
                refine .p rfl rfl rfl (fun wx hx => .pickF rfl rfl) ?_
                refine .p rfl rfl rfl (fun wx hx => .mv rfl) ?_
                refine .p rfl rfl rfl (fun wx hx => .fieldAddr rfl rfl rfl rfl) ?_
                refine .p rfl rfl rfl (fun wx hx => .load rfl rfl rfl ((B6.ext (S := fun _ => False) (Ext.trans (by repeat (first | exact Ext.refl _ | assumption | refine Ext.trans (by assumption) ?_)) hx) (fun x => x)).cell 1)) ?_
                refine .p rfl rfl rfl (fun wx hx => .lt rfl rfl) ?_
                refine .p rfl rfl rfl (fun wx hx => .pickF rfl rfl) ?_
                refine .p rfl rfl rfl (fun wx hx => .mv rfl) ?_
                refine .caseD 71 rfl (fun c71 => ?_) (fun c71 => ?_)
                · refine .skip rfl rfl ?_
                  refine .skip rfl rfl ?_
                  refine .skip rfl rfl ?_
                  refine .p rfl rfl rfl (fun wx hx => .pickT rfl rfl) ?_
                  refine .nil (.code (.keep [(75, _), (6, _), (1, _), (5, _)] ⟨rfl, rfl, rfl, rfl, trivial⟩ (.condT rfl (.seq (.keep [] trivial (.region ?_))))))
                  refine .p rfl rfl (.as rfl) ?_
                  refine .nil (.code ?_)
                  refine .ret _ rfl ?_
                  have ho := fun hm : mayD x => hm.2.2.2 i hi
                  exact ⟨_, rfl, ⟨fun h => (by cases h), fun hm => by have ho := ho hm; have := ho.2.2.1; omega⟩, (by repeat (first | exact Ext.refl _ | assumption | refine Ext.trans (by assumption) ?_))⟩
                · refine .p rfl rfl rfl (fun wx hx => .fieldAddr rfl rfl rfl rfl) ?_
                  refine .p rfl rfl rfl (fun wx hx => .load rfl rfl rfl ((B6.ext (S := fun _ => False) (Ext.trans (by repeat (first | exact Ext.refl _ | assumption | refine Ext.trans (by assumption) ?_)) hx) (fun x => x)).cell 1)) ?_
                  refine .p rfl rfl rfl (fun wx hx => .gt rfl rfl) ?_
                  refine .p rfl rfl rfl (fun wx hx => .pickF rfl rfl) ?_
                  refine .nil (.code (.keep [(75, _), (6, _), (1, _), (5, _)] ⟨rfl, rfl, rfl, rfl, trivial⟩ ?_))
                  refine .condD rfl (fun c75 => ?_) (fun c75 => ?_)
                  · refine .seq (.keep [] trivial (.region ?_))
                    refine .p rfl rfl (.as rfl) ?_
                    refine .nil (.code ?_)
                    refine .ret _ rfl ?_
                    have ho := fun hm : mayD x => hm.2.2.2 i hi
                    exact ⟨_, rfl, ⟨fun h => (by cases h), fun hm => by have ho := ho hm; have := ho.2.2.2.1; omega⟩, (by repeat (first | exact Ext.refl _ | assumption | refine Ext.trans (by assumption) ?_))⟩
                  · refine .skip (.code (.seq (.keep [(6, _), (1, _), (5, _)] ⟨rfl, rfl, rfl, trivial⟩ (.region ?_))))
                    refine .p rfl rfl (.fieldAddr rfl rfl rfl rfl) ?_
                    refine .p rfl rfl (.load rfl rfl rfl ((B6.ext (S := fun _ => False) (by repeat (first | exact Ext.refl _ | assumption | refine Ext.trans (by assumption) ?_)) (fun x => x)).cell 2)) ?_
                    refine .call (first := []) (captured := []) rfl rfl rfl rfl (RefMany_fn (allOf ((Sl tPiece).ext0 hps (by repeat (first | exact Ext.refl _ | assumption | refine Ext.trans (by assumption) ?_))))) ?_
                    rintro _ w79 ⟨rfl, X79⟩
                    have z79 := X79.size
                    refine .p rfl rfl (.mv rfl) ?_
                    refine .p rfl rfl (.extract rfl rfl) ?_
                    refine .p rfl rfl (.extract rfl rfl) ?_
                    refine .p rfl rfl (.as rfl) ?_
                    refine .p rfl rfl (.as rfl) ?_
                    refine .nil (.code (.seq (.keep [(7, _), (6, _), (1, _), (5, _)] ⟨rfl, rfl, rfl, rfl, trivial⟩ (.region ?_))))
                    refine .p rfl rfl (.mv rfl) ?_
                    refine .p rfl rfl (.fieldAddr rfl rfl rfl rfl) ?_
                    refine .p rfl rfl (.load rfl rfl rfl ((B6.ext (S := fun _ => False) (by repeat (first | exact Ext.refl _ | assumption | refine Ext.trans (by assumption) ?_)) (fun x => x)).cell 1)) ?_
                    refine .call (first := []) (captured := []) rfl rfl rfl rfl (refNeeds_fn (n := x.fs[i].size) (by omega)) ?_
                    rintro _ w85 ⟨rfl, X85⟩
                    have z85 := X85.size
                    refine .p rfl rfl (.ne rfl rfl) ?_
                    refine .nil (.code (.keep [(86, _), (1, _), (5, _)] ⟨rfl, rfl, rfl, trivial⟩ ?_))
                    refine .condD rfl (fun c86 => ?_) (fun c86 => ?_)
                    · refine .seq (.keep [] trivial (.region ?_))
                      refine .p rfl rfl (.as rfl) ?_
                      refine .nil (.code ?_)
                      refine .ret _ rfl ?_
                      have ho := fun hm : mayD x => hm.2.2.2 i hi
                      exact ⟨_, rfl, ⟨fun h => (by cases h), fun hm => by have ho := ho hm; exact absurd (by rw [← manyF_eq]; exact ho.2.2.2.2) c86⟩, (by repeat (first | exact Ext.refl _ | assumption | refine Ext.trans (by assumption) ?_))⟩
                    · refine .skip (.blk (.code (.keep [(1, _), (5, _)] ⟨rfl, rfl, trivial⟩ (.region ?_))))
                      refine .p rfl rfl (.mv rfl) ?_
                      refine .p rfl rfl (.add rfl rfl (by omega)) ?_
                      refine .p rfl rfl (.as rfl) ?_
                      refine .nil ?_
                      refine (again (i + 1, w85) ⟨by show i + 1 ≤ _; omega, fun j hj h1 => ?_, (by repeat (first | exact Ext.refl _ | assumption | refine Ext.trans (by assumption) ?_))⟩ (by show _ - (i + 1) < _ - i; omega)).of ⟨rfl, rfl, trivial⟩
                      rcases Nat.lt_or_ge j i with h2 | h2
                      · exact hok j hj h2
                      · have h1 : j < i + 1 := h1
                        obtain rfl : j = i := by omega
                        exact ⟨by simpa using c50, fun h0 => absurd h0 (by omega), by omega, by omega, by rw [manyF_eq]; exact Classical.not_not.1 c86⟩
          · obtain rfl : i = x.fs.length := by omega
            refine .exit rfl (.code (.seq (.keep [] trivial (.region ?_))))
            refine .p rfl rfl (.as rfl) ?_
            refine .nil (.code ?_)
            refine .ret _ rfl ?_
            exact ⟨_, rfl, ⟨fun _ => ⟨by omega, hck, fun p hpm => (by obtain ⟨j, hj, rfl⟩ := List.getElem_of_mem hpm; exact hlo j hj hj), fun i hi => hok i hi hi⟩, fun _ => rfl⟩, (by repeat (first | exact Ext.refl _ | assumption | refine Ext.trans (by assumption) ?_))⟩
theorem refSmallI_fn {w : World} {n : Int} (hn : 0 ≤ n ∧ n ≤ 9223372036854775807) : Fn Tryz.prog 52 [i64 n] w (fun r w2 => Gr w2 r (smallF n.toNat) w.heap.size ∧ Ext (fun _ => False) w w2) := by
  refine Fn.enter (fun w => Tryz.call52 _ w) Tryz.func52 rfl ?_
  refine .seq (.region ?_)
  refine .p rfl rfl (.as rfl) ?_
  refine .nil (.code (.seq (.keep [(0, _)] ⟨rfl, trivial⟩ (.region ?_))))
  refine .p rfl rfl (.mv rfl) ?_
  refine .p rfl rfl (.cast (.convU rfl rfl rfl (by omega)) (show _ = Value.int .u64 ((n.toNat : Nat) : Int) by rw [Int.toNat_of_nonneg hn.1])) ?_
  refine .call (first := []) (captured := []) rfl rfl rfl rfl (RefSmall_fn (n := n.toNat) (by omega)) ?_
  rintro v5 w5 ⟨G5, X5⟩
  refine .p rfl rfl (.as rfl) ?_
  refine .nil (.code ?_)
  refine .ret _ rfl ?_
  exact ⟨G5, X5⟩
end Go.Proofs.YtpfehnopghffjaaGreatDoor
