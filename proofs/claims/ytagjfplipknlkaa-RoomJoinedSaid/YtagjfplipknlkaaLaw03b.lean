
/-
  RoomWhole: each sector is either free or in a piece.
-/
import Derived.Test.YtagjfplipknlkaaLaw03a
set_option linter.unusedVariables false
set_option linter.unusedSimpArgs false
set_option maxRecDepth 20000
namespace Go.Proofs.Ytagjfplipknlkaa
open Go room
namespace room
/-- a free list's runs -/
theorem free_runs {f n : Nat} {l : List Piece} (h : f ≤ n) : Runs (fun k => !covB l k) f (n - f) (freeF f n l) := runs_ok _ _ _
theorem whole {f n : Nat} {l : List Piece} (hf : f ≤ n) (hm : mayP (n : Int) l) {i : Nat} (hi : i < n) : (cnt l i + cnt (freeF f n l) i ≤ 1) ∧ (f ≤ i → cnt l i + cnt (freeF f n l) i = 1) := by
  have R := free_runs (l := l) hf
  rw [cnt_apart hm.2, cnt_apart (apart_of_sep R.sep), R.cov i]
  by_cases h1 : f ≤ i
  · rw [decide_eq_true (show f ≤ i ∧ i < f + (n - f) by omega)]
    cases covB l i <;> simp
  · rw [decide_eq_false (show ¬ (f ≤ i ∧ i < f + (n - f)) by omega)]
    cases covB l i <;> simp [h1]
end room
theorem RoomWhole_fn {w : World} {v : Value} {l : List Piece} {first count : Int} (h : (Sl tPiece).rep All w v l) : Fn Try.prog 3 [i64 first, i64 count, v] w (fun r w2 => r = .bool true ∧ Ext (fun _ => False) w w2) := by
  refine Fn.enter (fun w => Try.call3 _ w) Try.func3 rfl ?_
  refine .seq (.region ?_)
  refine .p rfl rfl (.as rfl) ?_
  refine .nil (.code (.seq (.keep [(0, _), (1, _), (2, _)] ⟨rfl, rfl, rfl, trivial⟩ (.region ?_))))
  refine .call (first := []) (captured := []) rfl rfl rfl rfl (alive_fn) ?_
  rintro _ w13 ⟨rfl, X13⟩
  refine .p rfl rfl (.as rfl) ?_
  refine .nil (.code (.seq (.seq (.keep [(7, _), (0, _), (1, _), (2, _)] ⟨rfl, rfl, rfl, rfl, trivial⟩ (.region ?_)))))
  refine .p rfl rfl (.mv rfl) ?_
  refine .p rfl rfl (.not rfl) ?_
  refine .nil (.code (.keep [(15, _), (7, _), (0, _), (1, _), (2, _)] ⟨rfl, rfl, rfl, rfl, rfl, trivial⟩ (.condF rfl (.skip (.code (.seq (.keep [(7, _), (0, _), (1, _), (2, _)] ⟨rfl, rfl, rfl, rfl, trivial⟩ (.region ?_))))))))
  refine .p rfl rfl (.mv rfl) ?_
  refine .p rfl rfl (.mv rfl) ?_
  refine .p rfl rfl (.mv rfl) ?_
  refine .call (first := []) (captured := []) rfl rfl rfl rfl (Free_fn ((Sl tPiece).ext0 h X13)) ?_
  rintro _ w20 ⟨v20, rfl, O20, X20⟩
  obtain ⟨a20, c20, rfl, hc20⟩ := OwnO.val O20
  have R20 := OwnO.rep O20 (R := All) (fun _ _ _ => trivial) (fun _ h _ => h.elim)
  refine .p rfl rfl (.mv rfl) ?_
  refine .p rfl rfl (.extract rfl rfl) ?_
  refine .p rfl rfl (.extract rfl rfl) ?_
  refine .p rfl rfl (.as rfl) ?_
  refine .p rfl rfl (.as rfl) ?_
  refine .nil (.code (.seq (.seq (.keep [(9, _), (8, _), (7, _), (0, _), (1, _), (2, _)] ⟨rfl, rfl, rfl, rfl, rfl, rfl, trivial⟩ (.region ?_)))))
  refine .p rfl rfl (.mv rfl) ?_
  refine .p rfl rfl (.ne rfl rfl) ?_
  refine .nil (.code (.keep [(24, _), (8, _), (7, _), (0, _), (1, _), (2, _)] ⟨rfl, rfl, rfl, rfl, rfl, rfl, trivial⟩ ?_))
  refine .condD rfl (fun c24 => ?_) (fun c24 => ?_)
  · refine .seq (.keep [(8, _), (7, _)] ⟨rfl, rfl, trivial⟩ (.region ?_))
    refine .p rfl rfl (.mv rfl) ?_
    refine .p rfl rfl (.mv rfl) ?_
    refine .p rfl rfl (.mv rfl) ?_
    refine .p rfl rfl (.len rfl rfl) ?_
    refine .p rfl rfl (.yes (.eq rfl rfl) (by rw [freeL_bad c24]; rfl)) ?_
    refine .p rfl rfl (.pickT rfl rfl) ?_
    refine .p rfl rfl (.as rfl) ?_
    refine .nil (.code ?_)
    refine .ret _ rfl ?_
    exact ⟨rfl, X13.trans X20⟩
  · have hz : freeE first count l = 0 := Decidable.not_not.1 c24
    obtain ⟨i1, i2, i3, hck⟩ := freeE_in hz
    obtain ⟨_, _, hll, hmay⟩ := check_ok hck
    obtain ⟨f0, rfl⟩ := Int.eq_ofNat_of_zero_le i1
    obtain ⟨n0, rfl⟩ := Int.eq_ofNat_of_zero_le (show 0 ≤ count by omega)
    have hFl := freeL_length (f0 : Int) (n0 : Int) l
    have hFin := fun p (hp : p ∈ freeL (f0 : Int) (n0 : Int) l) => freeL_in hp
    have hFe : freeL (f0 : Int) (n0 : Int) l = freeF f0 n0 l := freeL_ok hz
    have hR := free_runs (f := f0) (n := n0) (l := l) (by omega)
    rw [← hFe] at hR
    have hWh := fun i hi => whole (f := f0) (n := n0) (l := l) (by omega) hmay (i := i) hi
    rw [← hFe] at hWh
    generalize freeL (f0 : Int) (n0 : Int) l = F at hR hWh hFin hFl R20 hc20
    refine .skip (.code (.seq (.keep [(8, _), (7, _), (0, _), (1, _), (2, _)] ⟨rfl, rfl, rfl, rfl, rfl, trivial⟩ (.region ?_))))
    refine .p rfl rfl (.mv rfl) ?_
    refine .v rfl rfl (.make (eb := 8) rfl rfl rfl rfl rfl rfl rfl rfl (by omega)) ?_
    rintro _ w32 ⟨rfl, N32⟩
    have z20 := X20.size
    have z32 := N32.size
    have B32 : Blk w32 w20.heap.size 3 (rowM n0 (fun _ => 0)) := by rw [← rowM_zero]; exact N32.blk
    have X32 := (X13.trans X20).trans N32.ext
    have Rl : (Sl tPiece).rep (fun k => k ≠ w20.heap.size) w32 v l := (Sl tPiece).ext0 ((Sl tPiece).mono ((Sl tPiece).ext0 h (X13.trans X20)) (fun k _ hk => Nat.ne_of_lt hk)) N32.ext
    have Rf : (Sl tPiece).rep (fun k => k ≠ w20.heap.size) w32 _ _ := (Sl tPiece).ext0 ((Sl tPiece).mono R20 (fun k _ hk => Nat.ne_of_lt hk)) N32.ext
    refine .p rfl rfl (.as rfl) ?_
    refine .nil (.code (.seq (.seq (.keep [(10, _), (8, _), (7, _), (0, _), (1, _), (2, _)] ⟨rfl, rfl, rfl, rfl, rfl, rfl, trivial⟩ (.region ?_)))))
    refine .p rfl rfl (.mv rfl) ?_
    refine .p rfl rfl (.mv rfl) ?_
    refine .call (first := []) (captured := []) rfl rfl rfl rfl (marks_fn (n := n0) (cap := n0) Rl B32 (fun p hp => by have := hmay.1 p hp; unfold okP at this; omega) (fun _ => ⟨by omega, by omega⟩) (by omega) (by omega)) ?_
    rintro _ w35 ⟨rfl, B35, X35⟩
    refine .p rfl rfl (.not rfl) ?_
    refine .p rfl rfl (.mv rfl) ?_
    refine .p rfl rfl (.mv rfl) ?_
    refine .p rfl rfl (.mv rfl) ?_
    refine .call (first := []) (captured := []) rfl rfl rfl rfl (marks_fn (n := n0) (cap := n0) ((Sl tPiece).ext Rf X35 (fun k hk _ => hk)) B35 (fun p hp => by have := hFin p hp; omega) (fun k => by have := cnt_bd l k; omega) (by omega) (by omega)) ?_
    rintro _ w40 ⟨rfl, B40, X40⟩
    have Z40 : Ext (fun _ => False) w w40 := X32.then (X35.trans X40) (fun k he hk => by have he : k = w20.heap.size := he; have := X13.size; omega)
    have Rg := (Sl tPiece).ext ((Sl tPiece).ext Rf X35 (fun k hk _ => hk)) X40 (fun k hk _ => hk)
    refine .p rfl rfl (.not rfl) ?_
    refine .p rfl rfl (.pickF rfl rfl) ?_
    refine .nil (.code (.keep [(42, _), (10, _), (8, _), (7, _), (0, _), (1, _)] ⟨rfl, rfl, rfl, rfl, rfl, rfl, trivial⟩ (.condF rfl (.skip (.code (.seq (.seq (.keep [(10, _), (8, _), (7, _), (0, _), (1, _)] ⟨rfl, rfl, rfl, rfl, rfl, trivial⟩ (.region ?_)))))))))
    refine .p rfl rfl (.as rfl) ?_
    refine .nil (.code (.block ?_))
    refine .loop (S := Nat) (fun s => [(0, i64 (f0 : Int)), (1, i64 (n0 : Int)), (7, .bool true), (8, .slice a20 F.length c20), (10, .slice (some ⟨w20.heap.size, 0, none⟩) n0 n0), (11, i64 s)]) (fun s => w40) (fun s => s ≤ n0) (fun s => n0 - s) 0 ⟨rfl, rfl, rfl, rfl, rfl, rfl, trivial⟩ rfl (Nat.zero_le _) ?_
    intro i J hi' again
    refine .seq (.seq (.region ?_))
    refine .p rfl rfl (.mv rfl) ?_
    refine .p rfl rfl (.mv rfl) ?_
    refine .p rfl rfl (.lt rfl rfl) ?_
    refine .nil (.code (.keep [(45, _), (0, _), (1, _), (7, _), (8, _), (10, _), (11, _)] ⟨rfl, rfl, rfl, rfl, rfl, rfl, rfl, trivial⟩ ?_))
    refine .condD rfl (fun c45 => ?_) (fun c45 => ?_)
    · have hi : i < n0 := by omega
      have hg := rowM_get (fun k => 0 + cnt l k + cnt F k) hi
      obtain ⟨hw1, hw2⟩ := hWh i hi
      refine .skip (.code (.seq (.block (.seq (.keep [(0, _), (1, _), (7, _), (8, _), (10, _), (11, _)] ⟨rfl, rfl, rfl, rfl, rfl, rfl, trivial⟩ (.region ?_))))))
      refine .p rfl rfl (.mv rfl) ?_
      refine .p rfl rfl (.mv rfl) ?_
      refine .p rfl rfl (.indexAddr1 rfl rfl rfl rfl (by omega)) ?_
      refine .p rfl rfl (.load rfl rfl rfl (by rw [Int.toNat_natCast, Nat.zero_add]; exact (B40.cell _).trans hg)) ?_
      refine .p rfl rfl (.gt rfl rfl) ?_
      refine .p rfl rfl (.mv rfl) ?_
      refine .caseD 53 rfl (fun c53 => ?_) (fun c53 => ?_)
      · exact absurd c53 (by omega)
      · refine .p rfl rfl (.mv rfl) ?_
        refine .p rfl rfl (.mv rfl) ?_
        refine .p rfl rfl (.ge rfl rfl) ?_
        refine .p rfl rfl (.mv rfl) ?_
        refine .caseD 57 rfl (fun c57 => ?_) (fun c57 => ?_)
        · refine .p rfl rfl (.mv rfl) ?_
          refine .p rfl rfl (.mv rfl) ?_
          refine .p rfl rfl (.indexAddr1 rfl rfl rfl rfl (by omega)) ?_
          refine .p rfl rfl (.load rfl rfl rfl (by rw [Int.toNat_natCast, Nat.zero_add]; exact (B40.cell _).trans hg)) ?_
          refine .p rfl rfl (.ne rfl rfl) ?_
          refine .p rfl rfl (.pickT rfl rfl) ?_
          refine .p rfl rfl (.pickF rfl rfl) ?_
          refine .nil (.code (.keep [(64, _), (0, _), (1, _), (7, _), (8, _), (10, _), (11, _)] ⟨rfl, rfl, rfl, rfl, rfl, rfl, rfl, trivial⟩ ?_))
          refine .condD rfl (fun c64 => ?_) (fun c64 => ?_)
          · exact absurd c64 (by omega)
          · refine .skip (.blk (.code (.keep [(0, _), (1, _), (7, _), (8, _), (10, _), (11, _)] ⟨rfl, rfl, rfl, rfl, rfl, rfl, trivial⟩ (.region ?_))))
            refine .p rfl rfl (.mv rfl) ?_
            refine .p rfl rfl (.add rfl rfl (by omega)) ?_
            refine .p rfl rfl (.as rfl) ?_
            refine .nil ?_
            exact (again (i + 1) (by show i + 1 ≤ _; omega) (by show _ - (i + 1) < _ - i; omega)).of ⟨rfl, rfl, rfl, rfl, rfl, rfl, trivial⟩
        · refine .skip rfl rfl ?_
          refine .skip rfl rfl ?_
          refine .skip rfl rfl ?_
          refine .skip rfl rfl ?_
          refine .skip rfl rfl ?_
          refine .p rfl rfl (.pickF rfl rfl) ?_
          refine .p rfl rfl (.pickF rfl rfl) ?_
          refine .nil (.code (.keep [(64, _), (0, _), (1, _), (7, _), (8, _), (10, _), (11, _)] ⟨rfl, rfl, rfl, rfl, rfl, rfl, rfl, trivial⟩ (.condF rfl (.skip (.blk (.code (.keep [(0, _), (1, _), (7, _), (8, _), (10, _), (11, _)] ⟨rfl, rfl, rfl, rfl, rfl, rfl, trivial⟩ (.region ?_))))))))
          refine .p rfl rfl (.mv rfl) ?_
          refine .p rfl rfl (.add rfl rfl (by omega)) ?_
          refine .p rfl rfl (.as rfl) ?_
          refine .nil ?_
          exact (again (i + 1) (by show i + 1 ≤ _; omega) (by show _ - (i + 1) < _ - i; omega)).of ⟨rfl, rfl, rfl, rfl, rfl, rfl, trivial⟩
    · refine .exit rfl (.code (.seq (.seq (.keep [(0, _), (7, _), (8, _)] ⟨rfl, rfl, rfl, trivial⟩ (.region ?_)))))
      refine .p rfl rfl (.as rfl) ?_
      refine .nil (.code (.block ?_))
      refine .loop (S := Nat) (fun s => [(0, i64 (f0 : Int)), (7, .bool true), (8, .slice a20 F.length c20), (12, i64 s)]) (fun s => w40) (fun s => s ≤ F.length) (fun s => F.length - s) 0 ⟨rfl, rfl, rfl, rfl, trivial⟩ rfl (Nat.zero_le _) ?_
      intro i J hi' again
      refine .seq (.seq (.region ?_))
      refine .p rfl rfl (.mv rfl) ?_
      refine .p rfl rfl (.mv rfl) ?_
      refine .p rfl rfl (.len rfl rfl) ?_
      refine .p rfl rfl (.lt rfl rfl) ?_
      refine .nil (.code (.keep [(68, _), (0, _), (7, _), (8, _), (12, _)] ⟨rfl, rfl, rfl, rfl, rfl, trivial⟩ ?_))
      refine .condD rfl (fun c68 => ?_) (fun c68 => ?_)
      · have hi : i < F.length := by omega
        obtain ⟨b1, o1, q1, ue, e, hb1, hcs, hre⟩ := Sl.at Rg (List.getElem?_eq_getElem hi)
        cases e
        obtain ⟨rfl, hr1, hr2⟩ := tPiece.val hre
        obtain ⟨hq1, hq2, hq3, hq4, hq5⟩ := hFin F[i] (List.getElem_mem hi)
        refine .skip (.code (.seq (.block (.seq (.keep [(0, _), (7, _), (8, _), (12, _)] ⟨rfl, rfl, rfl, rfl, trivial⟩ (.draws (by kernel_rfl) (by kernel_rfl) ?_))))))
        refine .p rfl rfl (.mv rfl) ?_
        refine .p rfl rfl (.mv rfl) ?_
        refine .p rfl rfl (.indexAddr (s := 2) rfl rfl rfl rfl (by omega)) ?_
        refine .p rfl rfl (.fieldAddr rfl rfl rfl rfl) ?_
        refine .p rfl rfl (.load rfl rfl rfl (hcs 1 _ rfl)) ?_
        refine .p rfl rfl (.lt rfl rfl) ?_
        refine .p rfl rfl (.mv rfl) ?_
        refine .caseD 77 rfl (fun c77 => ?_) (fun c77 => ?_)
        · exact absurd c77 (by omega)
        · refine .p rfl rfl (.mv rfl) ?_
          refine .p rfl rfl (.mv rfl) ?_
          refine .p rfl rfl (.indexAddr (s := 2) rfl rfl rfl rfl (by omega)) ?_
          refine .p rfl rfl (.fieldAddr rfl rfl rfl rfl) ?_
          refine .p rfl rfl (.load rfl rfl rfl (hcs 0 _ rfl)) ?_
          refine .p rfl rfl (.mv rfl) ?_
          refine .p rfl rfl (.lt rfl rfl) ?_
          refine .p rfl rfl (.pickF rfl rfl) ?_
          refine .p rfl rfl (.mv rfl) ?_
          refine .caseD 86 rfl (fun c86 => ?_) (fun c86 => ?_)
          · exact absurd c86 (by omega)
          · refine .p rfl rfl (.mv rfl) ?_
            refine .p rfl rfl (.gt rfl rfl) ?_
            refine .p rfl rfl (.mv rfl) ?_
            refine .caseD 89 rfl (fun c89 => ?_) (fun c89 => ?_)
            · have h0 : 0 < i := by omega
              obtain ⟨b2, o2, q2, ue2, e2, hb2, hcp, hrp⟩ := Sl.at Rg (i := i - 1) (List.getElem?_eq_getElem (by omega))
              cases e2
              obtain ⟨rfl, hp1, hp2⟩ := tPiece.val hrp
              have eix : ((i : Int) - 1).toNat = i - 1 := by omega
              obtain ⟨hk1, hk2, hk3, hk4, hk5⟩ := hFin F[i - 1] (List.getElem_mem (by omega))
              have hsp := List.pairwise_iff_getElem.1 hR.sep (i - 1) i (by omega) hi (by omega)
              refine .p rfl rfl (.mv rfl) ?_
              refine .p rfl rfl (.mv rfl) ?_
              refine .p rfl rfl (.sub rfl rfl (by omega)) ?_
              refine .p rfl rfl (.indexAddr (s := 2) rfl rfl rfl rfl (by omega)) ?_
              refine .p rfl rfl (.fieldAddr rfl rfl rfl rfl) ?_
              refine .p rfl rfl (.load rfl rfl rfl (by rw [eix]; exact hcp 0 _ rfl)) ?_
              refine .p rfl rfl (.mv rfl) ?_
              refine .p rfl rfl (.mv rfl) ?_
              refine .p rfl rfl (.sub rfl rfl (by omega)) ?_
              refine .p rfl rfl (.indexAddr (s := 2) rfl rfl rfl rfl (by omega)) ?_
              refine .p rfl rfl (.fieldAddr rfl rfl rfl rfl) ?_
              refine .p rfl rfl (.load rfl rfl rfl (by rw [eix]; exact hcp 1 _ rfl)) ?_
              refine .p rfl rfl (.add rfl rfl (by omega)) ?_
              refine .p rfl rfl (.mv rfl) ?_
              refine .p rfl rfl (.mv rfl) ?_
              refine .p rfl rfl (.indexAddr (s := 2) rfl rfl rfl rfl (by omega)) ?_
              refine .p rfl rfl (.fieldAddr rfl rfl rfl rfl) ?_
              refine .p rfl rfl (.load rfl rfl rfl (hcs 0 _ rfl)) ?_
              refine .p rfl rfl (.ge rfl rfl) ?_
              refine .p rfl rfl (.pickT rfl rfl) ?_
              refine .p rfl rfl (.pickF rfl rfl) ?_
              refine .nil (.code (.keep [(110, _), (0, _), (7, _), (8, _), (12, _)] ⟨rfl, rfl, rfl, rfl, rfl, trivial⟩ ?_))
              refine .condD rfl (fun c110 => ?_) (fun c110 => ?_)
              · exact absurd c110 (by omega)
              · refine .skip (.blk (.code (.keep [(0, _), (7, _), (8, _), (12, _)] ⟨rfl, rfl, rfl, rfl, trivial⟩ (.region ?_))))
                refine .p rfl rfl (.mv rfl) ?_
                refine .p rfl rfl (.add rfl rfl (by omega)) ?_
                refine .p rfl rfl (.as rfl) ?_
                refine .nil ?_
                exact (again (i + 1) (by show i + 1 ≤ _; omega) (by show _ - (i + 1) < _ - i; omega)).of ⟨rfl, rfl, rfl, rfl, trivial⟩
            · refine .skip rfl rfl ?_
              refine .skip rfl rfl ?_
              refine .skip rfl rfl ?_
              refine .skip rfl rfl ?_
              refine .skip rfl rfl ?_
              refine .skip rfl rfl ?_
              refine .skip rfl rfl ?_
              refine .skip rfl rfl ?_
              refine .skip rfl rfl ?_
              refine .skip rfl rfl ?_
              refine .skip rfl rfl ?_
              refine .skip rfl rfl ?_
              refine .skip rfl rfl ?_
              refine .skip rfl rfl ?_
              refine .skip rfl rfl ?_
              refine .skip rfl rfl ?_
              refine .skip rfl rfl ?_
              refine .skip rfl rfl ?_
              refine .skip rfl rfl ?_
              refine .p rfl rfl (.pickF rfl rfl) ?_
              refine .p rfl rfl (.pickF rfl rfl) ?_
              refine .nil (.code (.keep [(110, _), (0, _), (7, _), (8, _), (12, _)] ⟨rfl, rfl, rfl, rfl, rfl, trivial⟩ (.condF rfl (.skip (.blk (.code (.keep [(0, _), (7, _), (8, _), (12, _)] ⟨rfl, rfl, rfl, rfl, trivial⟩ (.region ?_))))))))
              refine .p rfl rfl (.mv rfl) ?_
              refine .p rfl rfl (.add rfl rfl (by omega)) ?_
              refine .p rfl rfl (.as rfl) ?_
              refine .nil ?_
              exact (again (i + 1) (by show i + 1 ≤ _; omega) (by show _ - (i + 1) < _ - i; omega)).of ⟨rfl, rfl, rfl, rfl, trivial⟩
      · refine .exit rfl (.code (.seq (.keep [(7, _)] ⟨rfl, trivial⟩ (.region ?_))))
        refine .p rfl rfl (.mv rfl) ?_
        refine .p rfl rfl (.as rfl) ?_
        refine .nil (.code ?_)
        refine .ret _ rfl ?_
        exact ⟨rfl, Z40⟩
end Go.Proofs.Ytagjfplipknlkaa
