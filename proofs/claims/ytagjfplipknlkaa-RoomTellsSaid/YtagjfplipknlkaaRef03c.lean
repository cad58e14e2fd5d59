
/-
  Package docketref03: what it answers.
-/
import Derived.Test.YtagjfplipknlkaaRef03b
set_option linter.unusedVariables false
set_option linter.unusedSimpArgs false
set_option maxRecDepth 20000
namespace Go.Proofs.Ytagjfplipknlkaa
open Go room
namespace room
theorem free_all {f n : Nat} {l : List Piece} (h : freeE (f : Int) (n : Int) l = 0) : takeF (runsTo (fun k => !covB l k) f (n - f)) 4096 = freeL (f : Int) (n : Int) l := by
  obtain ⟨i1, i2, i3, _⟩ := freeE_in h
  rw [freeL_ok h]
  exact take_all (fun p hp => ((runs_ok _ f (n - f)).pos p hp).1) (total_in (N := 4096) (by omega))
theorem join_all (l : List Piece) : takeF (runsTo (covB l) 0 (4096 - 0)) 4096 = joinF l := take_all (fun p hp => ((runs_ok _ 0 4096).pos p hp).1) (total_in (N := 4096) (by omega))
end room
theorem asked_fn {w : World} {v : Value} {l : List Piece} {first count : Int} (h : (Sl tPiece).rep All w v l) : Fn Try.prog 30 [i64 first, i64 count, v] w (fun r w2 => r = i64 (freeE first count l) ∧ Ext (fun _ => False) w w2) := by
  refine Fn.enter (fun w => Try.call30 _ w) Try.func30 rfl ?_
  refine .seq (.region ?_)
  refine .p rfl rfl (.as rfl) ?_
  refine .nil (.code (.seq (.seq (.keep [(0, _), (1, _), (2, _)] ⟨rfl, rfl, rfl, trivial⟩ (.region ?_)))))
  refine .p rfl rfl (.mv rfl) ?_
  refine .p rfl rfl (.lt rfl rfl) ?_
  refine .p rfl rfl (.mv rfl) ?_
  refine .caseD 9 rfl (fun c9 => ?_) (fun c9 => ?_)
  · refine .skip rfl rfl ?_
    refine .skip rfl rfl ?_
    refine .p rfl rfl (.pickT rfl rfl) ?_
    refine .p rfl rfl (.mv rfl) ?_
    refine .skip rfl rfl ?_
    refine .skip rfl rfl ?_
    refine .p rfl rfl (.pickT rfl rfl) ?_
    refine .p rfl rfl (.mv rfl) ?_
    refine .skip rfl rfl ?_
    refine .skip rfl rfl ?_
    refine .skip rfl rfl ?_
    refine .p rfl rfl (.pickT rfl rfl) ?_
    refine .nil (.code (.keep [(21, _), (1, _), (2, _)] ⟨rfl, rfl, rfl, trivial⟩ (.condT rfl (.seq (.keep [] trivial (.region ?_))))))
    refine .p rfl rfl (.as rfl) ?_
    refine .nil (.code ?_)
    refine .ret _ rfl ?_
    rw [freeE_2 (by omega)]
    exact ⟨rfl, .refl _⟩
  · refine .p rfl rfl (.mv rfl) ?_
    refine .p rfl rfl (.gt rfl rfl) ?_
    refine .p rfl rfl (.pickF rfl rfl) ?_
    refine .p rfl rfl (.mv rfl) ?_
    refine .caseD 13 rfl (fun c13 => ?_) (fun c13 => ?_)
    · refine .skip rfl rfl ?_
      refine .skip rfl rfl ?_
      refine .p rfl rfl (.pickT rfl rfl) ?_
      refine .p rfl rfl (.mv rfl) ?_
      refine .skip rfl rfl ?_
      refine .skip rfl rfl ?_
      refine .skip rfl rfl ?_
      refine .p rfl rfl (.pickT rfl rfl) ?_
      refine .nil (.code (.keep [(21, _), (1, _), (2, _)] ⟨rfl, rfl, rfl, trivial⟩ (.condT rfl (.seq (.keep [] trivial (.region ?_))))))
      refine .p rfl rfl (.as rfl) ?_
      refine .nil (.code ?_)
      refine .ret _ rfl ?_
      rw [freeE_2 (by omega)]
      exact ⟨rfl, .refl _⟩
    · refine .p rfl rfl (.mv rfl) ?_
      refine .p rfl rfl (.lt rfl rfl) ?_
      refine .p rfl rfl (.pickF rfl rfl) ?_
      refine .p rfl rfl (.mv rfl) ?_
      refine .caseD 17 rfl (fun c17 => ?_) (fun c17 => ?_)
      · refine .skip rfl rfl ?_
        refine .skip rfl rfl ?_
        refine .skip rfl rfl ?_
        refine .p rfl rfl (.pickT rfl rfl) ?_
        refine .nil (.code (.keep [(21, _), (1, _), (2, _)] ⟨rfl, rfl, rfl, trivial⟩ (.condT rfl (.seq (.keep [] trivial (.region ?_))))))
        refine .p rfl rfl (.as rfl) ?_
        refine .nil (.code ?_)
        refine .ret _ rfl ?_
        rw [freeE_2 (by omega)]
        exact ⟨rfl, .refl _⟩
      · refine .p rfl rfl (.mv rfl) ?_
        refine .p rfl rfl (.mv rfl) ?_
        refine .p rfl rfl (.gt rfl rfl) ?_
        refine .p rfl rfl (.pickF rfl rfl) ?_
        refine .nil (.code (.keep [(21, _), (1, _), (2, _)] ⟨rfl, rfl, rfl, trivial⟩ ?_))
        refine .condD rfl (fun c21 => ?_) (fun c21 => ?_)
        · refine .seq (.keep [] trivial (.region ?_))
          refine .p rfl rfl (.as rfl) ?_
          refine .nil (.code ?_)
          refine .ret _ rfl ?_
          rw [freeE_2 (by omega)]
          exact ⟨rfl, .refl _⟩
        · refine .skip (.code (.seq (.keep [(1, _), (2, _)] ⟨rfl, rfl, trivial⟩ (.region ?_))))
          refine .p rfl rfl (.mv rfl) ?_
          refine .p rfl rfl (.mv rfl) ?_
          refine .call (first := []) (captured := []) rfl rfl rfl rfl (RefCheck_fn h) ?_
          rintro _ w24 ⟨rfl, X24⟩
          refine .p rfl rfl (.as rfl) ?_
          refine .nil (.code ?_)
          refine .ret _ rfl ?_
          rw [freeE_c (by omega)]
          exact ⟨rfl, X24⟩
theorem RefFree_fn {w : World} {v : Value} {l : List Piece} {first count : Int} (h : (Sl tPiece).rep All w v l) : Fn Try.prog 20 [i64 first, i64 count, v] w (fun r w2 => ∃ v', r = .tuple #[v', i64 (freeE first count l)] ∧ OwnO tPiece (fun _ => False) 30 w2 v' (freeL first count l) (fun k => w.heap.size ≤ k) ∧ Ext (fun _ => False) w w2) := by
  refine Fn.enter (fun w => Try.call20 _ w) Try.func20 rfl ?_
  refine .seq (.region ?_)
  refine .p rfl rfl (.as rfl) ?_
  refine .p rfl rfl (.as rfl) ?_
  refine .nil (.code (.seq (.keep [(0, _), (1, _), (2, _)] ⟨rfl, rfl, rfl, trivial⟩ (.region ?_))))
  refine .p rfl rfl (.mv rfl) ?_
  refine .p rfl rfl (.mv rfl) ?_
  refine .p rfl rfl (.mv rfl) ?_
  refine .call (first := []) (captured := []) rfl rfl rfl rfl (asked_fn h) ?_
  rintro _ w14 ⟨rfl, X14⟩
  refine .p rfl rfl (.as rfl) ?_
  refine .nil (.code (.seq (.seq (.keep [(8, _), (0, _), (1, _), (2, _)] ⟨rfl, rfl, rfl, rfl, trivial⟩ (.region ?_)))))
  refine .p rfl rfl (.mv rfl) ?_
  refine .p rfl rfl (.ne rfl rfl) ?_
  refine .nil (.code (.keep [(16, _), (8, _), (0, _), (1, _), (2, _)] ⟨rfl, rfl, rfl, rfl, rfl, trivial⟩ ?_))
  refine .condD rfl (fun c16 => ?_) (fun c16 => ?_)
  · refine .seq (.keep [(8, _)] ⟨rfl, trivial⟩ (.region ?_))
    refine .p rfl rfl (.mv rfl) ?_
    refine .p rfl rfl (.as rfl) ?_
    refine .p rfl rfl (.as rfl) ?_
    refine .nil (.code ?_)
    refine .ret _ rfl ?_
    rw [freeL_bad c16]
    exact ⟨_, rfl, OwnO.nil, X14⟩
  · have hz : freeE first count l = 0 := Decidable.not_not.1 c16
    obtain ⟨i1, i2, i3, hck⟩ := freeE_in hz
    obtain ⟨_, _, hll, hmay⟩ := check_ok hck
    obtain ⟨f0, rfl⟩ := Int.eq_ofNat_of_zero_le i1
    obtain ⟨n0, rfl⟩ := Int.eq_ofNat_of_zero_le (show 0 ≤ count by omega)
    refine .skip (.code (.seq (.keep [(0, _), (1, _), (2, _)] ⟨rfl, rfl, rfl, trivial⟩ (.region ?_))))
    refine .p rfl rfl (.mv rfl) ?_
    refine .p rfl rfl (.mv rfl) ?_
    refine .call (first := []) (captured := []) rfl rfl rfl rfl (taken_fn (n := n0) ((Sl tPiece).ext0 h X14) (by omega)) ?_
    rintro _ w21 ⟨v21, rfl, hB21, X21⟩
    obtain ⟨rfl, B21⟩ := hB21 hmay
    refine .p rfl rfl (.mv rfl) ?_
    refine .p rfl rfl (.extract rfl rfl) ?_
    refine .p rfl rfl (.extract rfl rfl) ?_
    refine .p rfl rfl (.as rfl) ?_
    refine .p rfl rfl (.as rfl) ?_
    refine .nil (.code (.seq (.keep [(9, _), (0, _)] ⟨rfl, rfl, trivial⟩ (.region ?_))))
    refine .p rfl rfl (.mv rfl) ?_
    refine .p rfl rfl (.mv rfl) ?_
    refine .call (first := []) (captured := []) rfl rfl rfl rfl (runs_fn (f := covB l) (g := fun k => !covB l k) (want := false) (m := 4096) B21 (fun k => by cases covB l k <;> rfl) (by omega) (by omega) (by decide)) ?_
    rintro r26 w26 ⟨O26, X26⟩
    rw [free_all hz] at O26
    refine .p rfl rfl (.as rfl) ?_
    refine .p rfl rfl (.as rfl) ?_
    refine .nil (.code ?_)
    refine .ret _ rfl ?_
    rw [hz]
    exact ⟨_, rfl, OwnO.mono O26 (fun _ h _ => h) (fun k hk _ => Nat.le_trans (X14.trans X21).size hk), (X14.trans X21).trans X26⟩
theorem RefTake_fn {w : World} {v : Value} {l : List Piece} {first count many : Int} (h : (Sl tPiece).rep All w v l) : Fn Try.prog 22 [i64 first, i64 count, v, i64 many] w (fun r w2 => ∃ v', r = .tuple #[v', i64 (takeE first count l many)] ∧ OwnO tPiece (fun _ => False) 30 w2 v' (takeL first count l many) (fun k => w.heap.size ≤ k) ∧ Ext (fun _ => False) w w2) := by
  refine Fn.enter (fun w => Try.call22 _ w) Try.func22 rfl ?_
  refine .seq (.region ?_)
  refine .p rfl rfl (.as rfl) ?_
  refine .p rfl rfl (.as rfl) ?_
  refine .nil (.code (.seq (.seq (.keep [(0, _), (1, _), (2, _), (3, _)] ⟨rfl, rfl, rfl, rfl, trivial⟩ (.region ?_)))))
  refine .p rfl rfl (.mv rfl) ?_
  refine .p rfl rfl (.lt rfl rfl) ?_
  refine .p rfl rfl (.mv rfl) ?_
  refine .caseD 18 rfl (fun c18 => ?_) (fun c18 => ?_)
  · refine .skip rfl rfl ?_
    refine .skip rfl rfl ?_
    refine .p rfl rfl (.pickT rfl rfl) ?_
    refine .nil (.code (.keep [(21, _), (0, _), (1, _), (2, _), (3, _)] ⟨rfl, rfl, rfl, rfl, rfl, trivial⟩ (.condT rfl (.seq (.keep [] trivial (.region ?_))))))
    refine .p rfl rfl (.as rfl) ?_
    refine .p rfl rfl (.as rfl) ?_
    refine .nil (.code ?_)
    refine .ret _ rfl ?_
    rw [takeL_bad (by rw [takeE_2 (by omega)]; decide), takeE_2 (by omega)]
    exact ⟨_, rfl, OwnO.nil, .refl _⟩
  · refine .p rfl rfl (.mv rfl) ?_
    refine .p rfl rfl (.gt rfl rfl) ?_
    refine .p rfl rfl (.pickF rfl rfl) ?_
    refine .nil (.code (.keep [(21, _), (0, _), (1, _), (2, _), (3, _)] ⟨rfl, rfl, rfl, rfl, rfl, trivial⟩ ?_))
    refine .condD rfl (fun c21 => ?_) (fun c21 => ?_)
    · refine .seq (.keep [] trivial (.region ?_))
      refine .p rfl rfl (.as rfl) ?_
      refine .p rfl rfl (.as rfl) ?_
      refine .nil (.code ?_)
      refine .ret _ rfl ?_
      rw [takeL_bad (by rw [takeE_2 (by omega)]; decide), takeE_2 (by omega)]
      exact ⟨_, rfl, OwnO.nil, .refl _⟩
    · refine .skip (.code (.seq (.keep [(0, _), (1, _), (2, _), (3, _)] ⟨rfl, rfl, rfl, rfl, trivial⟩ (.region ?_))))
      refine .p rfl rfl (.mv rfl) ?_
      refine .p rfl rfl (.mv rfl) ?_
      refine .p rfl rfl (.mv rfl) ?_
      refine .call (first := []) (captured := []) rfl rfl rfl rfl (asked_fn h) ?_
      rintro _ w25 ⟨rfl, X25⟩
      refine .p rfl rfl (.as rfl) ?_
      refine .nil (.code (.seq (.seq (.keep [(10, _), (0, _), (1, _), (2, _), (3, _)] ⟨rfl, rfl, rfl, rfl, rfl, trivial⟩ (.region ?_)))))
      refine .p rfl rfl (.mv rfl) ?_
      refine .p rfl rfl (.ne rfl rfl) ?_
      refine .nil (.code (.keep [(27, _), (10, _), (0, _), (1, _), (2, _), (3, _)] ⟨rfl, rfl, rfl, rfl, rfl, rfl, trivial⟩ ?_))
      refine .condD rfl (fun c27 => ?_) (fun c27 => ?_)
      · refine .seq (.keep [(10, _)] ⟨rfl, trivial⟩ (.region ?_))
        refine .p rfl rfl (.mv rfl) ?_
        refine .p rfl rfl (.as rfl) ?_
        refine .p rfl rfl (.as rfl) ?_
        refine .nil (.code ?_)
        refine .ret _ rfl ?_
        rw [takeL_bad (by rw [takeE_e (by omega) c27]; exact c27), takeE_e (by omega) c27]
        exact ⟨_, rfl, OwnO.nil, X25⟩
      · have hz : freeE first count l = 0 := Decidable.not_not.1 c27
        obtain ⟨i1, i2, i3, hck⟩ := freeE_in hz
        obtain ⟨_, _, hll, hmay⟩ := check_ok hck
        obtain ⟨f0, rfl⟩ := Int.eq_ofNat_of_zero_le i1
        obtain ⟨n0, rfl⟩ := Int.eq_ofNat_of_zero_le (show 0 ≤ count by omega)
        refine .skip (.code (.seq (.keep [(0, _), (1, _), (2, _), (3, _)] ⟨rfl, rfl, rfl, rfl, trivial⟩ (.region ?_))))
        refine .p rfl rfl (.mv rfl) ?_
        refine .p rfl rfl (.mv rfl) ?_
        refine .call (first := []) (captured := []) rfl rfl rfl rfl (taken_fn (n := n0) ((Sl tPiece).ext0 h X25) (by omega)) ?_
        rintro _ w32 ⟨v32, rfl, hB32, X32⟩
        obtain ⟨rfl, B32⟩ := hB32 hmay
        refine .p rfl rfl (.mv rfl) ?_
        refine .p rfl rfl (.extract rfl rfl) ?_
        refine .p rfl rfl (.extract rfl rfl) ?_
        refine .p rfl rfl (.as rfl) ?_
        refine .p rfl rfl (.as rfl) ?_
        refine .nil (.code (.seq (.keep [(11, _), (0, _), (3, _)] ⟨rfl, rfl, rfl, trivial⟩ (.region ?_))))
        refine .p rfl rfl (.mv rfl) ?_
        refine .p rfl rfl (.mv rfl) ?_
        refine .p rfl rfl (.mv rfl) ?_
        refine .call (first := []) (captured := []) rfl rfl rfl rfl (runs_fn (f := covB l) (g := fun k => !covB l k) (want := false) (m := many) B32 (fun k => by cases covB l k <;> rfl) (by omega) (by omega) (by omega)) ?_
        rintro r38 w38 ⟨O38, X38⟩
        have hF : runsTo (fun k => !covB l k) f0 (n0 - f0) = freeL (f0 : Int) (n0 : Int) l := (freeL_ok hz).symm
        have htl := total_take_lt (f := fun k => !covB l k) (a := f0) (n := n0 - f0) (m := many) (by omega)
        have htle := take_length (runsTo (fun k => !covB l k) f0 (n0 - f0)) many
        have hfl := runs_length (fun k => !covB l k) f0 (n0 - f0)
        have hpos : ∀ p ∈ takeF (runsTo (fun k => !covB l k) f0 (n0 - f0)) many, 0 ≤ p.ct ∧ p.ct ≤ 4096 := take_ct (by omega) (fun p hp => by have := (runs_ok (fun k => !covB l k) f0 (n0 - f0)).pos p hp; omega)
        rw [hF] at O38 htl htle hpos hfl
        generalize hQ : takeF (freeL (f0 : Int) (n0 : Int) l) many = Q at O38 htl htle hpos
        obtain ⟨a38, c38, rfl, hc38⟩ := OwnO.val O38
        have R38 := OwnO.rep O38 (R := All) (fun _ _ _ => trivial) (fun _ h _ => h.elim)
        have Z38 := (X25.trans X32).trans X38
        refine .p rfl rfl (.as rfl) ?_
        refine .nil (.code (.seq (.keep [(13, _), (3, _)] ⟨rfl, rfl, trivial⟩ (.region ?_))))
        refine .p rfl rfl (.as rfl) ?_
        refine .nil (.code (.seq (.seq (.region ?_))))
        refine .p rfl rfl (.as rfl) ?_
        refine .nil (.code (.block ?_))
        refine .loop (S := Nat) (fun s => [(3, i64 many), (13, .slice a38 Q.length c38), (14, i64 (totalF (Q.take s))), (15, i64 s)]) (fun s => w38) (fun s => s ≤ Q.length) (fun s => Q.length - s) 0 ⟨rfl, rfl, rfl, rfl, trivial⟩ rfl (Nat.zero_le _) ?_
        intro i J hi' again
        refine .seq (.seq (.region ?_))
        refine .p rfl rfl (.mv rfl) ?_
        refine .p rfl rfl (.mv rfl) ?_
        refine .p rfl rfl (.len rfl rfl) ?_
        refine .p rfl rfl (.lt rfl rfl) ?_
        refine .nil (.code (.keep [(42, _), (3, _), (13, _), (14, _), (15, _)] ⟨rfl, rfl, rfl, rfl, rfl, trivial⟩ ?_))
        refine .condD rfl (fun c42 => ?_) (fun c42 => ?_)
        · have hi : i < Q.length := by omega
          obtain ⟨b1, o1, q1, ue, e, _, hcs, hre⟩ := Sl.at R38 (List.getElem?_eq_getElem hi)
          cases e
          obtain ⟨rfl, hr1, hr2⟩ := tPiece.val hre
          have ht := total_bd (M := 4096) (by decide) (l := Q.take i) (fun p hp => hpos p (List.mem_of_mem_take hp))
          have hl0 := hpos Q[i] (List.getElem_mem hi)
          have hle : (Q.take i).length ≤ Q.length := by rw [List.length_take]; omega
          refine .skip (.code (.seq (.block (.keep [(3, _), (13, _), (14, _), (15, _)] ⟨rfl, rfl, rfl, rfl, trivial⟩ (.region ?_)))))
          refine .p rfl rfl (.mv rfl) ?_
          refine .p rfl rfl (.mv rfl) ?_
          refine .p rfl rfl (.mv rfl) ?_
          refine .p rfl rfl (.indexAddr (s := 2) rfl rfl rfl rfl (by omega)) ?_
          refine .p rfl rfl (.fieldAddr rfl rfl rfl rfl) ?_
          refine .p rfl rfl (.load rfl rfl rfl (hcs 1 _ rfl)) ?_
          refine .p rfl rfl (.cast (.add rfl rfl (by omega)) (show i64 (totalF (Q.take i) + Q[i].ct) = i64 (totalF (Q.take (i + 1))) by rw [total_take hi])) ?_
          refine .p rfl rfl (.as rfl) ?_
          refine .nil (.blk (.code (.keep [(14, _), (3, _), (13, _), (15, _)] ⟨rfl, rfl, rfl, rfl, trivial⟩ (.region ?_))))
          refine .p rfl rfl (.mv rfl) ?_
          refine .p rfl rfl (.add rfl rfl (by omega)) ?_
          refine .p rfl rfl (.as rfl) ?_
          refine .nil ?_
          exact (again (i + 1) (by show i + 1 ≤ _; omega) (by show _ - (i + 1) < _ - i; omega)).of ⟨rfl, rfl, rfl, rfl, trivial⟩
        · obtain rfl : i = Q.length := by omega
          rw [List.take_length]
          refine .exit rfl (.code (.seq (.seq (.keep [(3, _), (13, _), (14, _)] ⟨rfl, rfl, rfl, trivial⟩ (.region ?_)))))
          refine .p rfl rfl (.mv rfl) ?_
          refine .p rfl rfl (.mv rfl) ?_
          refine .p rfl rfl (.lt rfl rfl) ?_
          refine .nil (.code (.keep [(54, _), (13, _)] ⟨rfl, rfl, trivial⟩ ?_))
          refine .condD rfl (fun c54 => ?_) (fun c54 => ?_)
          · refine .seq (.keep [] trivial (.region ?_))
            refine .p rfl rfl (.as rfl) ?_
            refine .p rfl rfl (.as rfl) ?_
            refine .nil (.code ?_)
            refine .ret _ rfl ?_
            rw [takeL_bad (by rw [takeE_30 (by omega) hz (htl.1 c54)]; decide), takeE_30 (by omega) hz (htl.1 c54)]
            exact ⟨_, rfl, OwnO.nil, Z38⟩
          · refine .skip (.code (.seq (.keep [(13, _)] ⟨rfl, trivial⟩ (.region ?_))))
            refine .p rfl rfl (.mv rfl) ?_
            refine .p rfl rfl (.as rfl) ?_
            refine .p rfl rfl (.as rfl) ?_
            refine .nil (.code ?_)
            refine .ret _ rfl ?_
            have hte := takeE_0 (many := many) (by omega) hz (fun hh => c54 (htl.2 hh))
            rw [takeL_ok hte, hQ, hte]
            exact ⟨_, rfl, OwnO.mono O38 (fun _ h _ => h) (fun k hk _ => Nat.le_trans (X25.trans X32).size hk), Z38⟩
theorem RefMany_fn {w : World} {v : Value} {l : List Piece} (h : (Sl tPiece).rep All w v l) : Fn Try.prog 13 [v] w (fun r w2 => r = .tuple #[i64 (if checkR 4096 l = 0 then totalF l else 0), i64 (checkR 4096 l)] ∧ Ext (fun _ => False) w w2) := by
  obtain ⟨a, cap, rfl, hcap⟩ := Sl.val h
  refine Fn.enter (fun w => Try.call13 _ w) Try.func13 rfl ?_
  refine .seq (.region ?_)
  refine .p rfl rfl (.as rfl) ?_
  refine .p rfl rfl (.as rfl) ?_
  refine .nil (.code (.seq (.keep [(0, _)] ⟨rfl, trivial⟩ (.region ?_))))
  refine .p rfl rfl (.mv rfl) ?_
  refine .call (first := []) (captured := []) rfl rfl rfl rfl (RefCheck_fn h) ?_
  rintro _ w8 ⟨rfl, X8⟩
  refine .p rfl rfl (.as rfl) ?_
  refine .nil (.code (.seq (.seq (.keep [(4, _), (0, _)] ⟨rfl, rfl, trivial⟩ (.region ?_)))))
  refine .p rfl rfl (.mv rfl) ?_
  refine .p rfl rfl (.ne rfl rfl) ?_
  refine .nil (.code (.keep [(10, _), (4, _), (0, _)] ⟨rfl, rfl, rfl, trivial⟩ ?_))
  refine .condD rfl (fun c10 => ?_) (fun c10 => ?_)
  · refine .seq (.keep [(4, _)] ⟨rfl, trivial⟩ (.region ?_))
    refine .p rfl rfl (.mv rfl) ?_
    refine .p rfl rfl (.as rfl) ?_
    refine .p rfl rfl (.as rfl) ?_
    refine .nil (.code ?_)
    refine .ret _ rfl ?_
    rw [if_neg c10]
    exact ⟨rfl, X8⟩
  · have hz : checkR 4096 l = 0 := Decidable.not_not.1 c10
    obtain ⟨_, _, hll, hmay⟩ := check_ok hz
    have hpos : ∀ p ∈ l, 0 ≤ p.ct ∧ p.ct ≤ 4096 := fun p hp => by have := hmay.1 p hp; unfold okP at this; omega
    refine .skip (.code (.seq (.keep [(0, _)] ⟨rfl, trivial⟩ (.region ?_))))
    refine .p rfl rfl (.as rfl) ?_
    refine .nil (.code (.seq (.seq (.region ?_))))
    refine .p rfl rfl (.as rfl) ?_
    refine .nil (.code (.block ?_))
    refine .loop (S := Nat) (fun s => [(0, .slice a l.length cap), (5, i64 (totalF (l.take s))), (6, i64 s)]) (fun s => w8) (fun s => s ≤ l.length) (fun s => l.length - s) 0 ⟨rfl, rfl, rfl, trivial⟩ rfl (Nat.zero_le _) ?_
    intro i J hi' again
    refine .seq (.seq (.region ?_))
    refine .p rfl rfl (.mv rfl) ?_
    refine .p rfl rfl (.mv rfl) ?_
    refine .p rfl rfl (.len rfl rfl) ?_
    refine .p rfl rfl (.lt rfl rfl) ?_
    refine .nil (.code (.keep [(15, _), (0, _), (5, _), (6, _)] ⟨rfl, rfl, rfl, rfl, trivial⟩ ?_))
    refine .condD rfl (fun c15 => ?_) (fun c15 => ?_)
    · have hi : i < l.length := by omega
      obtain ⟨b1, o1, q1, ue, e, _, hcs, hre⟩ := Sl.at h (List.getElem?_eq_getElem hi)
      cases e
      obtain ⟨rfl, hr1, hr2⟩ := tPiece.val hre
      have ht := total_bd (M := 4096) (by decide) (l := l.take i) (fun p hp => hpos p (List.mem_of_mem_take hp))
      have hl0 := hpos l[i] (List.getElem_mem hi)
      have hle : (l.take i).length ≤ l.length := by rw [List.length_take]; omega
      refine .skip (.code (.seq (.block (.keep [(0, _), (5, _), (6, _)] ⟨rfl, rfl, rfl, trivial⟩ (.region ?_)))))
      refine .p rfl rfl (.mv rfl) ?_
      refine .p rfl rfl (.mv rfl) ?_
      refine .p rfl rfl (.mv rfl) ?_
      refine .p rfl rfl (.indexAddr (s := 2) rfl rfl rfl rfl (by omega)) ?_
      refine .p rfl rfl (.fieldAddr rfl rfl rfl rfl) ?_
      refine .p rfl rfl (.load rfl rfl rfl ((hcs.ext X8 (fun x => x)) 1 _ rfl)) ?_
      refine .p rfl rfl (.cast (.add rfl rfl (by omega)) (show i64 (totalF (l.take i) + l[i].ct) = i64 (totalF (l.take (i + 1))) by rw [total_take hi])) ?_
      refine .p rfl rfl (.as rfl) ?_
      refine .nil (.blk (.code (.keep [(5, _), (0, _), (6, _)] ⟨rfl, rfl, rfl, trivial⟩ (.region ?_))))
      refine .p rfl rfl (.mv rfl) ?_
      refine .p rfl rfl (.add rfl rfl (by omega)) ?_
      refine .p rfl rfl (.as rfl) ?_
      refine .nil ?_
      exact (again (i + 1) (by show i + 1 ≤ _; omega) (by show _ - (i + 1) < _ - i; omega)).of ⟨rfl, rfl, rfl, trivial⟩
    · obtain rfl : i = l.length := by omega
      rw [List.take_length]
      refine .exit rfl (.code (.seq (.keep [(5, _)] ⟨rfl, trivial⟩ (.region ?_))))
      refine .p rfl rfl (.mv rfl) ?_
      refine .p rfl rfl (.as rfl) ?_
      refine .p rfl rfl (.as rfl) ?_
      refine .nil (.code ?_)
      refine .ret _ rfl ?_
      rw [if_pos hz, hz]
      exact ⟨rfl, X8⟩
theorem RefJoin_fn {w : World} {v : Value} {l : List Piece} (h : (Sl tPiece).rep All w v l) : Fn Try.prog 15 [v] w (fun r w2 => ∃ v', r = .tuple #[v', i64 (checkR 4096 l)] ∧ OwnO tPiece (fun _ => False) 30 w2 v' (if checkR 4096 l = 0 then joinF l else []) (fun k => w.heap.size ≤ k) ∧ Ext (fun _ => False) w w2) := by
  refine Fn.enter (fun w => Try.call15 _ w) Try.func15 rfl ?_
  refine .seq (.region ?_)
  refine .p rfl rfl (.as rfl) ?_
  refine .p rfl rfl (.as rfl) ?_
  refine .nil (.code (.seq (.keep [(0, _)] ⟨rfl, trivial⟩ (.region ?_))))
  refine .p rfl rfl (.mv rfl) ?_
  refine .call (first := []) (captured := []) rfl rfl rfl rfl (RefCheck_fn h) ?_
  rintro _ w8 ⟨rfl, X8⟩
  refine .p rfl rfl (.as rfl) ?_
  refine .nil (.code (.seq (.seq (.keep [(4, _), (0, _)] ⟨rfl, rfl, trivial⟩ (.region ?_)))))
  refine .p rfl rfl (.mv rfl) ?_
  refine .p rfl rfl (.ne rfl rfl) ?_
  refine .nil (.code (.keep [(10, _), (4, _), (0, _)] ⟨rfl, rfl, rfl, trivial⟩ ?_))
  refine .condD rfl (fun c10 => ?_) (fun c10 => ?_)
  · refine .seq (.keep [(4, _)] ⟨rfl, trivial⟩ (.region ?_))
    refine .p rfl rfl (.mv rfl) ?_
    refine .p rfl rfl (.as rfl) ?_
    refine .p rfl rfl (.as rfl) ?_
    refine .nil (.code ?_)
    refine .ret _ rfl ?_
    rw [if_neg c10]
    exact ⟨_, rfl, OwnO.nil, X8⟩
  · have hz : checkR 4096 l = 0 := Decidable.not_not.1 c10
    obtain ⟨_, _, hll, hmay⟩ := check_ok hz
    refine .skip (.code (.seq (.keep [(0, _)] ⟨rfl, trivial⟩ (.region ?_))))
    refine .p rfl rfl (.mv rfl) ?_
    refine .call (first := []) (captured := []) rfl rfl rfl rfl (taken_fn (n := 4096) ((Sl tPiece).ext0 h X8) (by omega)) ?_
    rintro _ w14 ⟨v14, rfl, hB14, X14⟩
    obtain ⟨rfl, B14⟩ := hB14 hmay
    refine .p rfl rfl (.mv rfl) ?_
    refine .p rfl rfl (.extract rfl rfl) ?_
    refine .p rfl rfl (.extract rfl rfl) ?_
    refine .p rfl rfl (.as rfl) ?_
    refine .p rfl rfl (.as rfl) ?_
    refine .nil (.code (.seq (.keep [(5, _)] ⟨rfl, trivial⟩ (.region ?_))))
    refine .p rfl rfl (.mv rfl) ?_
    refine .call (first := []) (captured := []) rfl rfl rfl rfl (runs_fn (f := covB l) (g := covB l) (a := 0) (want := true) (m := 4096) B14 (fun k => by cases covB l k <;> rfl) (by omega) (by omega) (by decide)) ?_
    rintro r18 w18 ⟨O18, X18⟩
    rw [join_all] at O18
    refine .p rfl rfl (.as rfl) ?_
    refine .p rfl rfl (.as rfl) ?_
    refine .nil (.code ?_)
    refine .ret _ rfl ?_
    rw [if_pos hz, hz]
    exact ⟨_, rfl, OwnO.mono O18 (fun _ h _ => h) (fun k hk _ => Nat.le_trans (X8.trans X14).size hk), (X8.trans X14).trans X18⟩
theorem RefSectors_fn {w : World} {v : Value} {l : List Piece} (h : (Sl tPiece).rep All w v l) : Fn Try.prog 17 [v] w (fun r w2 => ∃ v', r = .tuple #[v', i64 (checkR 4096 l)] ∧ OwnO tInt (fun _ => False) 3 w2 v' (if checkR 4096 l = 0 then sectF l else []) (fun k => w.heap.size ≤ k) ∧ Ext (fun _ => False) w w2) := by
  obtain ⟨a, cap, rfl, hcap⟩ := Sl.val h
  refine Fn.enter (fun w => Try.call17 _ w) Try.func17 rfl ?_
  refine .seq (.region ?_)
  refine .p rfl rfl (.as rfl) ?_
  refine .p rfl rfl (.as rfl) ?_
  refine .nil (.code (.seq (.keep [(0, _)] ⟨rfl, trivial⟩ (.region ?_))))
  refine .p rfl rfl (.mv rfl) ?_
  refine .call (first := []) (captured := []) rfl rfl rfl rfl (RefCheck_fn h) ?_
  rintro _ w9 ⟨rfl, X9⟩
  have R9 : (Sl tPiece).rep (fun k => k < w9.heap.size) w9 (.slice a l.length cap) l := (Sl tPiece).mono ((Sl tPiece).ext0 h X9) (fun k _ h => h)
  refine .p rfl rfl (.as rfl) ?_
  refine .nil (.code (.seq (.seq (.keep [(4, _), (0, _)] ⟨rfl, rfl, trivial⟩ (.region ?_)))))
  refine .p rfl rfl (.mv rfl) ?_
  refine .p rfl rfl (.ne rfl rfl) ?_
  refine .nil (.code (.keep [(11, _), (4, _), (0, _)] ⟨rfl, rfl, rfl, trivial⟩ ?_))
  refine .condD rfl (fun c11 => ?_) (fun c11 => ?_)
  · refine .seq (.keep [(4, _)] ⟨rfl, trivial⟩ (.region ?_))
    refine .p rfl rfl (.mv rfl) ?_
    refine .p rfl rfl (.as rfl) ?_
    refine .p rfl rfl (.as rfl) ?_
    refine .nil (.code ?_)
    refine .ret _ rfl ?_
    rw [if_neg c11]
    exact ⟨_, rfl, OwnO.nil, X9⟩
  · have hz : checkR 4096 l = 0 := Decidable.not_not.1 c11
    obtain ⟨_, _, hll, hmay⟩ := check_ok hz
    refine .skip (.code (.seq (.keep [(0, _)] ⟨rfl, trivial⟩ (.region ?_))))
    refine .p rfl rfl (.as rfl) ?_
    refine .nil (.code (.seq (.seq (.region ?_))))
    refine .p rfl rfl (.as rfl) ?_
    refine .nil (.code (.block ?_))
    refine .loop (S := Nat × World × Value) (fun s => [(0, .slice a l.length cap), (5, s.2.2), (6, i64 s.1)]) (fun s => s.2.1) (fun s => s.1 ≤ l.length ∧ OwnO tInt (fun _ => False) 3 s.2.1 s.2.2 (sectF (l.take s.1)) (fun k => w9.heap.size ≤ k) ∧ Ext (fun k => w9.heap.size ≤ k) w9 s.2.1) (fun s => l.length - s.1) (0, w9, .slice none 0 0) ⟨rfl, rfl, rfl, trivial⟩ rfl ⟨Nat.zero_le _, OwnO.nil, .refl _⟩ ?_
    rintro ⟨i, wi, vo⟩ J ⟨hi', hO, hX⟩ again
    simp only at hi' hO hX
    change G _ [(0, .slice a l.length cap), (5, vo), (6, i64 i)] _ _ wi
    refine .seq (.seq (.region ?_))
    refine .p rfl rfl (.mv rfl) ?_
    refine .p rfl rfl (.mv rfl) ?_
    refine .p rfl rfl (.len rfl rfl) ?_
    refine .p rfl rfl (.lt rfl rfl) ?_
    refine .nil (.code (.keep [(16, _), (0, _), (5, _), (6, _)] ⟨rfl, rfl, rfl, rfl, trivial⟩ ?_))
    refine .condD rfl (fun c16 => ?_) (fun c16 => ?_)
    · have hi : i < l.length := by omega
      obtain ⟨b1, o1, q1, ue, e, hb1, hcs, hre⟩ := Sl.at R9 (List.getElem?_eq_getElem hi)
      cases e
      obtain ⟨rfl, hr1, hr2⟩ := tPiece.val hre
      have hb1 : ¬ w9.heap.size ≤ b1 := by have hb1 : b1 < w9.heap.size := hb1; omega
      have hki := hmay.1 l[i] (List.getElem_mem hi)
      unfold okP at hki
      have zi := hX.size
      have hsl := sect_length (l := l.take i) (fun p hp => by have := hmay.1 p (List.mem_of_mem_take hp); unfold okP at this; omega)
      rw [List.length_take] at hsl
      refine .skip (.code (.seq (.block (.seq (.keep [(0, _), (5, _), (6, _)] ⟨rfl, rfl, rfl, trivial⟩ (.region ?_))))))
      refine .p rfl rfl (.as rfl) ?_
      refine .nil (.code (.block ?_))
      refine .loop (S := Nat × World × Value) (fun s => [(0, .slice (some ⟨b1, o1, none⟩) l.length cap), (5, s.2.2), (6, i64 (i : Nat)), (7, i64 s.1)]) (fun s => s.2.1) (fun s => s.1 ≤ l[i].ct.toNat ∧ OwnO tInt (fun _ => False) 3 s.2.1 s.2.2 (sectF (l.take i) ++ oneF l[i] s.1) (fun k => w9.heap.size ≤ k) ∧ Ext (fun k => w9.heap.size ≤ k) w9 s.2.1) (fun s => l[i].ct.toNat - s.1) (0, wi, vo) ⟨rfl, rfl, rfl, rfl, trivial⟩ rfl ⟨Nat.zero_le _, by show OwnO _ _ _ _ _ (_ ++ []) _; rw [List.append_nil]; exact hO, hX⟩ ?_
      rintro ⟨k, wj, vp⟩ J2 ⟨hk', hP, hY⟩ again2
      simp only at hk' hP hY
      have zj := hY.size
      change G _ [(0, .slice (some ⟨b1, o1, none⟩) l.length cap), (5, vp), (6, i64 (i : Nat)), (7, i64 k)] _ _ wj
      refine .seq (.seq (.region ?_))
      refine .p rfl rfl (.mv rfl) ?_
      refine .p rfl rfl (.mv rfl) ?_
      refine .p rfl rfl (.mv rfl) ?_
      refine .p rfl rfl (.indexAddr (s := 2) rfl rfl rfl rfl (by omega)) ?_
      refine .p rfl rfl (.fieldAddr rfl rfl rfl rfl) ?_
      refine .p rfl rfl (.load rfl rfl rfl ((hcs.ext hY hb1) 1 _ rfl)) ?_
      refine .p rfl rfl (.lt rfl rfl) ?_
      refine .nil (.code (.keep [(25, _), (0, _), (5, _), (6, _), (7, _)] ⟨rfl, rfl, rfl, rfl, rfl, trivial⟩ ?_))
      refine .condD rfl (fun c25 => ?_) (fun c25 => ?_)
      · refine .skip (.code (.seq (.block (.keep [(0, _), (5, _), (6, _), (7, _)] ⟨rfl, rfl, rfl, rfl, trivial⟩ (.region ?_)))))
        refine .p rfl rfl (.mv rfl) ?_
        refine .p rfl rfl (.mv rfl) ?_
        refine .p rfl rfl (.mv rfl) ?_
        refine .p rfl rfl (.indexAddr (s := 2) rfl rfl rfl rfl (by omega)) ?_
        refine .p rfl rfl (.fieldAddr rfl rfl rfl rfl) ?_
        refine .p rfl rfl (.load rfl rfl rfl ((hcs.ext hY hb1) 0 _ rfl)) ?_
        refine .p rfl rfl (.mv rfl) ?_
        refine .p rfl rfl (.add rfl rfl (by omega)) ?_
        refine .v rfl rfl (.lits rfl rfl (fun _ => by kernel_rfl)) ?_
        rintro _ w36 ⟨rfl, N36⟩
        refine .v rfl rfl (.appendLo (t := tInt) (xs := sectF (l.take i) ++ oneF l[i] k) (ys := [l[i].fr + (k : Int)]) (Q := fun _ => False) (B := fun k => w9.heap.size ≤ k) (eb := 8) rfl (OwnO.ext0 hP N36.ext) (fun k hk => by have := N36.size; show w9.heap.size ≤ k; omega) rfl (.inr (New.holds (t := tInt) (us := [i64 (l[i].fr + (k : Int))]) (xs := [l[i].fr + (k : Int)]) N36 (.cons ⟨rfl, by omega⟩ .nil) rfl)) rfl rfl rfl rfl rfl rfl rfl (by simp only [List.length_append, one_length, List.length_singleton]; omega) (by simp only [List.length_append, one_length, List.length_singleton, Lim]; omega) (fun _ h _ => h.elim)) ?_
        rintro r37 w37 ⟨O37, X37⟩
        have hY := (hY.trans (N36.ext.mono (fun _ _ h => h.elim))).trans X37
        refine .p rfl rfl (.as rfl) ?_
        refine .nil (.blk (.code (.keep [(5, _), (0, _), (6, _), (7, _)] ⟨rfl, rfl, rfl, rfl, trivial⟩ (.region ?_))))
        refine .p rfl rfl (.mv rfl) ?_
        refine .p rfl rfl (.add rfl rfl (by omega)) ?_
        refine .p rfl rfl (.as rfl) ?_
        refine .nil ?_
        exact (again2 (k + 1, w37, _) ⟨by show k + 1 ≤ _; omega, by rw [one_succ, ← List.append_assoc]; exact O37, hY⟩ (by show _ - (k + 1) < _ - k; omega)).of ⟨rfl, rfl, rfl, rfl, trivial⟩
      · obtain rfl : k = l[i].ct.toNat := by omega
        refine .exit rfl (.blk (.code (.keep [(0, _), (5, _), (6, _)] ⟨rfl, rfl, rfl, trivial⟩ (.region ?_))))
        refine .p rfl rfl (.mv rfl) ?_
        refine .p rfl rfl (.add rfl rfl (by omega)) ?_
        refine .p rfl rfl (.as rfl) ?_
        refine .nil ?_
        exact (again (i + 1, wj, _) ⟨by show i + 1 ≤ _; omega, by rw [sect_take hi]; exact hP, hY⟩ (by show _ - (i + 1) < _ - i; omega)).of ⟨rfl, rfl, rfl, trivial⟩
    · obtain rfl : i = l.length := by omega
      rw [List.take_length] at hO
      refine .exit rfl (.code (.seq (.keep [(5, _)] ⟨rfl, trivial⟩ (.region ?_))))
      refine .p rfl rfl (.mv rfl) ?_
      refine .p rfl rfl (.as rfl) ?_
      refine .p rfl rfl (.as rfl) ?_
      refine .nil (.code ?_)
      refine .ret _ rfl ?_
      rw [if_pos hz, hz]
      exact ⟨_, rfl, OwnO.mono hO (fun _ h _ => h) (fun k hk _ => Nat.le_trans X9.size hk), X9.then hX (fun k hk _ => Nat.le_trans X9.size hk)⟩
theorem RefSame_fn {w : World} {v u : Value} {l m : List Piece} (hl : (Sl tPiece).rep All w v l) (hm : (Sl tPiece).rep All w u m) : Fn Try.prog 18 [v, u] w (fun r w2 => r = .bool (decide (l = m)) ∧ Ext (fun _ => False) w w2) := by
  obtain ⟨a, cap, rfl, hcap⟩ := Sl.val hl
  obtain ⟨a2, cap2, rfl, hcap2⟩ := Sl.val hm
  have hlim := Sl.lim hl
  have hlim2 := Sl.lim hm
  simp only [Lim] at hlim hlim2
  refine Fn.enter (fun w => Try.call18 _ w) Try.func18 rfl ?_
  refine .seq (.region ?_)
  refine .p rfl rfl (.as rfl) ?_
  refine .nil (.code (.seq (.seq (.keep [(0, _), (1, _)] ⟨rfl, rfl, trivial⟩ (.region ?_)))))
  refine .p rfl rfl (.mv rfl) ?_
  refine .p rfl rfl (.len rfl rfl) ?_
  refine .p rfl rfl (.mv rfl) ?_
  refine .p rfl rfl (.len rfl rfl) ?_
  refine .p rfl rfl (.ne rfl rfl) ?_
  refine .nil (.code (.keep [(10, _), (0, _), (1, _)] ⟨rfl, rfl, rfl, trivial⟩ ?_))
  refine .condD rfl (fun c10 => ?_) (fun c10 => ?_)
  · refine .seq (.keep [] trivial (.region ?_))
    refine .p rfl rfl (.as rfl) ?_
    refine .nil (.code ?_)
    refine .ret _ rfl ?_
    exact ⟨by rw [decide_eq_false (fun h => by rw [h] at c10; exact c10 rfl)]; rfl, .refl _⟩
  · refine .skip (.code (.seq (.seq (.keep [(0, _), (1, _)] ⟨rfl, rfl, trivial⟩ (.region ?_)))))
    refine .p rfl rfl (.as rfl) ?_
    refine .nil (.code (.block ?_))
    have hlen : l.length = m.length := by omega
    refine .loop (S := Nat) (fun s => [(0, .slice a l.length cap), (1, .slice a2 m.length cap2), (5, i64 s)]) (fun s => w) (fun s => s ≤ l.length ∧ l.take s = m.take s) (fun s => l.length - s) 0 ⟨rfl, rfl, rfl, trivial⟩ rfl ⟨Nat.zero_le _, rfl⟩ ?_
    rintro i J ⟨hi', htk⟩ again
    refine .seq (.seq (.region ?_))
    refine .p rfl rfl (.mv rfl) ?_
    refine .p rfl rfl (.mv rfl) ?_
    refine .p rfl rfl (.len rfl rfl) ?_
    refine .p rfl rfl (.lt rfl rfl) ?_
    refine .nil (.code (.keep [(14, _), (0, _), (1, _), (5, _)] ⟨rfl, rfl, rfl, rfl, trivial⟩ ?_))
    refine .condD rfl (fun c14 => ?_) (fun c14 => ?_)
    · have hi : i < l.length := by omega
      have him : i < m.length := by omega
      obtain ⟨b0, o0, c0, ue, e, _, hcs, hre⟩ := Sl.at hl (List.getElem?_eq_getElem hi)
      cases e
      obtain ⟨rfl, h1, h2⟩ := tPiece.val hre
      obtain ⟨b1, o1, c1, ue1, e1, _, hcm, hrm⟩ := Sl.at hm (List.getElem?_eq_getElem him)
      cases e1
      obtain ⟨rfl, g1, g2⟩ := tPiece.val hrm
      refine .skip (.code (.seq (.block (.seq (.keep [(0, _), (1, _), (5, _)] ⟨rfl, rfl, rfl, trivial⟩ (.draws (by kernel_rfl) (by kernel_rfl) ?_))))))
      refine .p rfl rfl (.mv rfl) ?_
      refine .p rfl rfl (.mv rfl) ?_
      refine .p rfl rfl (.indexAddr (s := 2) rfl rfl rfl rfl (by omega)) ?_
      refine .p rfl rfl (.loadA (n := 2) rfl rfl rfl rfl rfl hcs) ?_
      refine .p rfl rfl (.mv rfl) ?_
      refine .p rfl rfl (.mv rfl) ?_
      refine .p rfl rfl (.indexAddr (s := 2) rfl rfl rfl rfl (by omega)) ?_
      refine .p rfl rfl (.loadA (n := 2) rfl rfl rfl rfl rfl hcm) ?_
      refine .p rfl rfl (.neA (xs := [_, _]) (ys := [_, _]) rfl rfl (by kernel_rfl) (piece_eq l[i] m[i])) ?_
      refine .nil (.code (.keep [(25, _), (0, _), (1, _), (5, _)] ⟨rfl, rfl, rfl, rfl, trivial⟩ ?_))
      refine .cond rfl (fun c25 => ?_) (fun c25 => ?_)
      · refine .seq (.keep [] trivial (.region ?_))
        refine .p rfl rfl (.as rfl) ?_
        refine .nil (.code ?_)
        refine .ret _ rfl ?_
        exact ⟨by rw [decide_eq_false (fun h => by subst h; simp at c25)]; rfl, .refl _⟩
      · refine .skip (.blk (.code (.keep [(0, _), (1, _), (5, _)] ⟨rfl, rfl, rfl, trivial⟩ (.region ?_))))
        refine .p rfl rfl (.mv rfl) ?_
        refine .p rfl rfl (.add rfl rfl (by omega)) ?_
        refine .p rfl rfl (.as rfl) ?_
        refine .nil ?_
        exact (again (i + 1) ⟨by show i + 1 ≤ _; omega, by show l.take (i + 1) = m.take (i + 1); rw [List.take_succ_eq_append_getElem hi, List.take_succ_eq_append_getElem him, htk, show l[i] = m[i] by simpa using c25]⟩ (by show _ - (i + 1) < _ - i; omega)).of ⟨rfl, rfl, rfl, trivial⟩
    · refine .exit rfl (.code (.seq (.keep [] trivial (.region ?_))))
      refine .p rfl rfl (.as rfl) ?_
      refine .nil (.code ?_)
      refine .ret _ rfl ?_
      obtain rfl : i = l.length := by omega
      exact ⟨by rw [decide_eq_true (by rw [List.take_length, hlen, List.take_length] at htk; exact htk)]; rfl, .refl _⟩
theorem RefSameT_fn {w : World} {v u : Value} {l : List Piece} (hl : (Sl tPiece).rep All w v l) (hm : (Sl tPiece).rep All w u l) : Fn Try.prog 18 [v, u] w (fun r w2 => r = .bool true ∧ Ext (fun _ => False) w w2) :=
  (RefSame_fn hl hm).mono (fun r w2 h => ⟨by rw [h.1, decide_eq_true rfl], h.2⟩)
end Go.Proofs.Ytagjfplipknlkaa
