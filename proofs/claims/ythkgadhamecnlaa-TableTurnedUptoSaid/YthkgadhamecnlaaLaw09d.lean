
/-
  TableTurned: walked.
-/
import Derived.Test.YthkgadhamecnlaaLaw09b
import Derived.Test.YthkgadhamecnlaaLaw08c
set_option linter.unusedVariables false
set_option linter.unusedSimpArgs false
set_option maxRecDepth 20000
namespace Go.Proofs.Ythkgadhamecnlaa
open Go page table
namespace table
theorem turned_sum {b : Bs} {i : Nat} {c : UInt8} (hi : i < (b ++ sum4 b).length) (hc : ¬ c = (b ++ sum4 b)[i]) : ¬ okSum ((b ++ sum4 b).set i c) := by
  have h4 := sum4_length b
  have hl : ((b ++ sum4 b).set i c).length = b.length + 4 := by rw [List.length_set, List.length_append, h4]
  rintro ⟨_, _, e⟩
  rw [hl, Nat.add_sub_cancel] at e
  have e := e.symm
  by_cases h : i < b.length
  · rw [List.set_append_left _ _ h, List.take_left' (by simp), List.drop_left' (by simp)] at e
    have := crc_set h (sum4_inj e)
    rw [List.getElem_append_left h] at hc
    exact hc this
  · rw [List.set_append_right _ _ (by omega), List.take_left, List.drop_left] at e
    have h5 : i - b.length < (sum4 b).length := by rw [List.length_append] at hi; omega
    have h6 : ((sum4 b).set (i - b.length) c)[i - b.length]? = some c := by rw [List.getElem?_set_self h5]
    rw [← e, List.getElem?_eq_getElem h5] at h6
    rw [List.getElem_append_right (by omega)] at hc
    exact hc (Option.some.inj h6).symm
theorem check_bad {b : Bs} (h : ¬ okSum b) : checkT b = 90 := by unfold checkT; rw [open_bad1 h]
end table
theorem TableTurned_fn {w : World} {v : Value} {l : List Entry} {at_ : Int} {by_ : UInt8} (h : (Sl tEntry).rep All w v l) (hb : l.length ≤ 1048576) : Fn Try.prog 5 [v, i64 at_, u8 by_] w (fun r w2 => r = .bool true ∧ Ext (fun _ => False) w w2) := by
  obtain ⟨a, cap, rfl, hcap⟩ := Sl.val h
  refine Fn.enter (fun w => Try.call5 _ w) Try.func5 rfl ?_
  refine .seq (.region ?_)
  refine .p rfl rfl (.as rfl) ?_
  refine .nil (.code (.seq (.keep [(0, _), (1, _), (2, _)] ⟨rfl, rfl, rfl, trivial⟩ (.region ?_))))
  refine .call (first := []) (captured := []) rfl rfl rfl rfl (alive9_fn) ?_
  rintro _ w10 ⟨rfl, X10⟩
  have z10 := X10.size
  refine .p rfl rfl (.as rfl) ?_
  refine .nil (.code (.seq (.seq (.keep [(7, _), (0, _), (1, _), (2, _)] ⟨rfl, rfl, rfl, rfl, trivial⟩ (.region ?_)))))
  refine .p rfl rfl (.mv rfl) ?_
  refine .p rfl rfl (.not rfl) ?_
  refine .nil (.code (.keep [(12, _), (7, _), (0, _), (1, _), (2, _)] ⟨rfl, rfl, rfl, rfl, rfl, trivial⟩ (.condF rfl (.skip (.code (.seq (.seq (.keep [(7, _), (0, _), (1, _), (2, _)] ⟨rfl, rfl, rfl, rfl, trivial⟩ (.region ?_)))))))))
  refine .p rfl rfl (.mv rfl) ?_
  refine .call (first := []) (captured := []) rfl rfl rfl rfl (hvy_fn ((Sl tEntry).ext0 h X10) hb) ?_
  rintro _ w14 ⟨⟨q, rfl⟩, X14⟩
  have z14 := X14.size
  refine .nil (.code (.keep [(14, _), (7, _), (0, _), (1, _), (2, _)] ⟨rfl, rfl, rfl, rfl, rfl, trivial⟩ ?_))
  refine .cond rfl (fun c14 => ?_) (fun c14 => ?_)
  · refine .seq (.keep [(7, _)] ⟨rfl, trivial⟩ (.region ?_))
    refine .p rfl rfl (.mv rfl) ?_
    refine .p rfl rfl (.as rfl) ?_
    refine .nil (.code ?_)
    refine .ret _ rfl ?_
    exact ⟨rfl, X10.trans X14⟩
  · refine .skip (.code (.seq (.keep [(7, _), (0, _), (1, _), (2, _)] ⟨rfl, rfl, rfl, rfl, trivial⟩ (.region ?_))))
    refine .p rfl rfl (.mv rfl) ?_
    refine .call (first := []) (captured := []) rfl rfl rfl rfl (TMake_fn ((Sl tEntry).ext0 h (X10.trans X14))) ?_
    rintro _ w18 ⟨v18, rfl, G18, X18⟩
    have z18 := X18.size
    obtain ⟨a18, c18, rfl, hc18⟩ := OwnO.val G18
    refine .p rfl rfl (.mv rfl) ?_
    refine .p rfl rfl (.extract rfl rfl) ?_
    refine .p rfl rfl (.extract rfl rfl) ?_
    refine .p rfl rfl (.as rfl) ?_
    refine .p rfl rfl (.as rfl) ?_
    refine .nil (.code (.seq (.seq (.keep [(9, _), (8, _), (7, _), (1, _), (2, _)] ⟨rfl, rfl, rfl, rfl, rfl, trivial⟩ (.region ?_)))))
    refine .p rfl rfl (.mv rfl) ?_
    refine .p rfl rfl (.ne rfl rfl) ?_
    refine .p rfl rfl (.mv rfl) ?_
    refine .caseD 23 rfl (fun c23 => ?_) (fun c23 => ?_)
    · refine .skip rfl rfl ?_
      refine .skip rfl rfl ?_
      refine .p rfl rfl (.pickT rfl rfl) ?_
      refine .p rfl rfl (.mv rfl) ?_
      refine .skip rfl rfl ?_
      refine .skip rfl rfl ?_
      refine .skip rfl rfl ?_
      refine .skip rfl rfl ?_
      refine .p rfl rfl (.pickT rfl rfl) ?_
      refine .p rfl rfl (.mv rfl) ?_
      refine .skip rfl rfl ?_
      refine .skip rfl rfl ?_
      refine .p rfl rfl (.pickT rfl rfl) ?_
      refine .nil (.code (.keep [(36, _), (8, _), (7, _), (1, _), (2, _)] ⟨rfl, rfl, rfl, rfl, rfl, trivial⟩ (.condT rfl (.seq (.keep [(7, _)] ⟨rfl, trivial⟩ (.region ?_))))))
      refine .p rfl rfl (.mv rfl) ?_
      refine .p rfl rfl (.as rfl) ?_
      refine .nil (.code ?_)
      refine .ret _ rfl ?_
      exact ⟨rfl, X10.trans (X14.trans X18)⟩
    · refine .p rfl rfl (.mv rfl) ?_
      refine .p rfl rfl (.lt rfl rfl) ?_
      refine .p rfl rfl (.pickF rfl rfl) ?_
      refine .p rfl rfl (.mv rfl) ?_
      refine .caseD 27 rfl (fun c27 => ?_) (fun c27 => ?_)
      · refine .skip rfl rfl ?_
        refine .skip rfl rfl ?_
        refine .skip rfl rfl ?_
        refine .skip rfl rfl ?_
        refine .p rfl rfl (.pickT rfl rfl) ?_
        refine .p rfl rfl (.mv rfl) ?_
        refine .skip rfl rfl ?_
        refine .skip rfl rfl ?_
        refine .p rfl rfl (.pickT rfl rfl) ?_
        refine .nil (.code (.keep [(36, _), (8, _), (7, _), (1, _), (2, _)] ⟨rfl, rfl, rfl, rfl, rfl, trivial⟩ (.condT rfl (.seq (.keep [(7, _)] ⟨rfl, trivial⟩ (.region ?_))))))
        refine .p rfl rfl (.mv rfl) ?_
        refine .p rfl rfl (.as rfl) ?_
        refine .nil (.code ?_)
        refine .ret _ rfl ?_
        exact ⟨rfl, X10.trans (X14.trans X18)⟩
      · refine .p rfl rfl (.mv rfl) ?_
        refine .p rfl rfl (.mv rfl) ?_
        refine .p rfl rfl (.len rfl rfl) ?_
        refine .p rfl rfl (.ge rfl rfl) ?_
        refine .p rfl rfl (.pickF rfl rfl) ?_
        refine .p rfl rfl (.mv rfl) ?_
        refine .caseD 33 rfl (fun c33 => ?_) (fun c33 => ?_)
        · refine .skip rfl rfl ?_
          refine .skip rfl rfl ?_
          refine .p rfl rfl (.pickT rfl rfl) ?_
          refine .nil (.code (.keep [(36, _), (8, _), (7, _), (1, _), (2, _)] ⟨rfl, rfl, rfl, rfl, rfl, trivial⟩ (.condT rfl (.seq (.keep [(7, _)] ⟨rfl, trivial⟩ (.region ?_))))))
          refine .p rfl rfl (.mv rfl) ?_
          refine .p rfl rfl (.as rfl) ?_
          refine .nil (.code ?_)
          refine .ret _ rfl ?_
          exact ⟨rfl, X10.trans (X14.trans X18)⟩
        · refine .p rfl rfl (.mv rfl) ?_
          refine .p rfl rfl (.eq rfl rfl) ?_
          refine .p rfl rfl (.pickF rfl rfl) ?_
          refine .nil (.code (.keep [(36, _), (8, _), (7, _), (1, _), (2, _)] ⟨rfl, rfl, rfl, rfl, rfl, trivial⟩ ?_))
          refine .condD rfl (fun c36 => ?_) (fun c36 => ?_)
          · refine .seq (.keep [(7, _)] ⟨rfl, trivial⟩ (.region ?_))
            refine .p rfl rfl (.mv rfl) ?_
            refine .p rfl rfl (.as rfl) ?_
            refine .nil (.code ?_)
            refine .ret _ rfl ?_
            exact ⟨rfl, X10.trans (X14.trans X18)⟩
          · have he0 : (makeT l).2 = 0 := Decidable.not_not.1 c23
            obtain ⟨m, rfl⟩ := Int.eq_ofNat_of_zero_le (a := at_) (by omega)
            have hm : m < (makeT l).1.length := by omega
            have hby : ¬ by_ = 0 := fun e => c36 (by rw [e]; rfl)
            obtain ⟨hlimP, hcaseP⟩ : (makeT l).1.length < Lim ∧ ∃ b0 sp, a18 = some ⟨b0, 0, none⟩ ∧ w14.heap.size ≤ b0 ∧ Blk w18 b0 5 ((makeT l).1.map u8 ++ sp) := by
              refine ⟨OwnO.lim G18, ?_⟩
              rcases G18 with ⟨h1, _⟩ | ⟨b0, hb0, _, hO⟩
              · rw [h1] at hm; exact absurd hm (Nat.not_lt_zero _)
              · obtain ⟨cap1, sp, e1, _, hB, _⟩ := hO.opened (fun e => by rw [e] at hm; exact absurd hm (Nat.not_lt_zero _))
                cases e1
                exact ⟨b0, sp, rfl, hb0, hB⟩
            obtain ⟨b0, sp, rfl, hb0, hB0⟩ := hcaseP
            have hcell : w18.cell? ⟨b0, m, none⟩ = some (u8 (makeT l).1[m]) := by
              rw [hB0.cell, List.getElem?_append_left (by simpa using hm), List.getElem?_map, List.getElem?_eq_getElem hm]
              rfl
            have hset : ((makeT l).1.map u8 ++ sp).set m (u8 ((makeT l).1[m] ^^^ by_)) = ((makeT l).1.set m ((makeT l).1[m] ^^^ by_)).map u8 ++ sp := by
              rw [List.set_append_left _ _ (by simpa using hm), List.map_set]
            have hbadp : ¬ okSum ((makeT l).1.set m ((makeT l).1[m] ^^^ by_)) := by
              have hp : (makeT l).1 = tableB l := congrArg (·.1) (makeT_two he0)
              have hgen : ∀ (q : Bs) (hq : m < q.length), q = tableB l → ¬ okSum (q.set m (q[m] ^^^ by_)) := fun q hq e => by
                subst e
                exact turned_sum (b := preT l) hq (xor_ne hby)
              exact hgen _ hm hp
            refine .skip (.code (.seq (.keep [(8, _), (7, _), (1, _), (2, _)] ⟨rfl, rfl, rfl, rfl, trivial⟩ (.region ?_))))
            refine .p rfl rfl (.mv rfl) ?_
            refine .p rfl rfl (.mv rfl) ?_
            refine .p rfl rfl (.mv rfl) ?_
            refine .p rfl rfl (.mv rfl) ?_
            refine .p rfl rfl (.cast (.indexAddr1 rfl rfl rfl rfl (by omega)) (show _ = Value.pointer (some ⟨b0, m, none⟩) by simp)) ?_
            refine .p rfl rfl (.load rfl rfl rfl hcell) ?_
            refine .p rfl rfl (.mv rfl) ?_
            refine .p rfl rfl (.xor8 rfl rfl) ?_
            refine .p rfl rfl (.cast (.indexAddr1 rfl rfl rfl rfl (by omega)) (show _ = Value.pointer (some ⟨b0, m, none⟩) by simp)) ?_
            refine .s rfl (.store rfl rfl rfl rfl rfl hB0 (by simp; omega)) ?_
            intro w46 P46
            have B46 := P46.blk
            rw [hset] at B46
            have R46 : tBytes.rep All w46 (.slice (some ⟨b0, 0, none⟩) (makeT l).1.length c18) ((makeT l).1.set m ((makeT l).1[m] ^^^ by_)) := Sl.mkBytesB B46 (by rw [List.take_left' (by simp)]) trivial (by simp; omega) (by rw [List.length_set]; exact OwnO.lim G18) (by simp)
            refine .nil (.code (.seq (.keep [(8, _), (7, _)] ⟨rfl, rfl, trivial⟩ (.region ?_))))
            refine .p rfl rfl (.mv rfl) ?_
            refine .p rfl rfl (.mv rfl) ?_
            refine .p rfl rfl (.mv rfl) ?_
            refine .call (first := []) (captured := []) rfl rfl rfl rfl (TCheck_fn R46) ?_
            rintro _ w50 ⟨rfl, X50⟩
            rw [check_bad hbadp]
            refine .p rfl rfl (.yes (.eq rfl rfl) (rfl)) ?_
            refine .p rfl rfl (.pickT rfl rfl) ?_
            refine .p rfl rfl (.as rfl) ?_
            refine .nil (.code ?_)
            refine .ret _ rfl ?_
            exact ⟨rfl, ((X10.trans (X14.trans X18)).then P46.ext (by rintro k rfl _; show w.heap.size ≤ _; omega)).trans X50⟩
end Go.Proofs.Ythkgadhamecnlaa
