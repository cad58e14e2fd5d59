
/-
  Package room: pieces copied, sorted, held to what they may be; how many sectors.
-/
import Derived.Test.YtagjfplipknlkaaRSort
import Derived.Test.YtagjfplipknlkaaRoomWalk
set_option linter.unusedVariables false
set_option linter.unusedSimpArgs false
set_option maxRecDepth 20000
namespace Go.Proofs.Ytagjfplipknlkaa
open Go room
theorem Sl.isNoneP {α : Type} {t : Ty α} {P : Nat → Prop} {w : World} {a : Option Addr} {n cap : Nat} {xs : List α} (h : (Sl t).rep P w (.slice a n cap) xs) (ha : a.isNone = true) : xs = [] := by
  obtain ⟨_, a', cap', e, _, ⟨rfl, _⟩ | ⟨b, o, us, rfl, _⟩⟩ := h
  · rfl
  · cases e; cases ha
namespace room
theorem check_8 {count : Int} {l : List Piece} (h1 : ¬ (count < 0 ∨ 4096 < count)) (h2 : ¬ 4096 < l.length) (h3 : ¬ mayP count l) : checkR count l = 8 := by unfold checkR; rw [if_neg h1, if_neg h2, if_neg h3]
theorem check_0 {count : Int} {l : List Piece} (h1 : ¬ (count < 0 ∨ 4096 < count)) (h2 : ¬ 4096 < l.length) (h3 : mayP count l) : checkR count l = 0 := by unfold checkR; rw [if_neg h1, if_neg h2, if_pos h3]
end room
theorem piecesClone_fn {w : World} {v : Value} {l : List Piece} (h : (Sl tPiece).rep All w v l) (hl : l.length ≤ 100000) : Fn Try.prog 31 [v] w (fun r w2 => OwnO tPiece (fun _ => False) 30 w2 r l (fun k => w.heap.size ≤ k) ∧ Ext (fun _ => False) w w2) := by
  obtain ⟨a, cap, rfl, hcap⟩ := Sl.val h
  refine Fn.enter (fun w => Try.call31 _ w) Try.func31 rfl ?_
  refine .seq (.region ?_)
  refine .p rfl rfl (.as rfl) ?_
  refine .nil (.code (.seq (.seq (.keep [(0, _)] ⟨rfl, trivial⟩ (.region ?_)))))
  refine .p rfl rfl (.mv rfl) ?_
  refine .p rfl rfl (.eqNil rfl rfl rfl) ?_
  refine .nil (.code (.keep [(4, _), (0, _)] ⟨rfl, rfl, trivial⟩ ?_))
  refine .cond rfl (fun c4 => ?_) (fun c4 => ?_)
  · refine .seq (.keep [] trivial (.region ?_))
    refine .p rfl rfl (.as rfl) ?_
    refine .nil (.code ?_)
    refine .ret _ rfl ?_
    rw [Sl.isNoneP h c4]
    exact ⟨OwnO.nil, .refl _⟩
  · refine .skip (.code (.seq (.keep [(0, _)] ⟨rfl, trivial⟩ (.region ?_))))
    refine .v rfl rfl (.lits rfl rfl (fun _ => by kernel_rfl)) ?_
    rintro _ w5 ⟨rfl, N5⟩
    refine .p rfl rfl (.mv rfl) ?_
    refine .v rfl rfl (.append (t := tPiece) (Q := fun _ => False) (eb := 16) rfl (Own.ofNew (us := []) N5 .nil (by decide) rfl rfl) rfl (Sl.holds ((Sl tPiece).ext0 h N5.ext) (fun _ _ h => h)) rfl rfl rfl rfl rfl rfl rfl (by simp; omega) (by simp [Lim]; omega) (fun _ h _ => h.elim)) ?_
    rintro v7 w7 ⟨b7, O7, X7, hb7⟩
    have O7 := O7.mono (Q' := fun _ => False) (fun _ h _ => h.1)
    have Z7 := N5.ext.then X7 (by rintro k rfl _; omega)
    have hz5 := N5.size
    refine .p rfl rfl (.as rfl) ?_
    refine .nil (.code ?_)
    refine .ret _ rfl ?_
    exact ⟨OwnO.of O7 (by show w.heap.size ≤ b7; omega), Z7⟩
theorem rising_fn {w : World} {v : Value} {l : List Piece} {count : Int} (h : (Sl tPiece).rep All w v l) : Fn Try.prog 26 [i64 count, v] w (fun r w2 => ∃ v' s, r = .tuple #[v', i64 (checkR count l)] ∧ (checkR count l = 0 → s.Perm l ∧ Rises s) ∧ (¬ checkR count l = 0 → s = []) ∧ OwnO tPiece (fun _ => False) 30 w2 v' s (fun k => w.heap.size ≤ k) ∧ Ext (fun _ => False) w w2) := by
  obtain ⟨a, cap, rfl, hcap⟩ := Sl.val h
  have hlim := Sl.lim h
  simp only [Lim] at hlim
  refine Fn.enter (fun w => Try.call26 _ w) Try.func26 rfl ?_
  refine .seq (.region ?_)
  refine .p rfl rfl (.as rfl) ?_
  refine .p rfl rfl (.as rfl) ?_
  refine .nil (.code (.seq (.seq (.keep [(0, _), (1, _)] ⟨rfl, rfl, trivial⟩ (.region ?_)))))
  refine .p rfl rfl (.mv rfl) ?_
  refine .p rfl rfl (.lt rfl rfl) ?_
  refine .p rfl rfl (.mv rfl) ?_
  refine .caseD 11 rfl (fun c11 => ?_) (fun c11 => ?_)
  · refine .skip rfl rfl ?_
    refine .skip rfl rfl ?_
    refine .p rfl rfl (.pickT rfl rfl) ?_
    refine .nil (.code (.keep [(14, _), (0, _), (1, _)] ⟨rfl, rfl, rfl, trivial⟩ (.condT rfl (.seq (.keep [] trivial (.region ?_))))))
    refine .p rfl rfl (.as rfl) ?_
    refine .p rfl rfl (.as rfl) ?_
    refine .nil (.code ?_)
    refine .ret _ rfl ?_
    have e : checkR count l = 2 := by unfold checkR; rw [if_pos (by omega)]
    rw [e]
    exact ⟨_, [], rfl, fun hz => absurd hz (by decide), fun _ => rfl, OwnO.nil, .refl _⟩
  · refine .p rfl rfl (.mv rfl) ?_
    refine .p rfl rfl (.gt rfl rfl) ?_
    refine .p rfl rfl (.pickF rfl rfl) ?_
    refine .nil (.code (.keep [(14, _), (0, _), (1, _)] ⟨rfl, rfl, rfl, trivial⟩ ?_))
    refine .condD rfl (fun c14 => ?_) (fun c14 => ?_)
    · refine .seq (.keep [] trivial (.region ?_))
      refine .p rfl rfl (.as rfl) ?_
      refine .p rfl rfl (.as rfl) ?_
      refine .nil (.code ?_)
      refine .ret _ rfl ?_
      have e : checkR count l = 2 := by unfold checkR; rw [if_pos (by omega)]
      rw [e]
      exact ⟨_, [], rfl, fun hz => absurd hz (by decide), fun _ => rfl, OwnO.nil, .refl _⟩
    · refine .skip (.code (.seq (.seq (.keep [(0, _), (1, _)] ⟨rfl, rfl, trivial⟩ (.region ?_)))))
      refine .p rfl rfl (.mv rfl) ?_
      refine .p rfl rfl (.len rfl rfl) ?_
      refine .p rfl rfl (.gt rfl rfl) ?_
      refine .nil (.code (.keep [(17, _), (0, _), (1, _)] ⟨rfl, rfl, rfl, trivial⟩ ?_))
      refine .condD rfl (fun c17 => ?_) (fun c17 => ?_)
      · refine .seq (.keep [] trivial (.region ?_))
        refine .p rfl rfl (.as rfl) ?_
        refine .p rfl rfl (.as rfl) ?_
        refine .nil (.code ?_)
        refine .ret _ rfl ?_
        have e : checkR count l = 4 := by unfold checkR; rw [if_neg (by omega), if_pos (by omega)]
        rw [e]
        exact ⟨_, [], rfl, fun hz => absurd hz (by decide), fun _ => rfl, OwnO.nil, .refl _⟩
      · refine .skip (.code (.seq (.seq (.keep [(0, _), (1, _)] ⟨rfl, rfl, trivial⟩ (.region ?_)))))
        refine .p rfl rfl (.mv rfl) ?_
        refine .p rfl rfl (.len rfl rfl) ?_
        refine .p rfl rfl (.mv rfl) ?_
        refine .nil (.code (.block ?_))
        refine .loop (S := Nat × World) (fun s => [(0, i64 count), (1, .slice a l.length cap), (18, .slice a l.length cap), (19, i64 l.length), (20, i64 s.1)]) (fun s => s.2) (fun s => s.1 ≤ l.length ∧ Ext (fun _ => False) w s.2 ∧ ∀ p ∈ l.take s.1, okP count p) (fun s => l.length - s.1) (0, w) ⟨rfl, rfl, rfl, rfl, rfl, trivial⟩ rfl ⟨Nat.zero_le _, .refl _, fun p hp => by cases hp⟩ ?_
        rintro ⟨i, wi⟩ J ⟨hi', hX, hok⟩ again
        simp only at hi' hX hok
        change G _ [(0, i64 count), (1, .slice a l.length cap), (18, .slice a l.length cap), (19, i64 l.length), (20, i64 i)] _ _ wi
        refine .seq (.region ?_)
        refine .p rfl rfl (.lt rfl rfl) ?_
        refine .nil (.code (.seq ?_))
        refine .condD rfl (fun c21 => ?_) (fun c21 => ?_)
        · have hi : i < l.length := by omega
          obtain ⟨b1, o1, q1, ue, e, _, hcs, hre⟩ := Sl.at h (List.getElem?_eq_getElem hi)
          cases e
          obtain ⟨rfl, hr1, hr2⟩ := tPiece.val hre
          refine .skip (.code (.seq (.block (.seq (.keep [(0, _), (1, _), (18, _), (19, _), (20, _)] ⟨rfl, rfl, rfl, rfl, rfl, trivial⟩ (.region ?_))))))
          refine .p rfl rfl (.indexAddr (s := 2) rfl rfl rfl rfl (by omega)) ?_
          refine .p rfl rfl (.loadA (n := 2) rfl rfl rfl rfl rfl (hcs.ext hX (fun x => x))) ?_
          refine .v rfl rfl (.alloc rfl rfl) ?_
          rintro _ w7a ⟨rfl, N7⟩
          refine .s rfl (.storeAll (n := 2) rfl rfl rfl rfl rfl N7.blk rfl) ?_
          intro w7 P7
          have X7 := N7.ext.then P7.ext (by rintro k rfl _; exact Nat.le_refl _)
          have B7 := P7.blk
          refine .nil (.code (.seq (.keep [(7, _), (0, _), (1, _), (18, _), (19, _), (20, _)] ⟨rfl, rfl, rfl, rfl, rfl, rfl, trivial⟩ (.region ?_))))
          refine .p rfl rfl (.fieldAddr rfl rfl rfl rfl) ?_
          refine .p rfl rfl (.load rfl rfl rfl (B7.cell 1)) ?_
          refine .p rfl rfl (.lt rfl rfl) ?_
          refine .p rfl rfl (.mv rfl) ?_
          refine .caseD 27 rfl (fun c27 => ?_) (fun c27 => ?_)
          · refine .skip rfl rfl ?_
            refine .skip rfl rfl ?_
            refine .skip rfl rfl ?_
            refine .p rfl rfl (.pickT rfl rfl) ?_
            refine .p rfl rfl (.mv rfl) ?_
            refine .skip rfl rfl ?_
            refine .skip rfl rfl ?_
            refine .skip rfl rfl ?_
            refine .skip rfl rfl ?_
            refine .p rfl rfl (.pickT rfl rfl) ?_
            refine .p rfl rfl (.mv rfl) ?_
            refine .skip rfl rfl ?_
            refine .skip rfl rfl ?_
            refine .skip rfl rfl ?_
            refine .skip rfl rfl ?_
            refine .skip rfl rfl ?_
            refine .skip rfl rfl ?_
            refine .skip rfl rfl ?_
            refine .p rfl rfl (.pickT rfl rfl) ?_
            refine .nil (.code (.keep [(46, _), (0, _), (1, _), (18, _), (19, _), (20, _)] ⟨rfl, rfl, rfl, rfl, rfl, rfl, trivial⟩ (.condT rfl (.seq (.keep [] trivial (.region ?_))))))
            refine .p rfl rfl (.as rfl) ?_
            refine .p rfl rfl (.as rfl) ?_
            refine .nil (.code ?_)
            refine .ret _ rfl ?_
            have hno : ¬ okP count l[i] := by unfold okP; omega
            rw [check_8 (by omega) (by omega) (fun hm => hno (hm.1 _ (List.getElem_mem hi)))]
            exact ⟨_, [], rfl, fun hz => absurd hz (by decide), fun _ => rfl, OwnO.nil, hX.trans X7⟩
          · refine .p rfl rfl (.fieldAddr rfl rfl rfl rfl) ?_
            refine .p rfl rfl (.load rfl rfl rfl (B7.cell 0)) ?_
            refine .p rfl rfl (.lt rfl rfl) ?_
            refine .p rfl rfl (.pickF rfl rfl) ?_
            refine .p rfl rfl (.mv rfl) ?_
            refine .caseD 32 rfl (fun c32 => ?_) (fun c32 => ?_)
            · refine .skip rfl rfl ?_
              refine .skip rfl rfl ?_
              refine .skip rfl rfl ?_
              refine .skip rfl rfl ?_
              refine .p rfl rfl (.pickT rfl rfl) ?_
              refine .p rfl rfl (.mv rfl) ?_
              refine .skip rfl rfl ?_
              refine .skip rfl rfl ?_
              refine .skip rfl rfl ?_
              refine .skip rfl rfl ?_
              refine .skip rfl rfl ?_
              refine .skip rfl rfl ?_
              refine .skip rfl rfl ?_
              refine .p rfl rfl (.pickT rfl rfl) ?_
              refine .nil (.code (.keep [(46, _), (0, _), (1, _), (18, _), (19, _), (20, _)] ⟨rfl, rfl, rfl, rfl, rfl, rfl, trivial⟩ (.condT rfl (.seq (.keep [] trivial (.region ?_))))))
              refine .p rfl rfl (.as rfl) ?_
              refine .p rfl rfl (.as rfl) ?_
              refine .nil (.code ?_)
              refine .ret _ rfl ?_
              have hno : ¬ okP count l[i] := by unfold okP; omega
              rw [check_8 (by omega) (by omega) (fun hm => hno (hm.1 _ (List.getElem_mem hi)))]
              exact ⟨_, [], rfl, fun hz => absurd hz (by decide), fun _ => rfl, OwnO.nil, hX.trans X7⟩
            · refine .p rfl rfl (.fieldAddr rfl rfl rfl rfl) ?_
              refine .p rfl rfl (.load rfl rfl rfl (B7.cell 0)) ?_
              refine .p rfl rfl (.mv rfl) ?_
              refine .p rfl rfl (.ge rfl rfl) ?_
              refine .p rfl rfl (.pickF rfl rfl) ?_
              refine .p rfl rfl (.mv rfl) ?_
              refine .caseD 38 rfl (fun c38 => ?_) (fun c38 => ?_)
              · refine .skip rfl rfl ?_
                refine .skip rfl rfl ?_
                refine .skip rfl rfl ?_
                refine .skip rfl rfl ?_
                refine .skip rfl rfl ?_
                refine .skip rfl rfl ?_
                refine .skip rfl rfl ?_
                refine .p rfl rfl (.pickT rfl rfl) ?_
                refine .nil (.code (.keep [(46, _), (0, _), (1, _), (18, _), (19, _), (20, _)] ⟨rfl, rfl, rfl, rfl, rfl, rfl, trivial⟩ (.condT rfl (.seq (.keep [] trivial (.region ?_))))))
                refine .p rfl rfl (.as rfl) ?_
                refine .p rfl rfl (.as rfl) ?_
                refine .nil (.code ?_)
                refine .ret _ rfl ?_
                have hno : ¬ okP count l[i] := by unfold okP; omega
                rw [check_8 (by omega) (by omega) (fun hm => hno (hm.1 _ (List.getElem_mem hi)))]
                exact ⟨_, [], rfl, fun hz => absurd hz (by decide), fun _ => rfl, OwnO.nil, hX.trans X7⟩
              · refine .p rfl rfl (.fieldAddr rfl rfl rfl rfl) ?_
                refine .p rfl rfl (.load rfl rfl rfl (B7.cell 1)) ?_
                refine .p rfl rfl (.mv rfl) ?_
                refine .p rfl rfl (.fieldAddr rfl rfl rfl rfl) ?_
                refine .p rfl rfl (.load rfl rfl rfl (B7.cell 0)) ?_
                refine .p rfl rfl (.sub rfl rfl (by omega)) ?_
                refine .p rfl rfl (.gt rfl rfl) ?_
                refine .p rfl rfl (.pickF rfl rfl) ?_
                refine .nil (.code (.keep [(46, _), (0, _), (1, _), (18, _), (19, _), (20, _)] ⟨rfl, rfl, rfl, rfl, rfl, rfl, trivial⟩ ?_))
                refine .condD rfl (fun c46 => ?_) (fun c46 => ?_)
                · refine .seq (.keep [] trivial (.region ?_))
                  refine .p rfl rfl (.as rfl) ?_
                  refine .p rfl rfl (.as rfl) ?_
                  refine .nil (.code ?_)
                  refine .ret _ rfl ?_
                  have hno : ¬ okP count l[i] := by unfold okP; omega
                  rw [check_8 (by omega) (by omega) (fun hm => hno (hm.1 _ (List.getElem_mem hi)))]
                  exact ⟨_, [], rfl, fun hz => absurd hz (by decide), fun _ => rfl, OwnO.nil, hX.trans X7⟩
                · refine .skip (.blk (.code (.keep [(0, _), (1, _), (18, _), (19, _), (20, _)] ⟨rfl, rfl, rfl, rfl, rfl, trivial⟩ (.region ?_))))
                  refine .p rfl rfl (.add rfl rfl (by omega)) ?_
                  refine .p rfl rfl (.mv rfl) ?_
                  refine .nil ?_
                  refine (again (i + 1, w7) ⟨by show i + 1 ≤ _; omega, hX.trans X7, fun p hp => ?_⟩ (by show _ - (i + 1) < _ - i; omega)).of ⟨rfl, rfl, rfl, rfl, rfl, trivial⟩
                  have hp : p ∈ l.take (i + 1) := hp
                  rw [List.take_succ_eq_append_getElem hi] at hp
                  rcases List.mem_append.1 hp with hp | hp
                  · exact hok p hp
                  · rw [List.mem_singleton] at hp
                    subst hp
                    unfold okP; omega
        · obtain rfl : i = l.length := by omega
          rw [List.take_length] at hok
          refine .exit rfl (.code (.seq (.keep [(1, _)] ⟨rfl, trivial⟩ (.region ?_))))
          refine .p rfl rfl (.mv rfl) ?_
          refine .call (first := []) (captured := []) rfl rfl rfl rfl (piecesClone_fn ((Sl tPiece).ext0 h hX) (by omega)) ?_
          rintro r49 w49 ⟨O49, X49⟩
          refine .p rfl rfl (.as rfl) ?_
          refine .nil (.code (.seq (.keep [(1, _)] ⟨rfl, trivial⟩ (.region ?_))))
          refine .p rfl rfl (.mv rfl) ?_
          refine .call (first := []) (captured := []) rfl rfl rfl rfl (SortFunc_fn O49) ?_
          rintro _ w51 ⟨rfl, ps, hp, hso, O51, X51⟩
          have Z51 : Ext (fun _ => False) w w51 := (hX.trans X49).then X51 (fun k hk _ => Nat.le_trans hX.size hk)
          have R51 := OwnO.rep O51 (R := All) (fun _ _ _ => trivial) (fun _ h _ => h.elim)
          obtain ⟨a51, c51, rfl, hc51⟩ := Sl.val R51
          have hsl : ps.length = l.length := hp.length_eq
          have hoks : ∀ p ∈ ps, okP count p := fun p h => hok p (hp.mem_iff.1 h)
          refine .nil (.code (.seq (.seq (.keep [(1, _)] ⟨rfl, trivial⟩ (.region ?_)))))
          refine .p rfl rfl (.as rfl) ?_
          refine .nil (.code (.block ?_))
          refine .loop (S := Nat) (fun s => [(1, .slice a51 ps.length c51), (8, i64 s)]) (fun s => w51) (fun s => 1 ≤ s ∧ ∀ j (hj : j + 1 < ps.length), j + 1 < s → ps[j].fr + ps[j].ct ≤ ps[j + 1].fr) (fun s => ps.length - s) 1 ⟨rfl, rfl, trivial⟩ rfl ⟨Nat.le_refl _, fun j hj h1 => by omega⟩ ?_
          rintro j J ⟨hj1, hcon⟩ again
          refine .seq (.seq (.region ?_))
          refine .p rfl rfl (.mv rfl) ?_
          refine .p rfl rfl (.mv rfl) ?_
          refine .p rfl rfl (.len rfl rfl) ?_
          refine .p rfl rfl (.lt rfl rfl) ?_
          refine .nil (.code (.keep [(55, _), (1, _), (8, _)] ⟨rfl, rfl, rfl, trivial⟩ ?_))
          refine .condD rfl (fun c55 => ?_) (fun c55 => ?_)
          · have hj : j < ps.length := by omega
            obtain ⟨b2, o2, q2, ue2, e2, _, hcp, hrp⟩ := Sl.at R51 (i := j - 1) (List.getElem?_eq_getElem (by omega))
            cases e2
            obtain ⟨rfl, hp1, hp2⟩ := tPiece.val hrp
            obtain ⟨b3, o3, q3, ue3, e3, _, hcq, hrq⟩ := Sl.at R51 (i := j) (List.getElem?_eq_getElem hj)
            cases e3
            obtain ⟨rfl, hq1, hq2⟩ := tPiece.val hrq
            have ej : ((j : Int) - 1).toNat = j - 1 := by omega
            have hkp := hoks ps[j - 1] (List.getElem_mem (by omega))
            unfold okP at hkp
            refine .skip (.code (.seq (.block (.seq (.keep [(1, _), (8, _)] ⟨rfl, rfl, trivial⟩ (.draws (by kernel_rfl) (by kernel_rfl) ?_))))))
            refine .p rfl rfl (.mv rfl) ?_
            refine .p rfl rfl (.mv rfl) ?_
            refine .p rfl rfl (.sub rfl rfl (by omega)) ?_
            refine .p rfl rfl (.indexAddr (s := 2) rfl rfl rfl rfl (by omega)) ?_
            refine .p rfl rfl (.fieldAddr rfl rfl rfl rfl) ?_
            refine .p rfl rfl (.load rfl rfl rfl (by rw [ej]; exact hcp 0 _ rfl)) ?_
            refine .p rfl rfl (.mv rfl) ?_
            refine .p rfl rfl (.mv rfl) ?_
            refine .p rfl rfl (.sub rfl rfl (by omega)) ?_
            refine .p rfl rfl (.indexAddr (s := 2) rfl rfl rfl rfl (by omega)) ?_
            refine .p rfl rfl (.fieldAddr rfl rfl rfl rfl) ?_
            refine .p rfl rfl (.load rfl rfl rfl (by rw [ej]; exact hcp 1 _ rfl)) ?_
            refine .p rfl rfl (.add rfl rfl (by omega)) ?_
            refine .p rfl rfl (.mv rfl) ?_
            refine .p rfl rfl (.mv rfl) ?_
            refine .p rfl rfl (.indexAddr (s := 2) rfl rfl rfl rfl (by omega)) ?_
            refine .p rfl rfl (.fieldAddr rfl rfl rfl rfl) ?_
            refine .p rfl rfl (.load rfl rfl rfl (hcq 0 _ rfl)) ?_
            refine .p rfl rfl (.gt rfl rfl) ?_
            refine .nil (.code (.keep [(76, _), (1, _), (8, _)] ⟨rfl, rfl, rfl, trivial⟩ ?_))
            refine .condD rfl (fun c76 => ?_) (fun c76 => ?_)
            · refine .seq (.keep [] trivial (.region ?_))
              refine .p rfl rfl (.as rfl) ?_
              refine .p rfl rfl (.as rfl) ?_
              refine .nil (.code ?_)
              refine .ret _ rfl ?_
              have hno : ¬ mayP count l := fun hm => by
                have hr := List.pairwise_iff_getElem.1 (rises_of_may hp hm hso) (j - 1) j (by omega) hj (by omega)
                omega
              rw [check_8 (by omega) (by omega) hno]
              exact ⟨_, [], rfl, fun hz => absurd hz (by decide), fun _ => rfl, OwnO.nil, Z51⟩
            · refine .skip (.blk (.code (.keep [(1, _), (8, _)] ⟨rfl, rfl, trivial⟩ (.region ?_))))
              refine .p rfl rfl (.mv rfl) ?_
              refine .p rfl rfl (.add rfl rfl (by omega)) ?_
              refine .p rfl rfl (.as rfl) ?_
              refine .nil ?_
              refine (again (j + 1) ⟨by omega, fun k hk h1 => ?_⟩ (by omega)).of ⟨rfl, rfl, trivial⟩
              rcases Nat.lt_or_ge (k + 1) j with h2 | h2
              · exact hcon k hk h2
              · have ek : k = j - 1 := by omega
                subst ek
                have e2 : ps[j - 1 + 1] = ps[j] := by congr 1; omega
                rw [e2]
                omega
          · refine .exit rfl (.code (.seq (.keep [(1, _)] ⟨rfl, trivial⟩ (.region ?_))))
            refine .p rfl rfl (.mv rfl) ?_
            refine .p rfl rfl (.as rfl) ?_
            refine .p rfl rfl (.as rfl) ?_
            refine .nil (.code ?_)
            refine .ret _ rfl ?_
            have hr : Rises ps := rises_of (fun p hp => by have := hoks p hp; unfold okP at this; omega) (fun k hk => hcon k hk (by omega))
            rw [check_0 (by omega) (by omega) (may_of_rises hp hok hr)]
            exact ⟨_, ps, rfl, fun _ => ⟨hp, hr⟩, fun hz => absurd rfl hz, OwnO.mono O51 (fun _ h _ => h) (fun k hk _ => Nat.le_trans hX.size hk), Z51⟩
theorem RoomCheck_fn {w : World} {v : Value} {l : List Piece} {count : Int} (h : (Sl tPiece).rep All w v l) : Fn Try.prog 23 [i64 count, v] w (fun r w2 => r = i64 (checkR count l) ∧ Ext (fun _ => False) w w2) := by
  refine Fn.enter (fun w => Try.call23 _ w) Try.func23 rfl ?_
  refine .seq (.region ?_)
  refine .p rfl rfl (.as rfl) ?_
  refine .nil (.code (.seq (.keep [(0, _), (1, _)] ⟨rfl, rfl, trivial⟩ (.region ?_))))
  refine .p rfl rfl (.mv rfl) ?_
  refine .p rfl rfl (.mv rfl) ?_
  refine .call (first := []) (captured := []) rfl rfl rfl rfl (rising_fn h) ?_
  rintro _ w10 ⟨v10, ps, rfl, hs1, hs2, O10, X10⟩
  refine .p rfl rfl (.mv rfl) ?_
  refine .p rfl rfl (.extract rfl rfl) ?_
  refine .p rfl rfl (.extract rfl rfl) ?_
  refine .p rfl rfl (.as rfl) ?_
  refine .p rfl rfl (.as rfl) ?_
  refine .nil (.code (.seq (.keep [(6, _)] ⟨rfl, trivial⟩ (.region ?_))))
  refine .p rfl rfl (.mv rfl) ?_
  refine .p rfl rfl (.as rfl) ?_
  refine .nil (.code ?_)
  refine .ret _ rfl ?_
  exact ⟨rfl, X10⟩
theorem total_fn {w : World} {v : Value} {l : List Piece} (h : (Sl tPiece).rep All w v l) (hb : ∀ p ∈ l, 0 ≤ p.ct ∧ p.ct ≤ 4096) : Fn Try.prog 27 [v] w (fun r w2 => r = i64 (totalF l) ∧ Ext (fun _ => False) w w2) := by
  obtain ⟨a, cap, rfl, hcap⟩ := Sl.val h
  have hlim := Sl.lim h
  simp only [Lim] at hlim
  refine Fn.enter (fun w => Try.call27 _ w) Try.func27 rfl ?_
  refine .seq (.region ?_)
  refine .p rfl rfl (.as rfl) ?_
  refine .nil (.code (.seq (.seq (.region ?_))))
  refine .p rfl rfl (.mv rfl) ?_
  refine .p rfl rfl (.len rfl rfl) ?_
  refine .p rfl rfl (.mv rfl) ?_
  refine .nil (.code (.block (.keep [(7, _), (6, _), (5, _), (2, _)] ⟨rfl, rfl, rfl, rfl, trivial⟩ ?_)))
  refine .loop (S := Nat × World) (fun s => [(2, i64 (totalF (l.take s.1))), (5, .slice a l.length cap), (6, i64 l.length), (7, i64 s.1)]) (fun s => s.2) (fun s => s.1 ≤ l.length ∧ Ext (fun _ => False) w s.2) (fun s => l.length - s.1) (0, w) ⟨rfl, rfl, rfl, rfl, trivial⟩ rfl ⟨Nat.zero_le _, .refl _⟩ ?_
  rintro ⟨i, wi⟩ J ⟨hi', hX⟩ again
  simp only at hi' hX
  change G _ [(2, i64 (totalF (l.take i))), (5, .slice a l.length cap), (6, i64 l.length), (7, i64 i)] _ _ wi
  refine .seq (.region ?_)
  refine .p rfl rfl (.lt rfl rfl) ?_
  refine .nil (.code (.seq ?_))
  refine .condD rfl (fun c8 => ?_) (fun c8 => ?_)
  · have hi : i < l.length := by omega
    obtain ⟨b1, o1, q1, ue, e, _, hcs, hre⟩ := Sl.at h (List.getElem?_eq_getElem hi)
    cases e
    obtain ⟨rfl, hr1, hr2⟩ := tPiece.val hre
    have ht := total_bd (M := 4096) (by decide) (l := l.take i) (fun p hp => hb p (List.mem_of_mem_take hp))
    have hl0 := hb l[i] (List.getElem_mem hi)
    have hle : (l.take i).length ≤ l.length := by rw [List.length_take]; omega
    refine .skip (.code (.seq (.block (.seq (.keep [(2, _), (5, _), (6, _), (7, _)] ⟨rfl, rfl, rfl, rfl, trivial⟩ (.region ?_))))))
    refine .p rfl rfl (.indexAddr (s := 2) rfl rfl rfl rfl (by omega)) ?_
    refine .p rfl rfl (.loadA (n := 2) rfl rfl rfl rfl rfl (hcs.ext hX (fun x => x))) ?_
    refine .v rfl rfl (.alloc rfl rfl) ?_
    rintro _ w7a ⟨rfl, N7⟩
    refine .s rfl (.storeAll (n := 2) rfl rfl rfl rfl rfl N7.blk rfl) ?_
    intro w7 P7
    have X7 := N7.ext.then P7.ext (by rintro k rfl _; exact Nat.le_refl _)
    have B7 := P7.blk
    refine .nil (.code (.keep [(4, _), (2, _), (5, _), (6, _), (7, _)] ⟨rfl, rfl, rfl, rfl, rfl, trivial⟩ (.region ?_)))
    refine .p rfl rfl (.mv rfl) ?_
    refine .p rfl rfl (.fieldAddr rfl rfl rfl rfl) ?_
    refine .p rfl rfl (.load rfl rfl rfl (B7.cell 1)) ?_
    refine .p rfl rfl (.cast (.add rfl rfl (by omega)) (show i64 (totalF (l.take i) + l[i].ct) = i64 (totalF (l.take (i + 1))) by rw [total_take hi])) ?_
    refine .p rfl rfl (.as rfl) ?_
    refine .nil (.blk (.code (.keep [(2, _), (5, _), (6, _), (7, _)] ⟨rfl, rfl, rfl, rfl, trivial⟩ (.region ?_))))
    refine .p rfl rfl (.add rfl rfl (by omega)) ?_
    refine .p rfl rfl (.mv rfl) ?_
    refine .nil ?_
    exact (again (i + 1, w7) ⟨by show i + 1 ≤ _; omega, hX.trans X7⟩ (by show _ - (i + 1) < _ - i; omega)).of ⟨rfl, rfl, rfl, rfl, trivial⟩
  · obtain rfl : i = l.length := by omega
    rw [List.take_length]
    refine .exit rfl (.code (.seq (.keep [(2, _)] ⟨rfl, trivial⟩ (.region ?_))))
    refine .p rfl rfl (.mv rfl) ?_
    refine .p rfl rfl (.as rfl) ?_
    refine .nil (.code ?_)
    refine .ret _ rfl ?_
    exact ⟨rfl, hX⟩
end Go.Proofs.Ytagjfplipknlkaa
