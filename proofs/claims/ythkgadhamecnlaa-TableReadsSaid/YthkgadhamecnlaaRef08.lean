
/-
  The document's own pages.
-/
import Derived.Test.YthkgadhamecnlaaPage2
import Derived.Test.YthkgadhamecnlaaEntEq
import Derived.Test.YthkgadhamecnlaaRef01c
import Derived.Test.YthkgadhamecnlaaRef01p
import Derived.Test.YthkgadhamecnlaaRef01
set_option linter.unusedVariables false
set_option linter.unusedSimpArgs false
set_option maxRecDepth 20000
namespace Go.Proofs.Ythkgadhamecnlaa
open Go page
namespace page
theorem bytesLess_eq : ∀ a b : Bs, Op.bytesLess a b = decide (Lib.compareBytes a b < 0)
  | [], [] => rfl
  | [], _ :: _ => rfl
  | _ :: _, [] => rfl
  | a :: x, b :: y => by
    unfold Op.bytesLess Lib.compareBytes
    have ih := bytesLess_eq x y
    by_cases h1 : a < b
    · simp [h1]
    · by_cases h2 : b < a
      · have h3 : ¬ a = b := fun e => by rw [e] at h2; exact UInt8.lt_irrefl b h2
        simp [h1, h2, h3]
      · have e : a = b := UInt8.le_antisymm (UInt8.not_lt.1 h2) (UInt8.not_lt.1 h1)
        simp [h1, h2, e, ih]
theorem cmpB_zero0 : ∀ a b : Bs, Lib.compareBytes a b = 0 ↔ a = b
  | [], [] => by simp [Lib.compareBytes]
  | [], _ :: _ => by simp [Lib.compareBytes]
  | _ :: _, [] => by simp [Lib.compareBytes]
  | a :: x, b :: y => by
    unfold Lib.compareBytes
    have ih := cmpB_zero0 x y
    by_cases h1 : a < b
    · rw [if_pos h1]
      exact ⟨fun e => (by cases e), fun e => (by cases e; exact absurd h1 (UInt8.lt_irrefl a))⟩
    · rw [if_neg h1]
      by_cases h2 : b < a
      · rw [if_pos h2]
        exact ⟨fun e => (by cases e), fun e => (by cases e; exact absurd h2 (UInt8.lt_irrefl a))⟩
      · rw [if_neg h2, ih]
        have e : a = b := UInt8.le_antisymm (UInt8.not_lt.1 h2) (UInt8.not_lt.1 h1)
        subst e
        simp
end page
theorem RefLess_fn {w : World} {v u : Value} {a b : Entry} (ha : tEntry.rep All w v a) (hb : tEntry.rep All w u b) : Fn Try.prog 67 [v, u] w (fun r w2 => r = .bool (lessE a b) ∧ Ext (fun _ => False) w w2) := by
  obtain ⟨rfl, ha1, ha2, ha3⟩ := tEntry.val ha
  obtain ⟨rfl, hb1, hb2, hb3⟩ := tEntry.val hb
  refine Fn.enter (fun w => Try.call67 _ w) Try.func67 rfl ?_
  refine .seq (.region ?_)
  refine .v rfl rfl (.box rfl) ?_
  rintro _ w2 ⟨rfl, N2⟩
  refine .v rfl rfl (.box rfl) ?_
  rintro _ w3 ⟨rfl, N3⟩
  have B2 := N2.blk.ext N3.ext (fun x => x)
  have B3 := N3.blk
  have X3 := N2.ext.trans N3.ext
  refine .p rfl rfl (.as rfl) ?_
  refine .nil (.code (.seq (.seq (.keep [(3, _), (2, _)] ⟨rfl, rfl, trivial⟩ (.region ?_)))))
  refine .p rfl rfl (.fieldAddr rfl rfl rfl rfl) ?_
  refine .p rfl rfl (.load rfl rfl rfl (B2.cell 0)) ?_
  refine .p rfl rfl (.fieldAddr rfl rfl rfl rfl) ?_
  refine .p rfl rfl (.load rfl rfl rfl (B3.cell 0)) ?_
  refine .p rfl rfl (.neS rfl rfl) ?_
  refine .nil (.code (.keep [(9, _), (3, _), (2, _)] ⟨rfl, rfl, rfl, trivial⟩ ?_))
  refine .condD rfl (fun c9 => ?_) (fun c9 => ?_)
  · refine .seq (.keep [(3, _), (2, _)] ⟨rfl, rfl, trivial⟩ (.region ?_))
    refine .p rfl rfl (.fieldAddr rfl rfl rfl rfl) ?_
    refine .p rfl rfl (.load rfl rfl rfl (B2.cell 0)) ?_
    refine .p rfl rfl (.fieldAddr rfl rfl rfl rfl) ?_
    refine .p rfl rfl (.load rfl rfl rfl (B3.cell 0)) ?_
    refine .p rfl rfl (.ltS rfl rfl) ?_
    refine .p rfl rfl (.as rfl) ?_
    refine .nil (.code ?_)
    refine .ret _ rfl ?_
    exact ⟨by show Value.bool _ = _; unfold lessE orI; rw [if_neg (fun e => c9 ((cmpB_zero0 _ _).1 e)), bytesLess_eq], X3⟩
  · refine .skip (.code (.seq (.keep [(3, _), (2, _)] ⟨rfl, rfl, trivial⟩ (.region ?_))))
    refine .p rfl rfl (.fieldAddr rfl rfl rfl rfl) ?_
    refine .p rfl rfl (.load rfl rfl rfl (B2.cell 2)) ?_
    refine .p rfl rfl (.fieldAddr rfl rfl rfl rfl) ?_
    refine .p rfl rfl (.load rfl rfl rfl (B3.cell 2)) ?_
    refine .p rfl rfl (.gt rfl rfl) ?_
    refine .p rfl rfl (.as rfl) ?_
    refine .nil (.code ?_)
    refine .ret _ rfl ?_
    have hk : a.key = b.key := Decidable.not_not.1 c9
    exact ⟨by show Value.bool _ = _; unfold lessE orI cmpI; rw [if_pos ((cmpB_zero0 _ _).2 hk)]; congr 1; refine decide_eq_decide.2 ⟨fun h => ?_, fun h => ?_⟩; (rw [if_pos h]; decide); (by_cases h2 : b.seq < a.seq; exact h2; rw [if_neg h2] at h; split at h <;> omega), X3⟩
theorem RefOne_fn {w : World} {v : Value} {x : Entry} (h : tEntry.rep All w v x) : Fn Try.prog 66 [v] w (fun r w2 => r = i64 (oneE x) ∧ Ext (fun _ => False) w w2) := by
  obtain ⟨rfl, h1, h2, h3⟩ := tEntry.val h
  have hk0 : x.key = [] ↔ x.key.length = 0 := List.length_eq_zero_iff.symm
  refine Fn.enter (fun w => Try.call66 _ w) Try.func66 rfl ?_
  refine .seq (.region ?_)
  refine .v rfl rfl (.box rfl) ?_
  rintro _ w1 ⟨rfl, N1⟩
  have B1 := N1.blk
  refine .p rfl rfl (.as rfl) ?_
  refine .nil (.code (.seq (.seq (.keep [(1, _)] ⟨rfl, trivial⟩ (.region ?_)))))
  refine .p rfl rfl (.fieldAddr rfl rfl rfl rfl) ?_
  refine .p rfl rfl (.load rfl rfl rfl (B1.cell 0)) ?_
  refine .p rfl rfl (.lenS rfl rfl) ?_
  refine .p rfl rfl (.lt rfl rfl) ?_
  refine .p rfl rfl (.mv rfl) ?_
  refine .caseD 7 rfl (fun c7 => ?_) (fun c7 => ?_)
  · refine .skip rfl rfl ?_
    refine .skip rfl rfl ?_
    refine .skip rfl rfl ?_
    refine .skip rfl rfl ?_
    refine .p rfl rfl (.pickT rfl rfl) ?_
    refine .nil (.code (.keep [(12, _), (1, _)] ⟨rfl, rfl, trivial⟩ (.condT rfl (.seq (.keep [] trivial (.region ?_))))))
    refine .p rfl rfl (.as rfl) ?_
    refine .nil (.code ?_)
    refine .ret _ rfl ?_
    exact ⟨by unfold oneE; rw [if_pos (.inl (hk0.2 (by omega)))]; rfl, N1.ext⟩
  · refine .p rfl rfl (.fieldAddr rfl rfl rfl rfl) ?_
    refine .p rfl rfl (.load rfl rfl rfl (B1.cell 0)) ?_
    refine .p rfl rfl (.lenS rfl rfl) ?_
    refine .p rfl rfl (.gt rfl rfl) ?_
    refine .p rfl rfl (.pickF rfl rfl) ?_
    refine .nil (.code (.keep [(12, _), (1, _)] ⟨rfl, rfl, trivial⟩ ?_))
    refine .condD rfl (fun c12 => ?_) (fun c12 => ?_)
    · refine .seq (.keep [] trivial (.region ?_))
      refine .p rfl rfl (.as rfl) ?_
      refine .nil (.code ?_)
      refine .ret _ rfl ?_
      exact ⟨by unfold oneE; rw [if_pos (.inr (by omega))]; rfl, N1.ext⟩
    · refine .skip (.code (.seq (.seq (.keep [(1, _)] ⟨rfl, trivial⟩ (.region ?_)))))
      refine .p rfl rfl (.fieldAddr rfl rfl rfl rfl) ?_
      refine .p rfl rfl (.load rfl rfl rfl (B1.cell 1)) ?_
      refine .p rfl rfl (.lenS rfl rfl) ?_
      refine .p rfl rfl (.gt rfl rfl) ?_
      refine .nil (.code (.keep [(16, _), (1, _)] ⟨rfl, rfl, trivial⟩ ?_))
      refine .condD rfl (fun c16 => ?_) (fun c16 => ?_)
      · refine .seq (.keep [] trivial (.region ?_))
        refine .p rfl rfl (.as rfl) ?_
        refine .nil (.code ?_)
        refine .ret _ rfl ?_
        exact ⟨by unfold oneE; rw [if_neg (fun h => h.elim (fun e => by have := hk0.1 e; omega) (by omega)), if_pos (by omega)]; rfl, N1.ext⟩
      · refine .skip (.code (.seq (.seq (.keep [(1, _)] ⟨rfl, trivial⟩ (.region ?_)))))
        refine .p rfl rfl (.fieldAddr rfl rfl rfl rfl) ?_
        refine .p rfl rfl (.load rfl rfl rfl (B1.cell 2)) ?_
        refine .p rfl rfl (.lt rfl rfl) ?_
        refine .p rfl rfl (.mv rfl) ?_
        refine .caseD 20 rfl (fun c20 => ?_) (fun c20 => ?_)
        · refine .skip rfl rfl ?_
          refine .skip rfl rfl ?_
          refine .skip rfl rfl ?_
          refine .p rfl rfl (.pickT rfl rfl) ?_
          refine .nil (.code (.keep [(24, _), (1, _)] ⟨rfl, rfl, trivial⟩ (.condT rfl (.seq (.keep [] trivial (.region ?_))))))
          refine .p rfl rfl (.as rfl) ?_
          refine .nil (.code ?_)
          refine .ret _ rfl ?_
          exact ⟨by unfold oneE; rw [if_neg (fun h => h.elim (fun e => by have := hk0.1 e; omega) (by omega)), if_neg (by omega), if_pos (by omega)]; rfl, N1.ext⟩
        · refine .p rfl rfl (.fieldAddr rfl rfl rfl rfl) ?_
          refine .p rfl rfl (.load rfl rfl rfl (B1.cell 2)) ?_
          refine .p rfl rfl (.gt rfl rfl) ?_
          refine .p rfl rfl (.pickF rfl rfl) ?_
          refine .nil (.code (.keep [(24, _), (1, _)] ⟨rfl, rfl, trivial⟩ ?_))
          refine .condD rfl (fun c24 => ?_) (fun c24 => ?_)
          · refine .seq (.keep [] trivial (.region ?_))
            refine .p rfl rfl (.as rfl) ?_
            refine .nil (.code ?_)
            refine .ret _ rfl ?_
            exact ⟨by unfold oneE; rw [if_neg (fun h => h.elim (fun e => by have := hk0.1 e; omega) (by omega)), if_neg (by omega), if_pos (by omega)]; rfl, N1.ext⟩
          · refine .skip (.code (.seq (.seq (.keep [(1, _)] ⟨rfl, trivial⟩ (.region ?_)))))
            refine .p rfl rfl (.fieldAddr rfl rfl rfl rfl) ?_
            refine .p rfl rfl (.load rfl rfl rfl (B1.cell 3)) ?_
            refine .p rfl rfl (.mv rfl) ?_
            refine .case 27 rfl (fun c27 => ?_) (fun c27 => ?_)
            · refine .p rfl rfl (.fieldAddr rfl rfl rfl rfl) ?_
              refine .p rfl rfl (.load rfl rfl rfl (B1.cell 1)) ?_
              refine .p rfl rfl (.neS rfl rfl) ?_
              refine .p rfl rfl (.pickT rfl rfl) ?_
              refine .nil (.code (.keep [(31, _)] ⟨rfl, trivial⟩ ?_))
              refine .condD rfl (fun c31 => ?_) (fun c31 => ?_)
              · refine .seq (.keep [] trivial (.region ?_))
                refine .p rfl rfl (.as rfl) ?_
                refine .nil (.code ?_)
                refine .ret _ rfl ?_
                exact ⟨by unfold oneE; rw [if_neg (fun h => h.elim (fun e => by have := hk0.1 e; omega) (by omega)), if_neg (by omega), if_neg (by omega), if_pos ⟨c27, c31⟩]; rfl, N1.ext⟩
              · refine .skip (.code (.seq (.keep [] trivial (.region ?_))))
                refine .p rfl rfl (.as rfl) ?_
                refine .nil (.code ?_)
                refine .ret _ rfl ?_
                exact ⟨by unfold oneE; rw [if_neg (fun h => h.elim (fun e => by have := hk0.1 e; omega) (by omega)), if_neg (by omega), if_neg (by omega), if_neg (fun h => c31 h.2)]; rfl, N1.ext⟩
            · refine .skip rfl rfl ?_
              refine .skip rfl rfl ?_
              refine .skip rfl rfl ?_
              refine .p rfl rfl (.pickF rfl rfl) ?_
              refine .nil (.code (.keep [(31, _)] ⟨rfl, trivial⟩ (.condF rfl (.skip (.code (.seq (.keep [] trivial (.region ?_))))))))
              refine .p rfl rfl (.as rfl) ?_
              refine .nil (.code ?_)
              refine .ret _ rfl ?_
              exact ⟨by unfold oneE; rw [if_neg (fun h => h.elim (fun e => by have := hk0.1 e; omega) (by omega)), if_neg (by omega), if_neg (by omega), if_neg (by simp [c27])]; rfl, N1.ext⟩
theorem RefCheck_fn {w : World} {v : Value} {l : List Entry} (h : (Sl tEntry).rep All w v l) : Fn Try.prog 38 [v] w (fun r w2 => r = i64 (checkE l) ∧ Ext (fun _ => False) w w2) := by
  obtain ⟨a, cap, rfl, hcap⟩ := Sl.val h
  have hlim := Sl.lim h
  simp only [Lim] at hlim
  refine Fn.enter (fun w => Try.call38 _ w) Try.func38 rfl ?_
  refine .seq (.region ?_)
  refine .p rfl rfl (.as rfl) ?_
  refine .nil (.code (.seq (.seq (.keep [(0, _)] ⟨rfl, trivial⟩ (.region ?_)))))
  refine .p rfl rfl (.mv rfl) ?_
  refine .p rfl rfl (.len rfl rfl) ?_
  refine .p rfl rfl (.gt rfl rfl) ?_
  refine .nil (.code (.keep [(7, _), (0, _)] ⟨rfl, rfl, trivial⟩ ?_))
  refine .condD rfl (fun c7 => ?_) (fun c7 => ?_)
  · refine .seq (.keep [] trivial (.region ?_))
    refine .p rfl rfl (.as rfl) ?_
    refine .nil (.code ?_)
    refine .ret _ rfl ?_
    exact ⟨by unfold checkE; rw [if_pos (by omega)]; rfl, .refl _⟩
  · refine .skip (.code (.seq (.seq (.keep [(0, _)] ⟨rfl, trivial⟩ (.region ?_)))))
    refine .p rfl rfl (.as rfl) ?_
    refine .nil (.code (.block ?_))
    refine .loop (S := Nat × World) (fun s => [(0, .slice a l.length cap), (3, i64 s.1)]) (fun s => s.2) (fun s => s.1 ≤ l.length ∧ Ext (fun _ => False) w s.2 ∧ chk none l = chk (aheadE l s.1) (l.drop s.1)) (fun s => l.length - s.1) (0, w) ⟨rfl, rfl, trivial⟩ rfl ⟨Nat.zero_le _, .refl _, rfl⟩ ?_
    rintro ⟨i, wi⟩ J ⟨hi', hX, hck⟩ again
    simp only at hi' hX hck
    change G _ [(0, .slice a l.length cap), (3, i64 i)] _ _ wi
    refine .seq (.seq (.region ?_))
    refine .p rfl rfl (.mv rfl) ?_
    refine .p rfl rfl (.mv rfl) ?_
    refine .p rfl rfl (.len rfl rfl) ?_
    refine .p rfl rfl (.lt rfl rfl) ?_
    refine .nil (.code (.keep [(11, _), (0, _), (3, _)] ⟨rfl, rfl, rfl, trivial⟩ ?_))
    refine .condD rfl (fun c11 => ?_) (fun c11 => ?_)
    · have hi : i < l.length := by omega
      obtain ⟨b0, o0, c0, ue, e, _, hcs, hre⟩ := Sl.at h (List.getElem?_eq_getElem hi)
      cases e
      obtain ⟨rfl, h1, h2, h3⟩ := tEntry.val hre
      have hstep := chk_step hi
      refine .skip (.code (.seq (.block (.seq (.keep [(0, _), (3, _)] ⟨rfl, rfl, trivial⟩ (.region ?_))))))
      refine .p rfl rfl (.mv rfl) ?_
      refine .p rfl rfl (.mv rfl) ?_
      refine .p rfl rfl (.indexAddr (s := 4) rfl rfl rfl rfl (by omega)) ?_
      refine .p rfl rfl (.loadA (n := 4) rfl rfl rfl rfl rfl (hcs.ext hX (fun x => x))) ?_
      refine .call (first := []) (captured := []) rfl rfl rfl rfl (RefOne_fn (x := l[i]) (tEntry.mk h1 h2 h3)) ?_
      rintro _ w17 ⟨rfl, X17⟩
      refine .p rfl rfl (.as rfl) ?_
      refine .nil (.code (.seq (.seq (.keep [(4, _), (0, _), (3, _)] ⟨rfl, rfl, rfl, trivial⟩ (.region ?_)))))
      refine .p rfl rfl (.mv rfl) ?_
      refine .p rfl rfl (.ne rfl rfl) ?_
      refine .nil (.code (.keep [(20, _), (4, _), (0, _), (3, _)] ⟨rfl, rfl, rfl, rfl, trivial⟩ ?_))
      refine .condD rfl (fun c20 => ?_) (fun c20 => ?_)
      · refine .seq (.keep [(4, _)] ⟨rfl, trivial⟩ (.region ?_))
        refine .p rfl rfl (.mv rfl) ?_
        refine .p rfl rfl (.as rfl) ?_
        refine .nil (.code ?_)
        refine .ret _ rfl ?_
        exact ⟨by unfold checkE; rw [if_neg (by omega), hck, hstep, if_pos c20]; rfl, hX.trans X17⟩
      · refine .skip (.code (.seq (.keep [(0, _), (3, _)] ⟨rfl, rfl, trivial⟩ (.mix (fun _ => False) [12] (by kernel_rfl) (by kernel_rfl) (by kernel_rfl) ?_))))
        refine .p rfl rfl rfl (fun wx hx => .mv rfl) ?_
        refine .p rfl rfl rfl (fun wx hx => .gt rfl rfl) ?_
        refine .p rfl rfl rfl (fun wx hx => .mv rfl) ?_
        refine .caseD 24 rfl (fun c24 => ?_) (fun c24 => ?_)
        · obtain ⟨j, rfl⟩ : ∃ j, i = j + 1 := ⟨i - 1, by omega⟩
          obtain ⟨b9, o9, c9, ue9, e9, _, hcp, hrp⟩ := Sl.at h (List.getElem?_eq_getElem (show j < l.length by omega))
          cases e9
          obtain ⟨rfl, g1, g2, g3⟩ := tEntry.val hrp
          have e26 : (((j + 1 : Nat) : Int) - 1).toNat = j := by omega
          have hah : aheadE l (j + 1) = some l[j] := List.getElem?_eq_getElem (show j < l.length by omega)
          refine .p rfl rfl rfl (fun wx hx => .mv rfl) ?_
          refine .p rfl rfl rfl (fun wx hx => .mv rfl) ?_
          refine .p rfl rfl rfl (fun wx hx => .sub rfl rfl (by omega)) ?_
          refine .p rfl rfl rfl (fun wx hx => .cast (.indexAddr (s := 4) rfl rfl rfl rfl (by omega)) (show _ = Value.pointer (some ⟨b0, o0 + j * 4, none⟩) by rw [e26])) ?_
          refine .p rfl rfl rfl (fun wx hx => .loadA (n := 4) rfl rfl rfl rfl rfl (hcp.ext (hX.trans (X17.trans hx)) (fun x => x))) ?_
          refine .p rfl rfl rfl (fun wx hx => .mv rfl) ?_
          refine .p rfl rfl rfl (fun wx hx => .mv rfl) ?_
          refine .p rfl rfl rfl (fun wx hx => .indexAddr (s := 4) rfl rfl rfl rfl (by omega)) ?_
          refine .p rfl rfl rfl (fun wx hx => .loadA (n := 4) rfl rfl rfl rfl rfl (hcs.ext (hX.trans (X17.trans hx)) (fun x => x))) ?_
          refine .call (first := []) (captured := []) rfl rfl rfl rfl rfl (RefLess_fn (a := l[j]) (b := l[j + 1]) (tEntry.mk g1 g2 g3) (tEntry.mk h1 h2 h3)) (by rintro _ _ ⟨_, hx⟩; exact hx) ?_
          rintro _ w30 ⟨rfl, X30⟩
          refine .p rfl rfl rfl (fun wx hx => .not rfl) ?_
          refine .p rfl rfl rfl (fun wx hx => .pickT rfl rfl) ?_
          refine .nil (.code (.keep [(36, _), (0, _), (3, _)] ⟨rfl, rfl, rfl, trivial⟩ ?_))
          refine .cond rfl (fun c36 => ?_) (fun c36 => ?_)
          · refine .seq (.keep [] trivial (.region ?_))
            refine .p rfl rfl (.as rfl) ?_
            refine .nil (.code ?_)
            refine .ret _ rfl ?_
            exact ⟨by unfold checkE; rw [if_neg (by omega), hck, hstep, if_neg (by simp [Decidable.not_not.1 c20]), hah, if_pos (by simp [ahd]; simp_all)]; rfl, hX.trans (X17.trans X30)⟩
          · refine .skip (.blk (.code (.keep [(0, _), (3, _)] ⟨rfl, rfl, trivial⟩ (.region ?_))))
            refine .p rfl rfl (.mv rfl) ?_
            refine .p rfl rfl (.add rfl rfl (by omega)) ?_
            refine .p rfl rfl (.as rfl) ?_
            refine .nil ?_
            exact (again (j + 1 + 1, w30) ⟨by show j + 1 + 1 ≤ _; omega, hX.trans (X17.trans X30), by show chk none l = chk (aheadE l (j + 1 + 1)) (l.drop (j + 1 + 1)); rw [hck, hstep, if_neg (by simp [Decidable.not_not.1 c20]), hah, if_neg (by simp [ahd]; simp_all)]⟩ (by show _ - (j + 1 + 1) < _ - (j + 1); omega)).of ⟨rfl, rfl, trivial⟩
        · obtain rfl : i = 0 := by omega
          refine .skip rfl rfl ?_
          refine .skip rfl rfl ?_
          refine .skip rfl rfl ?_
          refine .skip rfl rfl ?_
          refine .skip rfl rfl ?_
          refine .skip rfl rfl ?_
          refine .skip rfl rfl ?_
          refine .skip rfl rfl ?_
          refine .skip rfl rfl ?_
          refine .skip rfl rfl ?_
          refine .skip rfl rfl ?_
          refine .p rfl rfl rfl (fun wx hx => .pickF rfl rfl) ?_
          refine .nil (.code (.keep [(36, _), (0, _), (3, _)] ⟨rfl, rfl, rfl, trivial⟩ (.condF rfl (.skip (.blk (.code (.keep [(0, _), (3, _)] ⟨rfl, rfl, trivial⟩ (.region ?_))))))))
          refine .p rfl rfl (.mv rfl) ?_
          refine .p rfl rfl (.add rfl rfl (by omega)) ?_
          refine .p rfl rfl (.as rfl) ?_
          refine .nil ?_
          exact (again (0 + 1, w17) ⟨by show 0 + 1 ≤ _; omega, hX.trans X17, by show chk none l = chk (aheadE l (0 + 1)) (l.drop (0 + 1)); rw [hck, hstep, if_neg (by simp [Decidable.not_not.1 c20]), if_neg (by simp [aheadE, ahd])]⟩ (by show _ - (0 + 1) < _ - 0; omega)).of ⟨rfl, rfl, trivial⟩
    · obtain rfl : i = l.length := by omega
      refine .exit rfl (.code (.seq (.keep [] trivial (.region ?_))))
      refine .p rfl rfl (.as rfl) ?_
      refine .nil (.code ?_)
      refine .ret _ rfl ?_
      exact ⟨by unfold checkE; rw [if_neg (by omega), hck, List.drop_length, chk]; rfl, hX⟩
theorem together_fn {w : World} {a b : Bs} (ha : a.length < Lim) : Fn Try.prog 69 [str a, str b] w (fun r w2 => r = i64 (preN a b) ∧ Ext (fun _ => False) w w2) := by
  simp only [Lim] at ha
  refine Fn.enter (fun w => Try.call69 _ w) Try.func69 rfl ?_
  refine .seq (.region ?_)
  refine .p rfl rfl (.as rfl) ?_
  refine .nil (.code (.seq (.keep [(0, _), (1, _)] ⟨rfl, rfl, trivial⟩ (.region ?_))))
  refine .p rfl rfl (.as rfl) ?_
  refine .nil (.code (.seq (.block ?_)))
  refine .loop (S := Nat) (fun s => [(0, str a), (1, str b), (5, i64 s)]) (fun s => w) (fun s => s ≤ a.length ∧ s ≤ b.length ∧ preN a b = s + preN (a.drop s) (b.drop s)) (fun s => a.length - s) 0 ⟨rfl, rfl, rfl, trivial⟩ rfl ⟨Nat.zero_le _, Nat.zero_le _, by rw [Nat.zero_add]; rfl⟩ ?_
  rintro k J2 ⟨hk1, hk2, hpre⟩ again2
  refine .seq (.seq ?_)
  refine .meet (S := Bool) (fun s => [(0, str a), (1, str b), (5, i64 k), (24, .bool s)]) (fun s => w) (fun s => (s = true → k < a.length ∧ k < b.length ∧ preN a b = k + 1 + preN (a.drop (k + 1)) (b.drop (k + 1))) ∧ (s = false → preN a b = k)) ?_ ?_
  · rintro q hq
    refine .code ?_
    refine .cond rfl (fun c24 => ?_) (fun c24 => ?_)
    · obtain ⟨ka, kb, hp2⟩ := hq.1 c24
      refine .skip (.code (.block (.keep [(0, _), (1, _), (5, _)] ⟨rfl, rfl, rfl, trivial⟩ (.region ?_))))
      refine .p rfl rfl (.mv rfl) ?_
      refine .p rfl rfl (.add rfl rfl (by omega)) ?_
      refine .p rfl rfl (.as rfl) ?_
      refine .nil (.blk ?_)
      exact (again2 (k + 1) ⟨by omega, by omega, hp2⟩ (by show _ - (k + 1) < _ - k; omega)).of ⟨rfl, rfl, rfl, trivial⟩
    · have hpk := hq.2 c24
      refine .exit rfl (.code (.seq (.keep [(5, _)] ⟨rfl, trivial⟩ (.region ?_))))
      refine .p rfl rfl (.mv rfl) ?_
      refine .p rfl rfl (.as rfl) ?_
      refine .nil (.code ?_)
      refine .ret _ rfl ?_
      exact ⟨by rw [hpk]; rfl, .refl _⟩
  · intro meet
    refine .draws (by kernel_rfl) (by kernel_rfl) ?_
    refine .p rfl rfl (.mv rfl) ?_
    refine .p rfl rfl (.mv rfl) ?_
    refine .p rfl rfl (.lenS rfl rfl) ?_
    refine .p rfl rfl (.lt rfl rfl) ?_
    refine .p rfl rfl (.mv rfl) ?_
    refine .caseD 10 rfl (fun c10 => ?_) (fun c10 => ?_)
    · refine .p rfl rfl (.mv rfl) ?_
      refine .p rfl rfl (.mv rfl) ?_
      refine .p rfl rfl (.lenS rfl rfl) ?_
      refine .p rfl rfl (.lt rfl rfl) ?_
      refine .p rfl rfl (.pickT rfl rfl) ?_
      refine .p rfl rfl (.mv rfl) ?_
      refine .caseD 16 rfl (fun c16 => ?_) (fun c16 => ?_)
      · refine .p rfl rfl (.mv rfl) ?_
        refine .p rfl rfl (.mv rfl) ?_
        refine .p rfl rfl (.idxS rfl rfl rfl (by omega) (show a[(k : Int).toNat]? = some (a[k]'(by omega)) by rw [Int.toNat_natCast]; exact List.getElem?_eq_getElem _)) ?_
        refine .p rfl rfl (.mv rfl) ?_
        refine .p rfl rfl (.mv rfl) ?_
        refine .p rfl rfl (.idxS rfl rfl rfl (by omega) (show b[(k : Int).toNat]? = some (b[k]'(by omega)) by rw [Int.toNat_natCast]; exact List.getElem?_eq_getElem _)) ?_
        refine .p rfl rfl (.eq rfl rfl) ?_
        refine .p rfl rfl (.pickT rfl rfl) ?_
        refine .nil ?_
        exact (meet _ ⟨fun hf => ⟨by omega, by omega, by have hf := (of_decide_eq_true hf); have hk1 : k < a.length := (by omega); have hk2 : k < b.length := (by omega); have := preN_step hk1 hk2; rw [if_pos (UInt8.toNat_inj.1 (by omega))] at this; omega⟩, fun hf => by have hf := of_decide_eq_false hf; have hk1 : k < a.length := (by omega); have hk2 : k < b.length := (by omega); have := preN_step hk1 hk2; rw [if_neg (fun e => hf (by rw [e]))] at this; omega⟩).of ⟨rfl, rfl, rfl, rfl, trivial⟩
      · refine .skip rfl rfl ?_
        refine .skip rfl rfl ?_
        refine .skip rfl rfl ?_
        refine .skip rfl rfl ?_
        refine .skip rfl rfl ?_
        refine .skip rfl rfl ?_
        refine .skip rfl rfl ?_
        refine .p rfl rfl (.pickF rfl rfl) ?_
        refine .nil ?_
        exact (meet false ⟨fun hf => (by cases hf), fun _ => by have := preN_end (a := a) (b := b) (k := k) (by omega); omega⟩).of ⟨rfl, rfl, rfl, rfl, trivial⟩
    · refine .skip rfl rfl ?_
      refine .skip rfl rfl ?_
      refine .skip rfl rfl ?_
      refine .skip rfl rfl ?_
      refine .p rfl rfl (.pickF rfl rfl) ?_
      refine .p rfl rfl (.mv rfl) ?_
      refine .skip rfl rfl ?_
      refine .skip rfl rfl ?_
      refine .skip rfl rfl ?_
      refine .skip rfl rfl ?_
      refine .skip rfl rfl ?_
      refine .skip rfl rfl ?_
      refine .skip rfl rfl ?_
      refine .p rfl rfl (.pickF rfl rfl) ?_
      refine .nil ?_
      exact (meet false ⟨fun hf => (by cases hf), fun _ => by have := preN_end (a := a) (b := b) (k := k) (by omega); omega⟩).of ⟨rfl, rfl, rfl, rfl, trivial⟩
theorem refsmall_fn {w : World} {n : Nat} (hn : n < 9223372036854775808) : Fn Try.prog 68 [i64 n] w (fun r w2 => Gr w2 r (smallF n) w.heap.size ∧ Ext (fun _ => False) w w2) := by
  refine Fn.enter (fun w => Try.call68 _ w) Try.func68 rfl ?_
  refine .seq (.region ?_)
  refine .p rfl rfl (.as rfl) ?_
  refine .nil (.code (.seq (.keep [(0, _)] ⟨rfl, trivial⟩ (.region ?_))))
  refine .p rfl rfl (.mv rfl) ?_
  refine .p rfl rfl (.convU rfl rfl rfl (by omega)) ?_
  refine .call (first := []) (captured := []) rfl rfl rfl rfl (RefSmall_fn (n := n) (by omega)) ?_
  rintro r5 w5 ⟨G5, X5⟩
  refine .p rfl rfl (.as rfl) ?_
  refine .nil (.code ?_)
  refine .ret _ rfl ?_
  exact ⟨G5, X5⟩
theorem Summed_fn {w : World} {v : Value} {l : Bs} {B : Nat → Prop} (h : OwnO tByte (fun _ => False) 5 w v l B) (hB : ∀ k, w.heap.size ≤ k → B k) (hl : l.length + 4 < Lim) : Fn Try.prog 45 [v] w (fun r w2 => OwnO tByte (fun _ => False) 5 w2 r (l ++ sum4 l) B ∧ Ext B w w2) := by
  have hs4 := sum4_length l
  simp only [Lim] at hl
  refine Fn.enter (fun w => Try.call45 _ w) Try.func45 rfl ?_
  refine .seq (.region ?_)
  refine .p rfl rfl (.as rfl) ?_
  refine .nil (.code (.seq (.keep [(0, _)] ⟨rfl, trivial⟩ (.region ?_))))
  refine .p rfl rfl (.mv rfl) ?_
  refine .call (first := []) (captured := []) rfl rfl rfl rfl (RefSum_fn (OwnO.rep h (fun _ _ _ => trivial) (fun _ h _ => h.elim))) ?_
  rintro _ w5 ⟨rfl, S5⟩
  have X5 : Ext (fun _ => False) w w5 := .same S5
  have z5 := X5.size
  have hlt := (crc l).toNat_lt
  refine .p rfl rfl (.conv32_U rfl rfl rfl) ?_
  refine .call (first := []) (captured := []) rfl rfl rfl rfl (RefPut_fn (n := (crc l).toNat) (by omega)) ?_
  rintro r7 w7 ⟨R7, X7⟩
  have z7 := X7.size
  obtain ⟨a6, c6, rfl, hc6⟩ := Sl.val R7
  rw [put8_length] at R7 hc6
  obtain ⟨a7, c7, hv7, hc7, R8⟩ := Sl.cutE R7 0 4 (by omega) (by omega)
  have R8 : tBytes.rep _ w7 _ (sum4 l) := R8
  rw [put8_length]
  refine .p rfl rfl (.as rfl) ?_
  refine .nil (.code (.seq (.keep [(3, _), (0, _)] ⟨rfl, rfl, trivial⟩ (.region ?_))))
  refine .p rfl rfl (.mv rfl) ?_
  refine .p rfl rfl (.mv rfl) ?_
  refine .p rfl rfl (.cast (.cutHi (s := 1) rfl rfl rfl rfl (by omega)) (show cutV 1 a6 c6 0 (4 : Int).toNat = _ from hv7)) ?_
  refine .v rfl rfl (.appendLo (t := tByte) (eb := 1) rfl ((h.ext0 X5).ext0 X7) (fun k hk => hB k (by omega)) rfl (Gr.holds R8) rfl rfl rfl rfl rfl rfl rfl (by omega) (by simp only [Lim]; omega) (fun _ h _ => h.elim)) ?_
  rintro r11 w11 ⟨G11, Y11⟩
  refine .p rfl rfl (.as rfl) ?_
  refine .nil (.code ?_)
  refine .ret _ rfl ?_
  exact ⟨G11, ((X5.trans X7).mono (fun _ _ h => h.elim)).trans Y11⟩
theorem Made_fn {w : World} {v : Value} {l : List Entry} (h : (Sl tEntry).rep All w v l) (hck : checkE l = 0) : Fn Try.prog 41 [v] w (fun r w2 => Gr w2 r (pageB l) w.heap.size ∧ Ext (fun _ => False) w w2) := by
  obtain ⟨a, cap, rfl, hcap⟩ := Sl.val h
  obtain ⟨hl4, hone⟩ := check_ok hck
  refine Fn.enter (fun w => Try.call41 _ w) Try.func41 rfl ?_
  refine .seq (.region ?_)
  refine .p rfl rfl (.as rfl) ?_
  refine .nil (.code (.seq (.keep [(0, _)] ⟨rfl, trivial⟩ (.region ?_))))
  refine .p rfl rfl (.mv rfl) ?_
  refine .p rfl rfl (.len rfl rfl) ?_
  refine .call (first := []) (captured := []) rfl rfl rfl rfl (refsmall_fn (n := l.length) (by omega)) ?_
  rintro r10 w10 ⟨G10, X10⟩
  have hs10 := smallF_length l.length
  refine .p rfl rfl (.as rfl) ?_
  refine .nil (.code (.seq (.keep [(3, _), (0, _)] ⟨rfl, rfl, trivial⟩ (.region ?_))))
  refine .p rfl rfl (.as rfl) ?_
  refine .nil (.code (.seq (.seq (.region ?_))))
  refine .p rfl rfl (.as rfl) ?_
  refine .nil (.code (.block ?_))
  refine .loop (S := Nat × Bs × Bs × Value × World) (fun s => [(0, .slice a l.length cap), (3, s.2.2.2.1), (4, str s.2.2.1), (5, i64 s.1)]) (fun s => s.2.2.2.2) (fun s => s.1 ≤ l.length ∧ (l.take s.1).foldl stepB (smallF l.length, []) = (s.2.1, s.2.2.1) ∧ s.2.1.length ≤ 10 + 5000 * s.1 ∧ s.2.2.1.length ≤ 256 ∧ Gr s.2.2.2.2 s.2.2.2.1 s.2.1 w.heap.size ∧ Ext (fun _ => False) w s.2.2.2.2) (fun s => l.length - s.1) (0, smallF l.length, [], r10, w10) ⟨rfl, rfl, rfl, rfl, trivial⟩ rfl ⟨Nat.zero_le _, rfl, by show (smallF l.length).length ≤ 10 + 5000 * 0; omega, Nat.zero_le _, G10, X10⟩ ?_
  rintro ⟨i, acc, ahead, v5, wi⟩ J ⟨hi', hfold, hacc, hah, hG, hX⟩ again
  simp only at hi' hfold hacc hah hG hX
  have zwi : w.heap.size ≤ wi.heap.size := hX.size
  change G _ [(0, .slice a l.length cap), (3, v5), (4, str ahead), (5, i64 i)] _ _ wi
  refine .seq (.seq (.region ?_))
  refine .p rfl rfl (.mv rfl) ?_
  refine .p rfl rfl (.mv rfl) ?_
  refine .p rfl rfl (.len rfl rfl) ?_
  refine .p rfl rfl (.lt rfl rfl) ?_
  refine .nil (.code (.keep [(14, _), (0, _), (3, _), (4, _), (5, _)] ⟨rfl, rfl, rfl, rfl, rfl, trivial⟩ ?_))
  refine .condD rfl (fun c14 => ?_) (fun c14 => ?_)
  · have hi : i < l.length := by omega
    obtain ⟨b0, o0, c0, ue, e, _, hcs, hre⟩ := Sl.at h (List.getElem?_eq_getElem hi)
    cases e
    obtain ⟨rfl, h1, h2, h3⟩ := tEntry.val hre
    obtain ⟨k1, k2, k3, k4, k5, k6⟩ := one_ok (hone _ (List.getElem_mem hi))
    refine .skip (.code (.seq (.block (.seq (.keep [(0, _), (3, _), (4, _), (5, _)] ⟨rfl, rfl, rfl, rfl, trivial⟩ (.region ?_))))))
    refine .p rfl rfl (.mv rfl) ?_
    refine .p rfl rfl (.mv rfl) ?_
    refine .p rfl rfl (.indexAddr (s := 4) rfl rfl rfl rfl (by omega)) ?_
    refine .p rfl rfl (.loadA (n := 4) rfl rfl rfl rfl rfl (hcs.ext hX (fun x => x))) ?_
    refine .v rfl rfl (.alloc rfl rfl) ?_
    rintro _ w6 ⟨rfl, N6⟩
    refine .s rfl (.storeAll (n := 4) rfl rfl rfl rfl rfl N6.blk rfl) ?_
    intro w9 P6
    have X6 := N6.ext.then P6.ext (by rintro k rfl _; exact Nat.le_refl _)
    have B6 := P6.blk
    have z6 : w9.heap.size = wi.heap.size + 1 := by rw [P6.size, N6.size]
    refine .nil (.code (.seq (.keep [(6, _), (0, _), (3, _), (4, _), (5, _)] ⟨rfl, rfl, rfl, rfl, rfl, trivial⟩ (.region ?_))))
    refine .p rfl rfl (.mv rfl) ?_
    refine .p rfl rfl (.fieldAddr rfl rfl rfl rfl) ?_
    refine .p rfl rfl (.load rfl rfl rfl (B6.cell 0)) ?_
    refine .call (first := []) (captured := []) rfl rfl rfl rfl (together_fn (a := ahead) (b := l[i].key) (by simp only [Lim]; omega)) ?_
    rintro _ w24 ⟨rfl, X24⟩
    have z24 : w9.heap.size ≤ w24.heap.size := X24.size
    obtain ⟨k, hpk⟩ : ∃ k, k = preN ahead l[i].key := ⟨_, rfl⟩
    obtain ⟨kle1, kle2⟩ := preN_le ahead l[i].key
    rw [← hpk] at kle1 kle2 ⊢
    have hsm1 := smallF_length k
    have hsm2 := smallF_length l[i].seq.toNat
    have htx1 := textF_length (l[i].key.drop k)
    have htx2 := textF_length l[i].value
    have hdl : (l[i].key.drop k).length ≤ 256 := by simp; omega
    refine .p rfl rfl (.as rfl) ?_
    refine .nil (.code (.seq (.keep [(7, _), (6, _), (0, _), (3, _), (5, _)] ⟨rfl, rfl, rfl, rfl, rfl, trivial⟩ (.region ?_))))
    refine .p rfl rfl (.mv rfl) ?_
    refine .p rfl rfl (.mv rfl) ?_
    refine .call (first := []) (captured := []) rfl rfl rfl rfl (refsmall_fn (n := k) (by omega)) ?_
    rintro r27 w27 ⟨G27, X27⟩
    have z27 : w24.heap.size ≤ w27.heap.size := X27.size
    have hGB : OwnO tByte (fun _ => False) 5 w27 v5 acc (fun k => (w.heap.size ≤ k ∧ k < wi.heap.size) ∨ w27.heap.size ≤ k) := ((OwnO.mono hG (fun _ h _ => h) (fun j h1 h2 => (.inl ⟨h1, h2⟩ : (w.heap.size ≤ j ∧ j < wi.heap.size) ∨ w27.heap.size ≤ j))).ext0 X6).ext0 (X24.trans X27)
    have B6 := B6.ext (X24.trans X27) (fun x => x)
    have Zx : Ext (fun _ => False) w w27 := hX.trans (X6.trans (X24.trans X27))
    have zx : w.heap.size ≤ wi.heap.size := hX.size
    have hBw : ∀ (m j : Nat), (w.heap.size ≤ j ∧ j < wi.heap.size) ∨ w27.heap.size ≤ j → j < m → w.heap.size ≤ j := fun m j h _ => by rcases h with h | h <;> omega
    refine .v rfl rfl (.appendLo (t := tByte) (eb := 1) rfl hGB (fun k hk => by have hk : w27.heap.size ≤ k := hk; exact .inr (by omega)) rfl (Gr.holds (Gr.rep G27)) rfl rfl rfl rfl rfl rfl rfl (by simp; omega) (by simp [Lim]; omega) (fun _ h _ => h.elim)) ?_
    rintro r28 w28 ⟨G28, Y28⟩
    have z28 : w27.heap.size ≤ w28.heap.size := Y28.size
    refine .p rfl rfl (.as rfl) ?_
    refine .nil (.code (.seq (.keep [(3, _), (7, _), (6, _), (0, _), (5, _)] ⟨rfl, rfl, rfl, rfl, rfl, trivial⟩ (.region ?_))))
    refine .p rfl rfl (.mv rfl) ?_
    refine .p rfl rfl (.fieldAddr rfl rfl rfl rfl) ?_
    refine .p rfl rfl (.load rfl rfl rfl ((B6.ext Y28 (fun h => by rcases h with h | h <;> omega)).cell 0)) ?_
    refine .p rfl rfl (.mv rfl) ?_
    refine .p rfl rfl (.cast (.cutSLo rfl rfl rfl (by omega)) (show _ = str (l[i].key.drop k) by rw [Int.toNat_natCast])) ?_
    refine .call (first := []) (captured := []) rfl rfl rfl rfl (RefText_fn (l := l[i].key.drop k) (by simp only [Lim]; omega) (by simp only [Lim]; omega)) ?_
    rintro r34 w34 ⟨G34, X34⟩
    have z34 : w28.heap.size ≤ w34.heap.size := X34.size
    have B6 := (B6.ext Y28 (fun h => by rcases h with h | h <;> omega)).ext X34 (fun x => x)
    refine .v rfl rfl (.appendLo (t := tByte) (eb := 1) rfl (OwnO.ext0 G28 X34) (fun k hk => by have hk : w34.heap.size ≤ k := hk; exact .inr (by omega)) rfl (Gr.holds (Gr.rep G34)) rfl rfl rfl rfl rfl rfl rfl (by simp; omega) (by simp [Lim]; omega) (fun _ h _ => h.elim)) ?_
    rintro r35 w35 ⟨G35, Y35⟩
    have z35 : w34.heap.size ≤ w35.heap.size := Y35.size
    refine .p rfl rfl (.as rfl) ?_
    refine .nil (.code (.seq (.keep [(3, _), (6, _), (0, _), (5, _)] ⟨rfl, rfl, rfl, rfl, trivial⟩ (.region ?_))))
    refine .p rfl rfl (.mv rfl) ?_
    refine .p rfl rfl (.fieldAddr rfl rfl rfl rfl) ?_
    refine .p rfl rfl (.cast (.load rfl rfl rfl ((B6.ext Y35 (fun h => by rcases h with h | h <;> omega)).cell 2)) (show _ = i64 ((l[i].seq.toNat : Nat) : Int) by rw [Int.toNat_of_nonneg (by omega)])) ?_
    refine .call (first := []) (captured := []) rfl rfl rfl rfl (refsmall_fn (n := l[i].seq.toNat) (by omega)) ?_
    rintro r39 w39 ⟨G39, X39⟩
    have z39 : w35.heap.size ≤ w39.heap.size := X39.size
    have B6 := (B6.ext Y35 (fun h => by rcases h with h | h <;> omega)).ext X39 (fun x => x)
    refine .v rfl rfl (.appendLo (t := tByte) (eb := 1) rfl (OwnO.ext0 G35 X39) (fun k hk => by have hk : w39.heap.size ≤ k := hk; exact .inr (by omega)) rfl (Gr.holds (Gr.rep G39)) rfl rfl rfl rfl rfl rfl rfl (by simp; omega) (by simp [Lim]; omega) (fun _ h _ => h.elim)) ?_
    rintro r40 w40 ⟨G40, Y40⟩
    have z40 : w39.heap.size ≤ w40.heap.size := Y40.size
    refine .p rfl rfl (.as rfl) ?_
    refine .nil (.code (.seq (.seq (.keep [(3, _), (6, _), (0, _), (5, _)] ⟨rfl, rfl, rfl, rfl, trivial⟩ (.region ?_)))))
    refine .p rfl rfl (.fieldAddr rfl rfl rfl rfl) ?_
    refine .p rfl rfl (.load rfl rfl rfl ((B6.ext Y40 (fun h => by rcases h with h | h <;> omega)).cell 3)) ?_
    refine .nil (.code (.keep [(42, _), (3, _), (6, _), (0, _), (5, _)] ⟨rfl, rfl, rfl, rfl, rfl, trivial⟩ ?_))
    refine .meet (S := Value × World) (fun s => [(0, .slice (some ⟨b0, o0, none⟩) l.length cap), (3, s.1), (5, i64 i), (6, .pointer (some ⟨wi.heap.size, 0, none⟩))]) (fun s => s.2) (fun s => OwnO tByte (fun _ => False) 5 s.2 s.1 (acc ++ entB ahead l[i]) (fun k => (w.heap.size ≤ k ∧ k < wi.heap.size) ∨ w27.heap.size ≤ k) ∧ Blk s.2 wi.heap.size 33 [str l[i].key, str l[i].value, i64 l[i].seq, .bool l[i].gone] ∧ Ext (fun _ => False) w s.2 ∧ (acc ++ entB ahead l[i]).length ≤ acc.length + 5000) ?_ ?_
    · rintro ⟨v5', wm⟩ ⟨hGm, Bm, Xm, hlm⟩
      simp only at hGm Bm Xm hlm
      have zm : w.heap.size ≤ wm.heap.size := Xm.size
      refine .code (.region ?_)
      refine .p rfl rfl (.fieldAddr rfl rfl rfl rfl) ?_
      refine .p rfl rfl (.load rfl rfl rfl (Bm.cell 0)) ?_
      refine .p rfl rfl (.as rfl) ?_
      refine .nil (.blk (.code (.keep [(4, _), (0, _), (3, _), (5, _)] ⟨rfl, rfl, rfl, rfl, trivial⟩ (.region ?_))))
      refine .p rfl rfl (.mv rfl) ?_
      refine .p rfl rfl (.add rfl rfl (by omega)) ?_
      refine .p rfl rfl (.as rfl) ?_
      refine .nil ?_
      have hst : (l.take (i + 1)).foldl stepB (smallF l.length, []) = (acc ++ entB ahead l[i], l[i].key) := by rw [List.take_succ_eq_append_getElem hi, List.foldl_append, hfold]; rfl
      exact (again (i + 1, acc ++ entB ahead l[i], l[i].key, v5', wm) ⟨by show i + 1 ≤ _; omega, hst, by show (acc ++ entB ahead l[i]).length ≤ 10 + 5000 * (i + 1); omega, k2, OwnO.mono hGm (fun _ h _ => h) (fun j h _ => by show w.heap.size ≤ j; rcases h with h | h <;> omega), Xm⟩ (by show _ - (i + 1) < _ - i; omega)).of ⟨rfl, rfl, rfl, rfl, trivial⟩
    · intro meet
      refine .cond rfl (fun c42 => ?_) (fun c42 => ?_)
      · refine .keep [(3, _), (6, _), (0, _), (5, _)] ⟨rfl, rfl, rfl, rfl, trivial⟩ (.region ?_)
        refine .p rfl rfl (.mv rfl) ?_
        refine .v rfl rfl (.lits rfl rfl (fun _ => by kernel_rfl)) ?_
        rintro _ w44 ⟨rfl, N44⟩
        have z44 := N44.size
        refine .v rfl rfl (.appendLo (t := tByte) (eb := 1) rfl (OwnO.ext0 G40 N44.ext) (fun k hk => by have hk : w44.heap.size ≤ k := hk; exact .inr (by omega)) rfl (one_holds (c := 1) N44) rfl rfl rfl rfl rfl rfl rfl (by simp; omega) (by simp [Lim]; omega) (fun _ h _ => h.elim)) ?_
        rintro r45 w45 ⟨G45, Y45⟩
        have z45 : w44.heap.size ≤ w45.heap.size := Y45.size
        refine .p rfl rfl (.as rfl) ?_
        refine .nil ?_
        have hent : acc ++ entB ahead l[i] = acc ++ smallF k ++ textF (l[i].key.drop k) ++ smallF l[i].seq.toNat ++ [1] := by unfold entB goneB; rw [if_pos c42, ← hpk]; simp only [List.append_assoc]
        exact (meet (r45, w45) ⟨by show OwnO tByte _ _ w45 r45 (acc ++ entB ahead l[i]) _; rw [hent]; exact G45, ((B6.ext Y40 (fun h => by rcases h with h | h <;> omega)).ext N44.ext (fun x => x)).ext Y45 (fun h => by rcases h with h | h <;> omega), ((((Zx.then Y28 (hBw _)).trans X34).then Y35 (hBw _) |>.trans X39).then Y40 (hBw _) |>.trans N44.ext).then Y45 (hBw _), by rw [hent]; simp; omega⟩).of ⟨rfl, rfl, rfl, rfl, trivial⟩
      · refine .seq (.keep [(3, _), (6, _), (0, _), (5, _)] ⟨rfl, rfl, rfl, rfl, trivial⟩ (.region ?_))
        refine .p rfl rfl (.mv rfl) ?_
        refine .v rfl rfl (.lits rfl rfl (fun _ => by kernel_rfl)) ?_
        rintro _ w47 ⟨rfl, N47⟩
        have z47 := N47.size
        refine .v rfl rfl (.appendLo (t := tByte) (eb := 1) rfl (OwnO.ext0 G40 N47.ext) (fun k hk => by have hk : w47.heap.size ≤ k := hk; exact .inr (by omega)) rfl (one_holds (c := 0) N47) rfl rfl rfl rfl rfl rfl rfl (by simp; omega) (by simp [Lim]; omega) (fun _ h _ => h.elim)) ?_
        rintro r48 w48 ⟨G48, Y48⟩
        have z48 : w47.heap.size ≤ w48.heap.size := Y48.size
        refine .p rfl rfl (.as rfl) ?_
        refine .nil (.code (.keep [(3, _), (6, _), (0, _), (5, _)] ⟨rfl, rfl, rfl, rfl, trivial⟩ (.region ?_)))
        refine .p rfl rfl (.mv rfl) ?_
        refine .p rfl rfl (.fieldAddr rfl rfl rfl rfl) ?_
        refine .p rfl rfl (.load rfl rfl rfl ((((B6.ext Y40 (fun h => by rcases h with h | h <;> omega)).ext N47.ext (fun x => x)).ext Y48 (fun h => by rcases h with h | h <;> omega)).cell 1)) ?_
        refine .call (first := []) (captured := []) rfl rfl rfl rfl (RefText_fn (l := l[i].value) (by simp only [Lim]; omega) (by simp only [Lim]; omega)) ?_
        rintro r52 w52 ⟨G52, X52⟩
        have z52 : w48.heap.size ≤ w52.heap.size := X52.size
        refine .v rfl rfl (.appendLo (t := tByte) (eb := 1) rfl (OwnO.ext0 G48 X52) (fun k hk => by have hk : w52.heap.size ≤ k := hk; exact .inr (by omega)) rfl (Gr.holds (Gr.rep G52)) rfl rfl rfl rfl rfl rfl rfl (by simp; omega) (by simp [Lim]; omega) (fun _ h _ => h.elim)) ?_
        rintro r53 w53 ⟨G53, Y53⟩
        have z53 : w52.heap.size ≤ w53.heap.size := Y53.size
        refine .p rfl rfl (.as rfl) ?_
        refine .nil ?_
        have hent : acc ++ entB ahead l[i] = acc ++ smallF k ++ textF (l[i].key.drop k) ++ smallF l[i].seq.toNat ++ [0] ++ textF l[i].value := by unfold entB goneB; rw [if_neg (by simp [c42]), ← hpk]; simp [List.append_assoc]
        exact (meet (r53, w53) ⟨by show OwnO tByte _ _ w53 r53 (acc ++ entB ahead l[i]) _; rw [hent]; exact G53, ((((B6.ext Y40 (fun h => by rcases h with h | h <;> omega)).ext N47.ext (fun x => x)).ext Y48 (fun h => by rcases h with h | h <;> omega)).ext X52 (fun x => x)).ext Y53 (fun h => by rcases h with h | h <;> omega), ((((((Zx.then Y28 (hBw _)).trans X34).then Y35 (hBw _) |>.trans X39).then Y40 (hBw _) |>.trans N47.ext).then Y48 (hBw _)).trans X52).then Y53 (hBw _), by rw [hent]; simp; omega⟩).of ⟨rfl, rfl, rfl, rfl, trivial⟩
  · obtain rfl : i = l.length := by omega
    rw [List.take_length] at hfold
    have hbody : bodyB l = acc := by unfold bodyB; rw [hfold]
    refine .exit rfl (.code (.seq (.keep [(3, _)] ⟨rfl, trivial⟩ (.region ?_))))
    refine .p rfl rfl (.mv rfl) ?_
    refine .call (first := []) (captured := []) rfl rfl rfl rfl (Summed_fn hG (fun k hk => by show w.heap.size ≤ k; omega) (by simp only [Lim]; omega)) ?_
    rintro r57 w57 ⟨G57, Y57⟩
    refine .p rfl rfl (.as rfl) ?_
    refine .nil (.code ?_)
    refine .ret _ rfl ?_
    exact ⟨by unfold pageB; rw [hbody]; exact G57, hX.then Y57 (fun k hk _ => hk)⟩
theorem RefMake_fn {w : World} {v : Value} {l : List Entry} (h : (Sl tEntry).rep All w v l) : Fn Try.prog 91 [v] w (fun r w2 => ∃ v', r = .tuple #[v', i64 (makeE l).2] ∧ Gr w2 v' (makeE l).1 w.heap.size ∧ Ext (fun _ => False) w w2) := by
  refine Fn.enter (fun w => Try.call91 _ w) Try.func91 rfl ?_
  refine .seq (.region ?_)
  refine .p rfl rfl (.as rfl) ?_
  refine .p rfl rfl (.as rfl) ?_
  refine .nil (.code (.seq (.keep [(0, _)] ⟨rfl, trivial⟩ (.region ?_))))
  refine .p rfl rfl (.mv rfl) ?_
  refine .call (first := []) (captured := []) rfl rfl rfl rfl (RefCheck_fn h) ?_
  rintro _ w7 ⟨rfl, X7⟩
  have z7 := X7.size
  refine .p rfl rfl (.as rfl) ?_
  refine .nil (.code (.seq (.seq (.keep [(4, _), (0, _)] ⟨rfl, rfl, trivial⟩ (.region ?_)))))
  refine .p rfl rfl (.mv rfl) ?_
  refine .p rfl rfl (.ne rfl rfl) ?_
  refine .nil (.code (.keep [(9, _), (4, _), (0, _)] ⟨rfl, rfl, rfl, trivial⟩ ?_))
  refine .condD rfl (fun c9 => ?_) (fun c9 => ?_)
  · refine .seq (.keep [(4, _)] ⟨rfl, trivial⟩ (.region ?_))
    refine .p rfl rfl (.mv rfl) ?_
    refine .p rfl rfl (.as rfl) ?_
    refine .p rfl rfl (.as rfl) ?_
    refine .nil (.code ?_)
    refine .ret _ rfl ?_
    exact ⟨_, by unfold makeE; rw [if_pos c9]; rfl, by unfold makeE; rw [if_pos c9]; exact OwnO.nil, X7⟩
  · have hck : checkE l = 0 := Decidable.not_not.1 c9
    refine .skip (.code (.seq (.keep [(0, _)] ⟨rfl, trivial⟩ (.region ?_))))
    refine .p rfl rfl (.mv rfl) ?_
    refine .call (first := []) (captured := []) rfl rfl rfl rfl (Made_fn ((Sl tEntry).ext0 h X7) hck) ?_
    rintro r12 w12 ⟨G12, X12⟩
    obtain ⟨a12, c12, rfl, hc12⟩ := OwnO.val G12
    refine .p rfl rfl (.as rfl) ?_
    refine .nil (.code (.seq (.seq (.keep [(5, _)] ⟨rfl, trivial⟩ (.region ?_)))))
    refine .p rfl rfl (.mv rfl) ?_
    refine .p rfl rfl (.len rfl rfl) ?_
    refine .p rfl rfl (.gt rfl rfl) ?_
    refine .nil (.code (.keep [(15, _), (5, _)] ⟨rfl, rfl, trivial⟩ ?_))
    refine .condD rfl (fun c15 => ?_) (fun c15 => ?_)
    · refine .seq (.keep [] trivial (.region ?_))
      refine .p rfl rfl (.as rfl) ?_
      refine .p rfl rfl (.as rfl) ?_
      refine .nil (.code ?_)
      refine .ret _ rfl ?_
      have e : makeE l = ([], 7) := by unfold makeE; rw [if_neg c9, if_pos (by omega)]
      rw [e]
      exact ⟨_, rfl, OwnO.nil, X7.trans X12⟩
    · refine .skip (.code (.seq (.keep [(5, _)] ⟨rfl, trivial⟩ (.region ?_))))
      refine .p rfl rfl (.mv rfl) ?_
      refine .p rfl rfl (.as rfl) ?_
      refine .p rfl rfl (.as rfl) ?_
      refine .nil (.code ?_)
      refine .ret _ rfl ?_
      have e : makeE l = (pageB l, 0) := by unfold makeE; rw [if_neg c9, if_neg (by omega)]
      rw [e]
      exact ⟨_, rfl, Gr.low G12 z7, X7.trans X12⟩
theorem RefSame_fn {w : World} {v u : Value} {l m : List Entry} (hl : (Sl tEntry).rep All w v l) (hm : (Sl tEntry).rep All w u m) : Fn Try.prog 14 [v, u] w (fun r w2 => r = .bool (decide (l = m)) ∧ Ext (fun _ => False) w w2) := by
  obtain ⟨a, cap, rfl, hcap⟩ := Sl.val hl
  obtain ⟨a2, cap2, rfl, hcap2⟩ := Sl.val hm
  have hlim := Sl.lim hl
  have hlim2 := Sl.lim hm
  simp only [Lim] at hlim hlim2
  refine Fn.enter (fun w => Try.call14 _ w) Try.func14 rfl ?_
  refine .seq (.region ?_)
  refine .p rfl rfl (.as rfl) ?_
  refine .nil (.code (.seq (.seq (.keep [(0, _), (1, _)] ⟨rfl, rfl, trivial⟩ (.region ?_)))))
  refine .p rfl rfl (.mv rfl) ?_
  refine .p rfl rfl (.len rfl rfl) ?_
  refine .p rfl rfl (.mv rfl) ?_
  refine .p rfl rfl (.len rfl rfl) ?_
  refine .p rfl rfl (.ne rfl rfl) ?_
  refine .nil (.code (.keep [(10, _), (0, _), (1, _)] ⟨rfl, rfl, rfl, trivial⟩ ?_))
  refine .condD rfl (fun c10 => ?_) (fun c10 => ?_)
  · refine .seq (.keep [] trivial (.region ?_))
    refine .p rfl rfl (.as rfl) ?_
    refine .nil (.code ?_)
    refine .ret _ rfl ?_
    exact ⟨by rw [decide_eq_false (fun h => by rw [h] at c10; exact c10 rfl)]; rfl, .refl _⟩
  · refine .skip (.code (.seq (.seq (.keep [(0, _), (1, _)] ⟨rfl, rfl, trivial⟩ (.region ?_)))))
    refine .p rfl rfl (.as rfl) ?_
    refine .nil (.code (.block ?_))
    have hlen : l.length = m.length := by omega
    refine .loop (S := Nat) (fun s => [(0, .slice a l.length cap), (1, .slice a2 m.length cap2), (5, i64 s)]) (fun s => w) (fun s => s ≤ l.length ∧ l.take s = m.take s) (fun s => l.length - s) 0 ⟨rfl, rfl, rfl, trivial⟩ rfl ⟨Nat.zero_le _, rfl⟩ ?_
    rintro i J ⟨hi', htk⟩ again
    refine .seq (.seq (.region ?_))
    refine .p rfl rfl (.mv rfl) ?_
    refine .p rfl rfl (.mv rfl) ?_
    refine .p rfl rfl (.len rfl rfl) ?_
    refine .p rfl rfl (.lt rfl rfl) ?_
    refine .nil (.code (.keep [(14, _), (0, _), (1, _), (5, _)] ⟨rfl, rfl, rfl, rfl, trivial⟩ ?_))
    refine .condD rfl (fun c14 => ?_) (fun c14 => ?_)
    · have hi : i < l.length := by omega
      have him : i < m.length := by omega
      obtain ⟨b0, o0, c0, ue, e, _, hcs, hre⟩ := Sl.at hl (List.getElem?_eq_getElem hi)
      cases e
      obtain ⟨rfl, h1, h2, h3⟩ := tEntry.val hre
      obtain ⟨b1, o1, c1, ue1, e1, _, hcm, hrm⟩ := Sl.at hm (List.getElem?_eq_getElem him)
      cases e1
      obtain ⟨rfl, g1, g2, g3⟩ := tEntry.val hrm
      refine .skip (.code (.seq (.block (.seq (.keep [(0, _), (1, _), (5, _)] ⟨rfl, rfl, rfl, trivial⟩ (.draws (by kernel_rfl) (by kernel_rfl) ?_))))))
      refine .p rfl rfl (.mv rfl) ?_
      refine .p rfl rfl (.mv rfl) ?_
      refine .p rfl rfl (.indexAddr (s := 4) rfl rfl rfl rfl (by omega)) ?_
      refine .p rfl rfl (.loadA (n := 4) rfl rfl rfl rfl rfl hcs) ?_
      refine .p rfl rfl (.mv rfl) ?_
      refine .p rfl rfl (.mv rfl) ?_
      refine .p rfl rfl (.indexAddr (s := 4) rfl rfl rfl rfl (by omega)) ?_
      refine .p rfl rfl (.loadA (n := 4) rfl rfl rfl rfl rfl hcm) ?_
      refine .p rfl rfl (.neA (xs := [_, _, _, _]) (ys := [_, _, _, _]) rfl rfl (by kernel_rfl) (entry_eq l[i] m[i])) ?_
      refine .nil (.code (.keep [(25, _), (0, _), (1, _), (5, _)] ⟨rfl, rfl, rfl, rfl, trivial⟩ ?_))
      refine .cond rfl (fun c25 => ?_) (fun c25 => ?_)
      · refine .seq (.keep [] trivial (.region ?_))
        refine .p rfl rfl (.as rfl) ?_
        refine .nil (.code ?_)
        refine .ret _ rfl ?_
        exact ⟨by rw [decide_eq_false (fun h => by subst h; simp at c25)]; rfl, .refl _⟩
      · refine .skip (.blk (.code (.keep [(0, _), (1, _), (5, _)] ⟨rfl, rfl, rfl, trivial⟩ (.region ?_))))
        refine .p rfl rfl (.mv rfl) ?_
        refine .p rfl rfl (.add rfl rfl (by omega)) ?_
        refine .p rfl rfl (.as rfl) ?_
        refine .nil ?_
        exact (again (i + 1) ⟨by show i + 1 ≤ _; omega, by show l.take (i + 1) = m.take (i + 1); rw [List.take_succ_eq_append_getElem hi, List.take_succ_eq_append_getElem him, htk, show l[i] = m[i] by simpa using c25]⟩ (by show _ - (i + 1) < _ - i; omega)).of ⟨rfl, rfl, rfl, trivial⟩
    · refine .exit rfl (.code (.seq (.keep [] trivial (.region ?_))))
      refine .p rfl rfl (.as rfl) ?_
      refine .nil (.code ?_)
      refine .ret _ rfl ?_
      obtain rfl : i = l.length := by omega
      exact ⟨by rw [decide_eq_true (by rw [List.take_length, hlen, List.take_length] at htk; exact htk)]; rfl, .refl _⟩
end Go.Proofs.Ythkgadhamecnlaa
