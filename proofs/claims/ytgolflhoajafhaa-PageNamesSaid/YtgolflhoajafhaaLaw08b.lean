/-
  PageMakes: walked.
-/
import Derived.Test.YtgolflhoajafhaaRef08
set_option linter.unusedVariables false
set_option linter.unusedSimpArgs false
set_option maxRecDepth 20000
namespace Go.Proofs.Ytgolflhoajafhaa
open Go page
theorem RefSameT_fn {w : World} {v u : Value} {l : List Entry} (hl : (Sl tEntry).rep All w v l) (hm : (Sl tEntry).rep All w u l) : Fn Try.prog 15 [v, u] w (fun r w2 => r = .bool true ∧ Ext (fun _ => False) w w2) :=
  (RefSame_fn hl hm).mono fun r w2 ⟨h1, h2⟩ => ⟨h1.trans (by rw [decide_eq_true rfl]), h2⟩
theorem tEntry.any {P P' : Nat → Prop} {w : World} {v : Value} {x : Entry} (h : tEntry.rep P w v x) : tEntry.rep P' w v x := by
  obtain ⟨rfl, h1, h2, h3⟩ := tEntry.val h
  exact tEntry.mk h1 h2 h3
theorem heavy_fn {w : World} {v : Value} {l : List Entry} (h : (Sl tEntry).rep All w v l) (hb : l.length ≤ 1048576) : Fn Try.prog 8 [v] w (fun r w2 => (∃ q, r = .bool q) ∧ Ext (fun _ => False) w w2) := by
  obtain ⟨a, cap, rfl, hcap⟩ := Sl.val h
  refine Fn.enter (fun w => Try.call8 _ w) Try.func8 rfl ?_
  refine .seq (.region ?_)
  refine .p rfl rfl (.as rfl) ?_
  refine .nil (.code (.seq (.keep [(0, _)] ⟨rfl, trivial⟩ (.region ?_))))
  refine .p rfl rfl (.as rfl) ?_
  refine .nil (.code (.seq (.seq (.region ?_))))
  refine .p rfl rfl (.as rfl) ?_
  refine .nil (.code (.block ?_))
  refine .loop (S := Nat × Int) (fun s => [(0, .slice a l.length cap), (3, i64 s.2), (4, i64 s.1)]) (fun s => w) (fun s => s.1 ≤ l.length ∧ 0 ≤ s.2 ∧ s.2 ≤ 200000 * (s.1 : Int)) (fun s => l.length - s.1) (0, 0) ⟨rfl, rfl, rfl, trivial⟩ rfl ⟨Nat.zero_le _, (by decide : (0 : Int) ≤ 0), (by decide : (0 : Int) ≤ 200000 * ((0 : Nat) : Int))⟩ ?_
  rintro ⟨i, n⟩ J ⟨hi', hn0, hn⟩ again
  simp only at hi' hn0 hn
  change G _ [(0, .slice a l.length cap), (3, i64 n), (4, i64 i)] _ _ w
  refine .seq (.seq (.region ?_))
  refine .p rfl rfl (.mv rfl) ?_
  refine .p rfl rfl (.mv rfl) ?_
  refine .p rfl rfl (.len rfl rfl) ?_
  refine .p rfl rfl (.lt rfl rfl) ?_
  refine .nil (.code (.keep [(8, _), (0, _), (3, _), (4, _)] ⟨rfl, rfl, rfl, rfl, trivial⟩ ?_))
  refine .condD rfl (fun c8 => ?_) (fun c8 => ?_)
  · have hi : i < l.length := by omega
    obtain ⟨b0, o0, c0, ue, e, _, hcs, hre⟩ := Sl.at h (List.getElem?_eq_getElem hi)
    cases e
    obtain ⟨rfl, h1, h2, h3⟩ := tEntry.val hre
    refine .skip (.code (.seq (.block (.keep [(0, _), (3, _), (4, _)] ⟨rfl, rfl, rfl, trivial⟩ (.draws (by kernel_rfl) (by kernel_rfl) ?_)))))
    refine .p rfl rfl (.mv rfl) ?_
    refine .p rfl rfl (.mv rfl) ?_
    refine .p rfl rfl (.mv rfl) ?_
    refine .p rfl rfl (.indexAddr (s := 4) rfl rfl rfl rfl (by omega)) ?_
    refine .p rfl rfl (.fieldAddr rfl rfl rfl rfl) ?_
    refine .p rfl rfl (.load rfl rfl rfl (hcs 0 _ rfl)) ?_
    refine .p rfl rfl (.lenS rfl rfl) ?_
    refine .p rfl rfl (.min2 rfl rfl) ?_
    refine .p rfl rfl (.add rfl rfl (by omega)) ?_
    refine .p rfl rfl (.mv rfl) ?_
    refine .p rfl rfl (.mv rfl) ?_
    refine .p rfl rfl (.indexAddr (s := 4) rfl rfl rfl rfl (by omega)) ?_
    refine .p rfl rfl (.fieldAddr rfl rfl rfl rfl) ?_
    refine .p rfl rfl (.load rfl rfl rfl (hcs 1 _ rfl)) ?_
    refine .p rfl rfl (.lenS rfl rfl) ?_
    refine .p rfl rfl (.min2 rfl rfl) ?_
    refine .p rfl rfl (.add rfl rfl (by omega)) ?_
    refine .p rfl rfl (.as rfl) ?_
    refine .nil (.blk (.code (.keep [(3, _), (0, _), (4, _)] ⟨rfl, rfl, rfl, trivial⟩ (.region ?_))))
    refine .p rfl rfl (.mv rfl) ?_
    refine .p rfl rfl (.add rfl rfl (by omega)) ?_
    refine .p rfl rfl (.as rfl) ?_
    refine .nil ?_
    exact (again (i + 1, _) ⟨by show i + 1 ≤ _; omega, by show (0 : Int) ≤ n + min _ _ + min _ _; omega, by show n + min _ _ + min _ _ ≤ 200000 * ((i + 1 : Nat) : Int); omega⟩ (by show _ - (i + 1) < _ - i; omega)).of ⟨rfl, rfl, rfl, trivial⟩
  · refine .exit rfl (.code (.seq (.keep [(0, _), (3, _)] ⟨rfl, rfl, trivial⟩ (.region ?_))))
    refine .p rfl rfl (.mv rfl) ?_
    refine .p rfl rfl (.len rfl rfl) ?_
    refine .p rfl rfl (.gt rfl rfl) ?_
    refine .p rfl rfl (.mv rfl) ?_
    refine .caseD 31 rfl (fun c31 => ?_) (fun c31 => ?_)
    · refine .p rfl rfl (.mv rfl) ?_
      refine .p rfl rfl (.len rfl rfl) ?_
      refine .p rfl rfl (.le rfl rfl) ?_
      refine .p rfl rfl (.pickT rfl rfl) ?_
      refine .p rfl rfl (.mv rfl) ?_
      refine .caseD 36 rfl (fun c36 => ?_) (fun c36 => ?_)
      · refine .skip rfl rfl ?_
        refine .skip rfl rfl ?_
        refine .skip rfl rfl ?_
        refine .p rfl rfl (.pickT rfl rfl) ?_
        refine .p rfl rfl (.mv rfl) ?_
        refine .skip rfl rfl ?_
        refine .skip rfl rfl ?_
        refine .p rfl rfl (.pickT rfl rfl) ?_
        refine .p rfl rfl (.as rfl) ?_
        refine .nil (.code ?_)
        refine .ret _ rfl ?_
        exact ⟨⟨_, rfl⟩, .refl _⟩
      · refine .p rfl rfl (.mv rfl) ?_
        refine .p rfl rfl (.len rfl rfl) ?_
        refine .p rfl rfl (.gt rfl rfl) ?_
        refine .p rfl rfl (.pickF rfl rfl) ?_
        refine .p rfl rfl (.mv rfl) ?_
        refine .caseD 41 rfl (fun c41 => ?_) (fun c41 => ?_)
        · refine .skip rfl rfl ?_
          refine .skip rfl rfl ?_
          refine .p rfl rfl (.pickT rfl rfl) ?_
          refine .p rfl rfl (.as rfl) ?_
          refine .nil (.code ?_)
          refine .ret _ rfl ?_
          exact ⟨⟨_, rfl⟩, .refl _⟩
        · refine .p rfl rfl (.mv rfl) ?_
          refine .p rfl rfl (.gt rfl rfl) ?_
          refine .p rfl rfl (.pickF rfl rfl) ?_
          refine .p rfl rfl (.as rfl) ?_
          refine .nil (.code ?_)
          refine .ret _ rfl ?_
          exact ⟨⟨_, rfl⟩, .refl _⟩
    · refine .skip rfl rfl ?_
      refine .skip rfl rfl ?_
      refine .skip rfl rfl ?_
      refine .p rfl rfl (.pickF rfl rfl) ?_
      refine .p rfl rfl (.mv rfl) ?_
      refine .p rfl rfl (.mv rfl) ?_
      refine .p rfl rfl (.len rfl rfl) ?_
      refine .p rfl rfl (.gt rfl rfl) ?_
      refine .p rfl rfl (.pickF rfl rfl) ?_
      refine .p rfl rfl (.mv rfl) ?_
      refine .caseD 41 rfl (fun c41 => ?_) (fun c41 => ?_)
      · refine .skip rfl rfl ?_
        refine .skip rfl rfl ?_
        refine .p rfl rfl (.pickT rfl rfl) ?_
        refine .p rfl rfl (.as rfl) ?_
        refine .nil (.code ?_)
        refine .ret _ rfl ?_
        exact ⟨⟨_, rfl⟩, .refl _⟩
      · refine .p rfl rfl (.mv rfl) ?_
        refine .p rfl rfl (.gt rfl rfl) ?_
        refine .p rfl rfl (.pickF rfl rfl) ?_
        refine .p rfl rfl (.as rfl) ?_
        refine .nil (.code ?_)
        refine .ret _ rfl ?_
        exact ⟨⟨_, rfl⟩, .refl _⟩
theorem PageMakes_fn {w : World} {v : Value} {l : List Entry} (h : (Sl tEntry).rep All w v l) (hb : l.length ≤ 1048576) : Fn Try.prog 3 [v] w (fun r w2 => r = .bool true ∧ Ext (fun _ => False) w w2) := by
  obtain ⟨a, cap, rfl, hcap⟩ := Sl.val h
  refine Fn.enter (fun w => Try.call3 _ w) Try.func3 rfl ?_
  refine .seq (.region ?_)
  refine .p rfl rfl (.as rfl) ?_
  refine .nil (.code (.seq (.seq (.keep [(0, _)] ⟨rfl, trivial⟩ (.region ?_)))))
  refine .p rfl rfl (.mv rfl) ?_
  refine .call (first := []) (captured := []) rfl rfl rfl rfl (heavy_fn h hb) ?_
  rintro _ w10 ⟨⟨q, rfl⟩, X10⟩
  have z10 := X10.size
  refine .nil (.code (.keep [(10, _), (0, _)] ⟨rfl, rfl, trivial⟩ ?_))
  refine .cond rfl (fun c10 => ?_) (fun c10 => ?_)
  · refine .seq (.keep [] trivial (.region ?_))
    refine .p rfl rfl (.as rfl) ?_
    refine .nil (.code ?_)
    refine .ret _ rfl ?_
    exact ⟨rfl, (by repeat (first | exact Ext.refl _ | assumption | refine Ext.trans (by assumption) ?_))⟩
  · refine .skip (.code (.seq (.keep [(0, _)] ⟨rfl, trivial⟩ (.region ?_))))
    refine .p rfl rfl (.mv rfl) ?_
    refine .v rfl rfl (.appendLo (t := tEntry) (Q := fun _ => False) (B := fun k => w10.heap.size ≤ k) (eb := 48) rfl OwnO.nil (fun k hk => hk) rfl (Sl.holds ((Sl tEntry).ext0 h X10) (fun _ _ h => tEntry.any h)) rfl rfl rfl rfl rfl rfl rfl (by simp; omega) (by simp [Lim]; omega) (fun _ h _ => h.elim)) ?_
    rintro r12 w12 ⟨G12, Y12⟩
    have X12 := Y12.mono (S' := fun _ => False) (fun k hk he => by have he : w10.heap.size ≤ k := he; omega)
    clear Y12
    rw [List.nil_append] at G12
    have R12 := OwnO.rep G12 (R := All) (fun _ _ _ => trivial) (fun _ h _ => h.elim)
    obtain ⟨a12, c12, rfl, hc12⟩ := OwnO.val G12
    refine .p rfl rfl (.as rfl) ?_
    refine .nil (.code (.seq (.keep [(3, _), (0, _)] ⟨rfl, rfl, trivial⟩ (.region ?_))))
    refine .p rfl rfl (.mv rfl) ?_
    refine .call (first := []) (captured := []) rfl rfl rfl rfl (Make_fn R12) ?_
    rintro _ w15 ⟨v15, rfl, G15, X15⟩
    have R15 := Gr.rep G15
    refine .p rfl rfl (.mv rfl) ?_
    refine .p rfl rfl (.extract rfl rfl) ?_
    refine .p rfl rfl (.extract rfl rfl) ?_
    refine .p rfl rfl (.as rfl) ?_
    refine .p rfl rfl (.as rfl) ?_
    refine .nil (.code (.seq (.keep [(5, _), (4, _), (3, _), (0, _)] ⟨rfl, rfl, rfl, rfl, trivial⟩ (.region ?_))))
    refine .p rfl rfl (.mv rfl) ?_
    refine .call (first := []) (captured := []) rfl rfl rfl rfl (RefMake_fn ((Sl tEntry).ext0 h (by repeat (first | exact Ext.refl _ | assumption | refine Ext.trans (by assumption) ?_)))) ?_
    rintro _ w20 ⟨v20, rfl, G20, X20⟩
    have R20 := Gr.rep G20
    refine .p rfl rfl (.mv rfl) ?_
    refine .p rfl rfl (.extract rfl rfl) ?_
    refine .p rfl rfl (.extract rfl rfl) ?_
    refine .p rfl rfl (.as rfl) ?_
    refine .p rfl rfl (.as rfl) ?_
    refine .nil (.code (.seq (.seq (.keep [(7, _), (6, _), (5, _), (4, _), (3, _), (0, _)] ⟨rfl, rfl, rfl, rfl, rfl, rfl, trivial⟩ (.region ?_)))))
    refine .p rfl rfl (.as rfl) ?_
    refine .nil (.code (.block ?_))
    refine .loop (S := Nat × World) (fun s => [(0, .slice a l.length cap), (3, .slice a12 l.length c12), (4, v15), (5, i64 (makeE l).2), (6, v20), (7, i64 (makeE l).2), (8, i64 s.1)]) (fun s => s.2) (fun s => 1 ≤ s.1 ∧ Ext (fun _ => False) w20 s.2) (fun s => l.length - s.1) (1, w20) ⟨rfl, rfl, rfl, rfl, rfl, rfl, rfl, trivial⟩ rfl ⟨(by decide : 1 ≤ 1), .refl _⟩ ?_
    rintro ⟨i, wi⟩ J ⟨hi1, hX⟩ again
    simp only at hi1 hX
    change G _ [(0, .slice a l.length cap), (3, .slice a12 l.length c12), (4, v15), (5, i64 (makeE l).2), (6, v20), (7, i64 (makeE l).2), (8, i64 i)] _ _ wi
    refine .seq (.seq ?_)
    refine .meet (S := Bool) (fun s => [(0, .slice a l.length cap), (3, .slice a12 l.length c12), (4, v15), (5, i64 (makeE l).2), (6, v20), (7, i64 (makeE l).2), (8, i64 i), (30, .bool s)]) (fun s => wi) (fun s => s = true → i < l.length ∧ 1 ≤ i) ?_ ?_
    · rintro q2 hq
      refine .code ?_
      refine .cond rfl (fun c30 => ?_) (fun c30 => ?_)
      · obtain ⟨hi, h1i⟩ := hq c30
        obtain ⟨j, rfl⟩ : ∃ j, i = j + 1 := ⟨i - 1, by omega⟩
        obtain ⟨b0, o0, c0, ue, e, _, hcs, hre⟩ := Sl.at h (List.getElem?_eq_getElem hi)
        cases e
        obtain ⟨rfl, h1, h2, h3⟩ := tEntry.val hre
        obtain ⟨b9, o9, c9, ue9, e9, _, hcp, hrp⟩ := Sl.at h (List.getElem?_eq_getElem (show j < l.length by omega))
        cases e9
        obtain ⟨rfl, g1, g2, g3⟩ := tEntry.val hrp
        have e26 : (((j + 1 : Nat) : Int) - 1).toNat = j := by omega
        refine .skip (.code (.seq (.block (.seq (.keep [(0, _), (3, _), (4, _), (5, _), (6, _), (7, _), (8, _)] ⟨rfl, rfl, rfl, rfl, rfl, rfl, rfl, trivial⟩ (.mix (fun _ => False) [9, 19, 31, 41] (by kernel_rfl) (by kernel_rfl) (by kernel_rfl) ?_))))))
        refine .p rfl rfl rfl (fun wx hx => .mv rfl) ?_
        refine .p rfl rfl rfl (fun wx hx => .mv rfl) ?_
        refine .p rfl rfl rfl (fun wx hx => .sub rfl rfl (by omega)) ?_
        refine .p rfl rfl rfl (fun wx hx => .cast (.indexAddr (s := 4) rfl rfl rfl rfl (by omega)) (show _ = Value.pointer (some ⟨b0, o0 + j * 4, none⟩) by rw [e26])) ?_
        refine .p rfl rfl rfl (fun wx hx => .loadA (n := 4) rfl rfl rfl rfl rfl (hcp.ext (S := fun _ => False) (Ext.trans (by repeat (first | exact Ext.refl _ | assumption | refine Ext.trans (by assumption) ?_)) hx) (fun x => x))) ?_
        refine .p rfl rfl rfl (fun wx hx => .mv rfl) ?_
        refine .p rfl rfl rfl (fun wx hx => .mv rfl) ?_
        refine .p rfl rfl rfl (fun wx hx => .indexAddr (s := 4) rfl rfl rfl rfl (by omega)) ?_
        refine .p rfl rfl rfl (fun wx hx => .loadA (n := 4) rfl rfl rfl rfl rfl (hcs.ext (S := fun _ => False) (Ext.trans (by repeat (first | exact Ext.refl _ | assumption | refine Ext.trans (by assumption) ?_)) hx) (fun x => x))) ?_
        refine .call (first := []) (captured := []) rfl rfl rfl rfl rfl (Less_fn (a := l[j]) (b := l[j + 1]) (tEntry.mk g1 g2 g3) (tEntry.mk h1 h2 h3)) (by rintro _ _ ⟨_, hx⟩; exact Ext.trans (by repeat (first | exact Ext.refl _ | assumption | refine Ext.trans (by assumption) ?_)) hx) ?_
        rintro _ w42 ⟨rfl, X42⟩
        refine .p rfl rfl rfl (fun wx hx => .mv rfl) ?_
        refine .p rfl rfl rfl (fun wx hx => .mv rfl) ?_
        refine .p rfl rfl rfl (fun wx hx => .sub rfl rfl (by omega)) ?_
        refine .p rfl rfl rfl (fun wx hx => .cast (.indexAddr (s := 4) rfl rfl rfl rfl (by omega)) (show _ = Value.pointer (some ⟨b0, o0 + j * 4, none⟩) by rw [e26])) ?_
        refine .p rfl rfl rfl (fun wx hx => .loadA (n := 4) rfl rfl rfl rfl rfl (hcp.ext (S := fun _ => False) (Ext.trans (by repeat (first | exact Ext.refl _ | assumption | refine Ext.trans (by assumption) ?_)) hx) (fun x => x))) ?_
        refine .p rfl rfl rfl (fun wx hx => .mv rfl) ?_
        refine .p rfl rfl rfl (fun wx hx => .mv rfl) ?_
        refine .p rfl rfl rfl (fun wx hx => .indexAddr (s := 4) rfl rfl rfl rfl (by omega)) ?_
        refine .p rfl rfl rfl (fun wx hx => .loadA (n := 4) rfl rfl rfl rfl rfl (hcs.ext (S := fun _ => False) (Ext.trans (by repeat (first | exact Ext.refl _ | assumption | refine Ext.trans (by assumption) ?_)) hx) (fun x => x))) ?_
        refine .call (first := []) (captured := []) rfl rfl rfl rfl rfl (RefLess_fn (a := l[j]) (b := l[j + 1]) (tEntry.mk g1 g2 g3) (tEntry.mk h1 h2 h3)) (by rintro _ _ ⟨_, hx⟩; exact Ext.trans (by repeat (first | exact Ext.refl _ | assumption | refine Ext.trans (by assumption) ?_)) hx) ?_
        rintro _ w52 ⟨rfl, X52⟩
        refine .p rfl rfl rfl (fun wx hx => .cast (.neB rfl rfl rfl) (show _ = Value.bool false by simp)) ?_
        refine .p rfl rfl rfl (fun wx hx => .mv rfl) ?_
        refine .p rfl rfl rfl (fun wx hx => .mv rfl) ?_
        refine .p rfl rfl rfl (fun wx hx => .mv rfl) ?_
        refine .p rfl rfl rfl (fun wx hx => .indexAddr (s := 4) rfl rfl rfl rfl (by omega)) ?_
        refine .p rfl rfl rfl (fun wx hx => .loadA (n := 4) rfl rfl rfl rfl rfl (hcs.ext (S := fun _ => False) (Ext.trans (by repeat (first | exact Ext.refl _ | assumption | refine Ext.trans (by assumption) ?_)) hx) (fun x => x))) ?_
        refine .p rfl rfl rfl (fun wx hx => .mv rfl) ?_
        refine .p rfl rfl rfl (fun wx hx => .mv rfl) ?_
        refine .p rfl rfl rfl (fun wx hx => .sub rfl rfl (by omega)) ?_
        refine .p rfl rfl rfl (fun wx hx => .cast (.indexAddr (s := 4) rfl rfl rfl rfl (by omega)) (show _ = Value.pointer (some ⟨b0, o0 + j * 4, none⟩) by rw [e26])) ?_
        refine .p rfl rfl rfl (fun wx hx => .loadA (n := 4) rfl rfl rfl rfl rfl (hcp.ext (S := fun _ => False) (Ext.trans (by repeat (first | exact Ext.refl _ | assumption | refine Ext.trans (by assumption) ?_)) hx) (fun x => x))) ?_
        refine .call (first := []) (captured := []) rfl rfl rfl rfl rfl (Less_fn (a := l[j + 1]) (b := l[j]) (tEntry.mk h1 h2 h3) (tEntry.mk g1 g2 g3)) (by rintro _ _ ⟨_, hx⟩; exact Ext.trans (by repeat (first | exact Ext.refl _ | assumption | refine Ext.trans (by assumption) ?_)) hx) ?_
        rintro _ w64 ⟨rfl, X64⟩
        refine .p rfl rfl rfl (fun wx hx => .mv rfl) ?_
        refine .p rfl rfl rfl (fun wx hx => .mv rfl) ?_
        refine .p rfl rfl rfl (fun wx hx => .indexAddr (s := 4) rfl rfl rfl rfl (by omega)) ?_
        refine .p rfl rfl rfl (fun wx hx => .loadA (n := 4) rfl rfl rfl rfl rfl (hcs.ext (S := fun _ => False) (Ext.trans (by repeat (first | exact Ext.refl _ | assumption | refine Ext.trans (by assumption) ?_)) hx) (fun x => x))) ?_
        refine .p rfl rfl rfl (fun wx hx => .mv rfl) ?_
        refine .p rfl rfl rfl (fun wx hx => .mv rfl) ?_
        refine .p rfl rfl rfl (fun wx hx => .sub rfl rfl (by omega)) ?_
        refine .p rfl rfl rfl (fun wx hx => .cast (.indexAddr (s := 4) rfl rfl rfl rfl (by omega)) (show _ = Value.pointer (some ⟨b0, o0 + j * 4, none⟩) by rw [e26])) ?_
        refine .p rfl rfl rfl (fun wx hx => .loadA (n := 4) rfl rfl rfl rfl rfl (hcp.ext (S := fun _ => False) (Ext.trans (by repeat (first | exact Ext.refl _ | assumption | refine Ext.trans (by assumption) ?_)) hx) (fun x => x))) ?_
        refine .call (first := []) (captured := []) rfl rfl rfl rfl rfl (RefLess_fn (a := l[j + 1]) (b := l[j]) (tEntry.mk h1 h2 h3) (tEntry.mk g1 g2 g3)) (by rintro _ _ ⟨_, hx⟩; exact Ext.trans (by repeat (first | exact Ext.refl _ | assumption | refine Ext.trans (by assumption) ?_)) hx) ?_
        rintro _ w74 ⟨rfl, X74⟩
        refine .p rfl rfl rfl (fun wx hx => .cast (.neB rfl rfl rfl) (show _ = Value.bool false by simp)) ?_
        refine .p rfl rfl rfl (fun wx hx => .pickF rfl rfl) ?_
        refine .nil (.code (.keep [(76, _), (0, _), (3, _), (4, _), (5, _), (6, _), (7, _), (8, _)] ⟨rfl, rfl, rfl, rfl, rfl, rfl, rfl, rfl, trivial⟩ (.condF rfl (.skip (.blk (.code (.keep [(0, _), (3, _), (4, _), (5, _), (6, _), (7, _), (8, _)] ⟨rfl, rfl, rfl, rfl, rfl, rfl, rfl, trivial⟩ (.region ?_))))))))
        refine .p rfl rfl (.mv rfl) ?_
        refine .p rfl rfl (.add rfl rfl (by omega)) ?_
        refine .p rfl rfl (.as rfl) ?_
        refine .nil ?_
        exact (again (j + 1 + 1, w74) ⟨by show 1 ≤ j + 1 + 1; omega, (by repeat (first | exact Ext.refl _ | assumption | refine Ext.trans (by assumption) ?_))⟩ (by show _ - (j + 1 + 1) < _ - (j + 1); omega)).of ⟨rfl, rfl, rfl, rfl, rfl, rfl, rfl, trivial⟩
      · refine .exit rfl (.code (.seq (.keep [(0, _), (3, _), (4, _), (5, _), (6, _), (7, _)] ⟨rfl, rfl, rfl, rfl, rfl, rfl, trivial⟩ (.region ?_))))
        refine .p rfl rfl (.mv rfl) ?_
        refine .p rfl rfl (.bytesStr rfl (tBytes.ext0 R15 (by repeat (first | exact Ext.refl _ | assumption | refine Ext.trans (by assumption) ?_))) rfl rfl rfl) ?_
        refine .p rfl rfl (.mv rfl) ?_
        refine .p rfl rfl (.bytesStr rfl (tBytes.ext0 R20 (by repeat (first | exact Ext.refl _ | assumption | refine Ext.trans (by assumption) ?_))) rfl rfl rfl) ?_
        refine .p rfl rfl (.yes (.eqS rfl rfl) (rfl)) ?_
        refine .p rfl rfl (.mv rfl) ?_
        refine .p rfl rfl (.mv rfl) ?_
        refine .p rfl rfl (.mv rfl) ?_
        refine .p rfl rfl (.yes (.eq rfl rfl) (rfl)) ?_
        refine .p rfl rfl (.pickT rfl rfl) ?_
        refine .p rfl rfl (.mv rfl) ?_
        refine .p rfl rfl (.mv rfl) ?_
        refine .call (first := []) (captured := []) rfl rfl rfl rfl (Check_fn ((Sl tEntry).ext0 R12 (by repeat (first | exact Ext.refl _ | assumption | refine Ext.trans (by assumption) ?_)))) ?_
        rintro _ w89 ⟨rfl, X89⟩
        refine .p rfl rfl (.mv rfl) ?_
        refine .call (first := []) (captured := []) rfl rfl rfl rfl (RefCheck_fn ((Sl tEntry).ext0 h (by repeat (first | exact Ext.refl _ | assumption | refine Ext.trans (by assumption) ?_)))) ?_
        rintro _ w91 ⟨rfl, X91⟩
        refine .p rfl rfl (.yes (.eq rfl rfl) (rfl)) ?_
        refine .p rfl rfl (.pickT rfl rfl) ?_
        refine .p rfl rfl (.mv rfl) ?_
        refine .p rfl rfl (.mv rfl) ?_
        refine .p rfl rfl (.mv rfl) ?_
        refine .call (first := []) (captured := []) rfl rfl rfl rfl (RefSameT_fn ((Sl tEntry).ext0 R12 (by repeat (first | exact Ext.refl _ | assumption | refine Ext.trans (by assumption) ?_))) ((Sl tEntry).ext0 h (by repeat (first | exact Ext.refl _ | assumption | refine Ext.trans (by assumption) ?_)))) ?_
        rintro _ w97 ⟨rfl, X97⟩
        refine .p rfl rfl (.pickT rfl rfl) ?_
        refine .p rfl rfl (.as rfl) ?_
        refine .nil (.code ?_)
        refine .ret _ rfl ?_
        exact ⟨rfl, (by repeat (first | exact Ext.refl _ | assumption | refine Ext.trans (by assumption) ?_))⟩
    · intro meet
      refine .region ?_
      refine .p rfl rfl (.mv rfl) ?_
      refine .p rfl rfl (.mv rfl) ?_
      refine .p rfl rfl (.len rfl rfl) ?_
      refine .p rfl rfl (.lt rfl rfl) ?_
      refine .p rfl rfl (.mv rfl) ?_
      refine .caseD 27 rfl (fun c27 => ?_) (fun c27 => ?_)
      · refine .p rfl rfl (.mv rfl) ?_
        refine .p rfl rfl (.lt rfl rfl) ?_
        refine .p rfl rfl (.pickT rfl rfl) ?_
        refine .nil ?_
        exact (meet _ (by intro hf; first | (cases hf; done) | (refine ⟨?_, ?_⟩ <;> omega))).of ⟨rfl, rfl, rfl, rfl, rfl, rfl, rfl, rfl, trivial⟩
      · refine .skip rfl rfl ?_
        refine .skip rfl rfl ?_
        refine .p rfl rfl (.pickF rfl rfl) ?_
        refine .nil ?_
        exact (meet _ (by intro hf; first | (cases hf; done) | (refine ⟨?_, ?_⟩ <;> omega))).of ⟨rfl, rfl, rfl, rfl, rfl, rfl, rfl, rfl, trivial⟩
end Go.Proofs.Ytgolflhoajafhaa
