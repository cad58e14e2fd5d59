
/-
  LogNames: walked.
-/
import Derived.Test.YtapdacjpmmjlhaaLaw05h
set_option linter.unusedVariables false
set_option linter.unusedSimpArgs false
set_option maxRecDepth 20000
namespace Go.Proofs.Ytapdacjpmmjlhaa
open Go disk log
namespace log
theorem open_err0 {E p : UInt32} {b : Bs} (h : ¬ E = 0) : (openF E p b).2.2.2 = 0 := by
  unfold openF
  rw [if_neg h]
  split
  · rfl
  · split
    · rfl
    · split <;> rfl
def z113 : Bs := List.replicate 113 0
theorem F_length : (frameL 1 1 0 abc).length = 128 := by rw [frameL_length]; rfl
theorem F_cut : ((frameL 1 1 0 abc).drop (0 * 128)).take 128 = frameL 1 1 0 abc := by rw [Nat.zero_mul, List.drop_zero, List.take_of_length_le (by rw [F_length]; exact Nat.le_refl _)]
theorem F_20 : (frameL 1 1 0 abc).take 20 = [1, 0, 0, 0, 1, 0, 0, 0, 0, 0, 0, 0, 0, 1, 3, 0, 97, 98, 99, 0] := by decide +kernel
theorem x3_ex : ∃ y z s, doF Y100 (actsTo 17 (frameL 1 1 0 abc) (needs abc.length)) = (y, 0) ∧ doF y (addF y z113).1 = (z, 0) ∧ (stateF z).2 = 0 ∧ (stateF z).1.at' = 3 ∧ s = (stateF y) := by
  have ha : (addF Y100 abc).2 = 0 := by rw [x1_add (by decide)]
  obtain ⟨y, s, g1, g2, g3, g4, g5, g6, g7, g8, g9, g10, g11, g12⟩ := grows (d := Y100) (r := abc) ha (by rw [x1_waits]; exact Nat.zero_le _)
  rw [x1_add (by decide)] at g1
  have hst : stateF y = (⟨1, s, [abc], 1⟩, 0) := by
    rw [g6, x1_state]
    rfl
  have hz : ∀ q, 1 ≤ q → q < 63 → get4 (sec y q) = 0 := fun q h1 h2 => by
    rw [g8, x1_state, if_neg (by show ¬ (0 ≤ q ∧ q < 0 + needs abc.length); rw [show needs abc.length = 1 from rfl]; omega), x1_sec q h2]
    exact get4_zero
  have hs : ∀ k, 1 + k ≤ 63 → saltTo y 1 1 k = 0 := by
    intro k
    induction k with
    | zero => intro _; rfl
    | succ k ih =>
      intro hk
      rw [saltTo_succ, saltStep_F (fun e => by have := hz (1 + k) (by omega) (by omega); unfold sec at this; rw [e] at this; exact absurd this (by decide)), ih (by omega)]
  have hsalt : saltF y 1 1 = 0 := hs 62 (Nat.le_refl _)
  have h113 : z113.length = 113 := by unfold z113; rw [List.length_replicate]
  have hn2 : needs z113.length = 2 := by rw [h113]; rfl
  have had := add_good (d := y) (r := z113) (by rw [hst]) (by rw [h113]; decide) (by rw [hst, hn2]; show ¬ 63 < 1 + 2; decide) (by rw [hst]; show ¬ saltF y 1 1 = 4294967295; rw [hsalt]; decide)
  have hy4 : y.waits.length ≤ 4000 := by have := g4; rw [x1_waits] at this; simp at this; omega
  obtain ⟨z, s2, f1, f2, f3, f4, f5, f6, _⟩ := grows (d := y) (r := z113) (by rw [had]) hy4
  refine ⟨y, z, _, g1, f1, by rw [f6], ?_, rfl⟩
  rw [f6, hst, hn2]
end log
theorem LogNames_fn {w : World} : Fn Try.prog 6 [] w (fun r w2 => r = .bool true ∧ Ext (fun _ => False) w w2) := by
  obtain ⟨y, z, _, h1, h2, h3, h4, _⟩ := x3_ex
  refine Fn.enter (fun w => Try.call6 _ w) Try.func6 rfl ?_
  refine .seq (.region ?_)
  refine .p rfl rfl (.as rfl) ?_
  refine .nil (.code (.seq (.keep [] trivial (.region ?_))))
  refine .call (first := []) (captured := []) rfl rfl rfl rfl (New_fn (n := 100)) ?_
  rintro _ w37 ⟨v37, rfl, R37, X37⟩
  have z37 := X37.size
  rw [z100.1] at R37 ⊢
  obtain ⟨x1, y1, x2, y2, rfl⟩ := disk_shape R37
  refine .p rfl rfl (.mv rfl) ?_
  refine .p rfl rfl (.extract rfl rfl) ?_
  refine .p rfl rfl (.extract rfl rfl) ?_
  refine .v rfl rfl (.alloc rfl rfl) ?_
  rintro _ wn1 ⟨rfl, N1⟩
  refine .s rfl (.storeAll (n := 3) rfl rfl rfl rfl rfl N1.blk rfl) ?_
  intro w1 P1
  have X1 := N1.ext.then P1.ext (by rintro k rfl _; exact Nat.le_refl _)
  have z1 := X1.size
  have B1 := P1.blk
  have l1 := B1.lt
  clear N1 P1
  refine .p rfl rfl (.as rfl) ?_
  refine .nil (.code (.seq (.keep [(1, _)] ⟨rfl, trivial⟩ (.region ?_))))
  refine .p rfl rfl (.loadA (n := 3) rfl rfl rfl rfl rfl (B1.ext (S := fun _ => False) (by repeat (first | exact Ext.refl _ | assumption | refine Ext.trans (by assumption) ?_)) (fun x => x)).cells) ?_
  refine .call (first := []) (captured := []) rfl rfl rfl rfl (Records_fn (d := Z100) (allOf (tDisk.ext0 R37 (by repeat (first | exact Ext.refl _ | assumption | refine Ext.trans (by assumption) ?_))))) ?_
  rintro _ w42 ⟨v42, rfl, R42, X42⟩
  have z42 := X42.size
  rw [show (stateF Z100).2 = 50 by rw [z100_state]]
  refine .p rfl rfl (.mv rfl) ?_
  refine .p rfl rfl (.extract rfl rfl) ?_
  refine .p rfl rfl (.extract rfl rfl) ?_
  refine .p rfl rfl (.as rfl) ?_
  refine .p rfl rfl (.as rfl) ?_
  refine .nil (.code (.seq (.keep [(4, _), (1, _)] ⟨rfl, rfl, trivial⟩ (.region ?_))))
  refine .p rfl rfl (.loadA (n := 3) rfl rfl rfl rfl rfl (B1.ext (S := fun _ => False) (by repeat (first | exact Ext.refl _ | assumption | refine Ext.trans (by assumption) ?_)) (fun x => x)).cells) ?_
  refine .call (first := []) (captured := []) rfl rfl rfl rfl (Clear_fn (d := Z100) (allOf (tDisk.ext0 R37 (by repeat (first | exact Ext.refl _ | assumption | refine Ext.trans (by assumption) ?_))))) ?_
  rintro _ w47 ⟨v47, Q47, A47, rfl, G47, hQ47, hB47, X47⟩
  have z47 := X47.size
  rw [z100_clear] at G47 ⊢
  have R47 : (Sl tAct).rep All w47 v47 [⟨false, ⟨16, clearB 1⟩⟩, ⟨true, ⟨0, []⟩⟩] := actsOwn G47
  obtain ⟨a47, c47, rfl, _⟩ := Sl.val R47
  obtain ⟨b1, o1, q1, u1, e1, _, hc1, hr1⟩ := Sl.at R47 (i := 0) rfl
  cases e1
  obtain ⟨ud1, rfl, _⟩ := tAct.val hr1
  obtain ⟨b2, o2, q2, u2, e2, _, hc2, hr2⟩ := Sl.at R47 (i := 1) rfl
  cases e2
  obtain ⟨ud2, rfl, _⟩ := tAct.val hr2
  refine .p rfl rfl (.mv rfl) ?_
  refine .p rfl rfl (.extract rfl rfl) ?_
  refine .p rfl rfl (.extract rfl rfl) ?_
  refine .p rfl rfl (.as rfl) ?_
  refine .p rfl rfl (.as rfl) ?_
  refine .nil (.code (.seq (.keep [(6, _), (5, _), (4, _)] ⟨rfl, rfl, rfl, trivial⟩ (.region ?_))))
  refine .call (first := []) (captured := []) rfl rfl rfl rfl (cleared_fn) ?_
  rintro _ w51 ⟨v51, rfl, R51, X51⟩
  have z51 := X51.size
  obtain ⟨x1, y1, x2, y2, rfl⟩ := disk_shape R51
  refine .p rfl rfl (.mv rfl) ?_
  refine .p rfl rfl (.extract rfl rfl) ?_
  refine .p rfl rfl (.cast (.extract rfl rfl) (show _ = Value.bool true from rfl)) ?_
  refine .v rfl rfl (.alloc rfl rfl) ?_
  rintro _ wn7 ⟨rfl, N7⟩
  refine .s rfl (.storeAll (n := 3) rfl rfl rfl rfl rfl N7.blk rfl) ?_
  intro w7 P7
  have X7 := N7.ext.then P7.ext (by rintro k rfl _; exact Nat.le_refl _)
  have z7 := X7.size
  have B7 := P7.blk
  have l7 := B7.lt
  clear N7 P7
  refine .p rfl rfl (.as rfl) ?_
  refine .nil (.code (.seq (.keep [(8, _), (7, _), (6, _), (5, _), (4, _)] ⟨rfl, rfl, rfl, rfl, rfl, trivial⟩ (.region ?_))))
  refine .p rfl rfl (.loadA (n := 3) rfl rfl rfl rfl rfl (B7.ext (S := fun _ => False) (by repeat (first | exact Ext.refl _ | assumption | refine Ext.trans (by assumption) ?_)) (fun x => x)).cells) ?_
  refine .call (first := []) (captured := []) rfl rfl rfl rfl (Epoch_fn (d := Y100) (allOf (tDisk.ext0 R51 (by repeat (first | exact Ext.refl _ | assumption | refine Ext.trans (by assumption) ?_))))) ?_
  rintro _ w56 ⟨rfl, X56⟩
  have z56 := X56.size
  rw [x1_state]
  refine .p rfl rfl (.mv rfl) ?_
  refine .p rfl rfl (.extract rfl rfl) ?_
  refine .p rfl rfl (.extract rfl rfl) ?_
  refine .p rfl rfl (.as rfl) ?_
  refine .p rfl rfl (.as rfl) ?_
  refine .nil (.code (.seq (.keep [(10, _), (9, _), (8, _), (7, _), (6, _), (5, _), (4, _)] ⟨rfl, rfl, rfl, rfl, rfl, rfl, rfl, trivial⟩ (.region ?_))))
  refine .p rfl rfl (.loadA (n := 3) rfl rfl rfl rfl rfl (B7.ext (S := fun _ => False) (by repeat (first | exact Ext.refl _ | assumption | refine Ext.trans (by assumption) ?_)) (fun x => x)).cells) ?_
  refine .call (first := []) (captured := []) rfl rfl rfl rfl (Records_fn (d := Y100) (allOf (tDisk.ext0 R51 (by repeat (first | exact Ext.refl _ | assumption | refine Ext.trans (by assumption) ?_))))) ?_
  rintro _ w61 ⟨v61, rfl, R61, X61⟩
  have z61 := X61.size
  rw [x1_state] at R61 ⊢
  obtain ⟨a61, c61, rfl, _⟩ := Sl.val R61
  refine .p rfl rfl (.mv rfl) ?_
  refine .p rfl rfl (.extract rfl rfl) ?_
  refine .p rfl rfl (.extract rfl rfl) ?_
  refine .p rfl rfl (.as rfl) ?_
  refine .p rfl rfl (.as rfl) ?_
  refine .nil (.code (.seq (.seq (.keep [(12, _), (11, _), (10, _), (9, _), (8, _), (7, _), (6, _), (5, _), (4, _)] ⟨rfl, rfl, rfl, rfl, rfl, rfl, rfl, rfl, rfl, trivial⟩ (.region ?_)))))
  refine .p rfl rfl (.mv rfl) ?_
  refine .p rfl rfl (.not rfl) ?_
  refine .p rfl rfl (.mv rfl) ?_
  refine .p rfl rfl (.mv rfl) ?_
  refine .p rfl rfl (.no (.ne rfl rfl) (fun h => h rfl)) ?_
  refine .p rfl rfl (.pickF rfl rfl) ?_
  refine .p rfl rfl (.mv rfl) ?_
  refine .p rfl rfl (.mv rfl) ?_
  refine .p rfl rfl (.len rfl rfl) ?_
  refine .p rfl rfl (.no (.ne rfl rfl) (fun h => h rfl)) ?_
  refine .p rfl rfl (.pickF rfl rfl) ?_
  refine .nil (.code (.keep [(74, _), (12, _), (11, _), (10, _), (9, _), (7, _), (5, _), (4, _)] ⟨rfl, rfl, rfl, rfl, rfl, rfl, rfl, rfl, trivial⟩ (.condF rfl (.skip (.code (.seq (.keep [(12, _), (11, _), (10, _), (9, _), (7, _), (5, _), (4, _)] ⟨rfl, rfl, rfl, rfl, rfl, rfl, rfl, trivial⟩ (.region ?_))))))))
  refine .p rfl rfl (.mv rfl) ?_
  refine .p rfl rfl (.yes (.eq rfl rfl) (rfl)) ?_
  refine .p rfl rfl (.mv rfl) ?_
  refine .p rfl rfl (.mv rfl) ?_
  refine .p rfl rfl (.indexAddr (s := 3) rfl rfl rfl rfl (by show (0 : Int) ≤ 0 ∧ (0 : Int) < 2; decide)) ?_
  refine .p rfl rfl (.fieldAddr rfl rfl rfl rfl) ?_
  refine .p rfl rfl (.fieldAddr rfl rfl rfl rfl) ?_
  refine .p rfl rfl (.load rfl rfl rfl (Ext.cell (S := fun _ => False) (by repeat (first | exact Ext.refl _ | assumption | refine Ext.trans (by assumption) ?_)) (hc1 1 _ rfl) (fun x => x))) ?_
  refine .p rfl rfl (.yes (.eq rfl rfl) (rfl)) ?_
  refine .p rfl rfl (.pickT rfl rfl) ?_
  refine .p rfl rfl (.mv rfl) ?_
  refine .p rfl rfl (.mv rfl) ?_
  refine .p rfl rfl (.indexAddr (s := 3) rfl rfl rfl rfl (by show (0 : Int) ≤ 1 ∧ (1 : Int) < 2; decide)) ?_
  refine .p rfl rfl (.fieldAddr rfl rfl rfl rfl) ?_
  refine .p rfl rfl (.load rfl rfl rfl (Ext.cell (S := fun _ => False) (by repeat (first | exact Ext.refl _ | assumption | refine Ext.trans (by assumption) ?_)) (hc2 0 _ rfl) (fun x => x))) ?_
  refine .p rfl rfl (.pickT rfl rfl) ?_
  refine .p rfl rfl (.mv rfl) ?_
  refine .p rfl rfl (.mv rfl) ?_
  refine .p rfl rfl (.yes (.eq rfl rfl) (rfl)) ?_
  refine .p rfl rfl (.pickT rfl rfl) ?_
  refine .p rfl rfl (.mv rfl) ?_
  refine .p rfl rfl (.mv rfl) ?_
  refine .p rfl rfl (.yes (.eq rfl rfl) (rfl)) ?_
  refine .p rfl rfl (.pickT rfl rfl) ?_
  refine .p rfl rfl (.mv rfl) ?_
  refine .p rfl rfl (.mv rfl) ?_
  refine .p rfl rfl (.len rfl rfl) ?_
  refine .p rfl rfl (.yes (.eq rfl rfl) (rfl)) ?_
  refine .p rfl rfl (.pickT rfl rfl) ?_
  refine .p rfl rfl (.mv rfl) ?_
  refine .p rfl rfl (.mv rfl) ?_
  refine .p rfl rfl (.yes (.eq rfl rfl) (rfl)) ?_
  refine .p rfl rfl (.pickT rfl rfl) ?_
  refine .p rfl rfl (.as rfl) ?_
  refine .nil (.code (.seq (.keep [(13, _), (7, _)] ⟨rfl, rfl, trivial⟩ (.region ?_))))
  refine .p rfl rfl (.loadA (n := 3) rfl rfl rfl rfl rfl (B7.ext (S := fun _ => False) (by repeat (first | exact Ext.refl _ | assumption | refine Ext.trans (by assumption) ?_)) (fun x => x)).cells) ?_
  refine .call (first := []) (captured := []) rfl rfl rfl rfl (Add_fn (d := Y100) (r := abc) (allOf (tDisk.ext0 R51 (by repeat (first | exact Ext.refl _ | assumption | refine Ext.trans (by assumption) ?_)))) (by decide)) ?_
  rintro _ w110 ⟨v110, Q110, A110, rfl, G110, hQ110, hB110, X110⟩
  have z110 := X110.size
  rw [x1_add (r := abc) (by decide)] at G110 ⊢
  have R110 : (Sl tAct).rep All w110 v110 (actsTo 17 (frameL 1 1 0 abc) (needs abc.length)) := actsOwn G110
  obtain ⟨a110, c110, rfl, _⟩ := Sl.val R110
  have e0 : (actsTo 17 (frameL 1 1 0 abc) (needs abc.length))[0]? = some ⟨false, ⟨17, (((frameL 1 1 0 abc)).drop (0 * 128)).take 128⟩⟩ := rfl
  rw [F_cut] at e0
  obtain ⟨b3, o3, q3, u3, e3, _, hc3, hr3⟩ := Sl.at R110 (i := 0) e0
  cases e3
  obtain ⟨ud3, rfl, hud3, _⟩ := tAct.val hr3
  obtain ⟨ad3, cd3, rfl, _⟩ := Sl.val hud3
  refine .p rfl rfl (.mv rfl) ?_
  refine .p rfl rfl (.extract rfl rfl) ?_
  refine .p rfl rfl (.extract rfl rfl) ?_
  refine .p rfl rfl (.as rfl) ?_
  refine .p rfl rfl (.as rfl) ?_
  refine .nil (.code (.seq (.seq (.keep [(15, _), (14, _), (13, _), (7, _)] ⟨rfl, rfl, rfl, rfl, trivial⟩ (.region ?_)))))
  refine .p rfl rfl (.mv rfl) ?_
  refine .p rfl rfl (.no (.ne rfl rfl) (fun h => h rfl)) ?_
  refine .p rfl rfl (.mv rfl) ?_
  refine .p rfl rfl (.mv rfl) ?_
  refine .p rfl rfl (.len rfl rfl) ?_
  refine .p rfl rfl (.no (.ne rfl rfl) (fun h => h rfl)) ?_
  refine .p rfl rfl (.pickF rfl rfl) ?_
  refine .nil (.code (.keep [(119, _), (14, _), (13, _), (7, _)] ⟨rfl, rfl, rfl, rfl, trivial⟩ (.condF rfl (.skip (.code (.seq (.keep [(14, _), (13, _), (7, _)] ⟨rfl, rfl, rfl, trivial⟩ (.region ?_))))))))
  refine .p rfl rfl (.mv rfl) ?_
  refine .p rfl rfl (.indexAddr (s := 3) rfl rfl rfl rfl (by show (0 : Int) ≤ 0 ∧ (0 : Int) < 1; decide)) ?_
  refine .p rfl rfl (.fieldAddr rfl rfl rfl rfl) ?_
  refine .p rfl rfl (.fieldAddr rfl rfl rfl rfl) ?_
  refine .p rfl rfl (.load rfl rfl rfl (hc3 2 _ rfl)) ?_
  refine .p rfl rfl (.bytesStr rfl hud3 rfl rfl rfl) ?_
  refine .p rfl rfl (.as rfl) ?_
  refine .nil (.code (.seq (.keep [(16, _), (14, _), (13, _), (7, _)] ⟨rfl, rfl, rfl, rfl, trivial⟩ (.region ?_))))
  refine .p rfl rfl (.mv rfl) ?_
  refine .p rfl rfl (.indexAddr (s := 3) rfl rfl rfl rfl (by show (0 : Int) ≤ 0 ∧ (0 : Int) < 1; decide)) ?_
  refine .p rfl rfl (.fieldAddr rfl rfl rfl rfl) ?_
  refine .p rfl rfl (.fieldAddr rfl rfl rfl rfl) ?_
  refine .p rfl rfl (.load rfl rfl rfl (hc3 1 _ rfl)) ?_
  refine .p rfl rfl (.yes (.eq rfl rfl) (rfl)) ?_
  refine .p rfl rfl (.mv rfl) ?_
  refine .p rfl rfl (.mv rfl) ?_
  refine .p rfl rfl (.cutSHi rfl rfl rfl (by rw [F_length]; decide)) ?_
  refine .p rfl rfl (.yes (.eqS rfl rfl) (F_20)) ?_
  refine .p rfl rfl (.pickT rfl rfl) ?_
  refine .p rfl rfl (.as rfl) ?_
  refine .nil (.code (.seq (.keep [(17, _), (16, _), (14, _), (13, _), (7, _)] ⟨rfl, rfl, rfl, rfl, rfl, trivial⟩ (.region ?_))))
  refine .p rfl rfl (.loadA (n := 3) rfl rfl rfl rfl rfl (B7.ext (S := fun _ => False) (by repeat (first | exact Ext.refl _ | assumption | refine Ext.trans (by assumption) ?_)) (fun x => x)).cells) ?_
  refine .p rfl rfl (.mv rfl) ?_
  refine .call (first := []) (captured := []) rfl rfl rfl rfl (Do_fn (d := Y100) (allOf (tDisk.ext0 R51 (by repeat (first | exact Ext.refl _ | assumption | refine Ext.trans (by assumption) ?_)))) R110) ?_
  rintro _ w140 ⟨v140, rfl, D140, X140⟩
  have z140 := X140.size
  rw [h1] at D140 ⊢
  obtain ⟨x1, y1, x2, y2, rfl⟩ := D140.val
  refine .p rfl rfl (.mv rfl) ?_
  refine .p rfl rfl (.extract rfl rfl) ?_
  refine .p rfl rfl (.extract rfl rfl) ?_
  refine .v rfl rfl (.alloc rfl rfl) ?_
  rintro _ wn18 ⟨rfl, N18⟩
  refine .s rfl (.storeAll (n := 3) rfl rfl rfl rfl rfl N18.blk rfl) ?_
  intro w18 P18
  have X18 := N18.ext.then P18.ext (by rintro k rfl _; exact Nat.le_refl _)
  have z18 := X18.size
  have B18 := P18.blk
  have l18 := B18.lt
  clear N18 P18
  refine .p rfl rfl (.as rfl) ?_
  refine .nil (.code (.seq (.keep [(18, _), (17, _), (16, _), (13, _)] ⟨rfl, rfl, rfl, rfl, trivial⟩ (.mix (fun _ => False) [1, 2, 3] (by kernel_rfl) (by kernel_rfl) (by kernel_rfl) ?_))))
  refine .p rfl rfl rfl (fun wx hx => .loadA (n := 3) rfl rfl rfl rfl rfl (B18.ext (S := fun _ => False) (Ext.trans (by repeat (first | exact Ext.refl _ | assumption | refine Ext.trans (by assumption) ?_)) hx) (fun x => x)).cells) ?_
  refine .v rfl rfl rfl (.make (eb := 1) rfl rfl rfl rfl rfl rfl rfl rfl (by omega)) (by rintro _ _ ⟨_, hN⟩; exact hN.ext) ?_
  rintro _ w145 ⟨rfl, N145⟩
  
  have X145 := N145.ext
  have z145 := N145.size
  have R145 : tBytes.rep All w145 _ z113 := zeros_own (Q := All) N145 (by decide) rfl trivial
  refine .v rfl rfl rfl (.ofEv (.bytesStr rfl R145 rfl rfl rfl)) (by rintro _ _ ⟨rfl, rfl⟩; exact X145) ?_
  rintro _ wz ⟨rfl, hz⟩
  subst wz
  refine .call (first := []) (captured := []) rfl rfl rfl rfl rfl (Add_fn (d := y) (r := z113) (allOf (tDisk.ext0 D140.rep (by repeat (first | exact Ext.refl _ | assumption | refine Ext.trans (by assumption) ?_)))) (by unfold z113; rw [List.length_replicate]; decide)) (by rintro _ _ ⟨_, _, _, _, _, _, _, hX⟩; exact X145.trans hX) ?_
  rintro _ w147 ⟨v147, Q147, A147, rfl, G147, hQ147, hB147, X147⟩
  have z147 := X147.size
  refine .p rfl rfl rfl (fun wx hx => .mv rfl) ?_
  refine .p rfl rfl rfl (fun wx hx => .extract rfl rfl) ?_
  refine .p rfl rfl rfl (fun wx hx => .extract rfl rfl) ?_
  refine .p rfl rfl rfl (fun wx hx => .as rfl) ?_
  refine .p rfl rfl rfl (fun wx hx => .as rfl) ?_
  refine .nil (.code (.seq (.keep [(20, _), (18, _), (17, _), (16, _), (13, _)] ⟨rfl, rfl, rfl, rfl, rfl, trivial⟩ (.region ?_))))
  refine .p rfl rfl (.loadA (n := 3) rfl rfl rfl rfl rfl (B18.ext (S := fun _ => False) (by repeat (first | exact Ext.refl _ | assumption | refine Ext.trans (by assumption) ?_)) (fun x => x)).cells) ?_
  refine .p rfl rfl (.mv rfl) ?_
  refine .call (first := []) (captured := []) rfl rfl rfl rfl (Do_fn (d := y) (l := (addF y z113).1) (allOf (tDisk.ext0 D140.rep (by repeat (first | exact Ext.refl _ | assumption | refine Ext.trans (by assumption) ?_)))) (actsOwn G147)) ?_
  rintro _ w153 ⟨v153, rfl, D153, X153⟩
  have z153 := X153.size
  rw [h2] at D153 ⊢
  obtain ⟨x1, y1, x2, y2, rfl⟩ := D153.val
  refine .p rfl rfl (.mv rfl) ?_
  refine .p rfl rfl (.extract rfl rfl) ?_
  refine .p rfl rfl (.extract rfl rfl) ?_
  refine .s rfl (.storeAll (n := 3) rfl rfl rfl rfl rfl (B18.ext (S := fun _ => False) (by repeat (first | exact Ext.refl _ | assumption | refine Ext.trans (by assumption) ?_)) (fun x => x)) rfl) ?_
  intro w154 P154
  have z154 := P154.size
  have B154 := P154.blk
  have R154 := tDisk.ext D153.rep P154.ext (fun k hk _ he => by have he : k = w140.heap.size := he; have hk : w147.heap.size ≤ k := hk; omega)
  have Yw : Ext (fun _ => False) w w154 := Ext.then (by repeat (first | exact Ext.refl _ | assumption | refine Ext.trans (by assumption) ?_)) P154.ext (by rintro k rfl _; omega)
  refine .nil (.code (.seq (.keep [(18, _), (17, _), (16, _), (13, _)] ⟨rfl, rfl, rfl, rfl, trivial⟩ (.region ?_))))
  refine .p rfl rfl (.loadA (n := 3) rfl rfl rfl rfl rfl (B154.ext (S := fun _ => False) (by repeat (first | exact Ext.refl _ | assumption | refine Ext.trans (by assumption) ?_)) (fun x => x)).cells) ?_
  refine .call (first := []) (captured := []) rfl rfl rfl rfl (At_fn (d := z) (allOf R154)) ?_
  rintro _ w158 ⟨rfl, X158⟩
  have z158 := X158.size
  rw [h3, h4]
  refine .p rfl rfl (.mv rfl) ?_
  refine .p rfl rfl (.extract rfl rfl) ?_
  refine .p rfl rfl (.extract rfl rfl) ?_
  refine .p rfl rfl (.as rfl) ?_
  refine .p rfl rfl (.as rfl) ?_
  refine .nil (.code (.seq (.keep [(23, _), (22, _), (17, _), (16, _), (13, _)] ⟨rfl, rfl, rfl, rfl, rfl, trivial⟩ (.region ?_))))
  refine .p rfl rfl (.mv rfl) ?_
  refine .v rfl rfl (.strBytes rfl rfl rfl rfl) ?_
  rintro _ w163 ⟨cap163, cs163, rfl, hc163, hn163, hs163, N163⟩
  have R163 := strBytes_rep ((by rw [F_length]; decide)) hc163 hs163 N163
  have X163 := N163.ext
  refine .call (first := []) (captured := []) rfl rfl rfl rfl (Open_fn (epoch := 1) (prev := 0) (allOf R163)) ?_
  rintro _ w164 ⟨rfl, X164⟩
  have z164 := X164.size
  have ho := open_frame (E := 1) (s := 1) (p := 0) (r := abc) (rest := []) (by decide) (by decide) (by decide)
  rw [List.append_nil] at ho
  rw [ho]
  refine .p rfl rfl (.mv rfl) ?_
  refine .p rfl rfl (.cast (.extract rfl rfl) (show _ = str abc from rfl)) ?_
  refine .p rfl rfl (.cast (.extract rfl rfl) (show _ = u32 1 from rfl)) ?_
  refine .p rfl rfl (.cast (.extract rfl rfl) (show _ = i64 1 from rfl)) ?_
  refine .p rfl rfl (.cast (.extract rfl rfl) (show _ = i64 0 from rfl)) ?_
  refine .p rfl rfl (.as rfl) ?_
  refine .p rfl rfl (.as rfl) ?_
  refine .p rfl rfl (.as rfl) ?_
  refine .p rfl rfl (.as rfl) ?_
  refine .nil (.code (.seq (.keep [(27, _), (26, _), (25, _), (24, _), (23, _), (22, _), (17, _), (16, _), (13, _)] ⟨rfl, rfl, rfl, rfl, rfl, rfl, rfl, rfl, rfl, trivial⟩ (.region ?_))))
  refine .p rfl rfl (.mv rfl) ?_
  refine .v rfl rfl (.strBytes rfl rfl rfl rfl) ?_
  rintro _ w171 ⟨cap171, cs171, rfl, hc171, hn171, hs171, N171⟩
  have R171 := strBytes_rep ((by rw [F_length]; decide)) hc171 hs171 N171
  have X171 := N171.ext
  refine .call (first := []) (captured := []) rfl rfl rfl rfl (Open_fn (epoch := 2) (prev := 0) (allOf R171)) ?_
  rintro _ w172 ⟨rfl, X172⟩
  have z172 := X172.size
  refine .p rfl rfl (.mv rfl) ?_
  refine .p rfl rfl (.extract rfl rfl) ?_
  refine .p rfl rfl (.extract rfl rfl) ?_
  refine .p rfl rfl (.extract rfl rfl) ?_
  refine .p rfl rfl (.extract rfl rfl) ?_
  refine .p rfl rfl (.as rfl) ?_
  refine .p rfl rfl (.as rfl) ?_
  refine .p rfl rfl (.as rfl) ?_
  refine .p rfl rfl (.as rfl) ?_
  refine .nil (.code (.seq (.keep [(31, _), (30, _), (27, _), (26, _), (25, _), (24, _), (23, _), (22, _), (17, _), (16, _), (13, _)] ⟨rfl, rfl, rfl, rfl, rfl, rfl, rfl, rfl, rfl, rfl, rfl, trivial⟩ (.region ?_))))
  refine .p rfl rfl (.mv rfl) ?_
  refine .v rfl rfl (.strBytes rfl rfl rfl rfl) ?_
  rintro _ w179 ⟨cap179, cs179, rfl, hc179, hn179, hs179, N179⟩
  have R179 := strBytes_rep ((by rw [F_length]; decide)) hc179 hs179 N179
  have X179 := N179.ext
  refine .call (first := []) (captured := []) rfl rfl rfl rfl (Open_fn (epoch := 1) (prev := 1) (allOf R179)) ?_
  rintro _ w180 ⟨rfl, X180⟩
  have z180 := X180.size
  refine .p rfl rfl (.mv rfl) ?_
  refine .p rfl rfl (.extract rfl rfl) ?_
  refine .p rfl rfl (.extract rfl rfl) ?_
  refine .p rfl rfl (.extract rfl rfl) ?_
  refine .p rfl rfl (.extract rfl rfl) ?_
  refine .p rfl rfl (.as rfl) ?_
  refine .p rfl rfl (.as rfl) ?_
  refine .p rfl rfl (.as rfl) ?_
  refine .p rfl rfl (.as rfl) ?_
  refine .nil (.code (.seq (.keep [(35, _), (34, _), (31, _), (30, _), (27, _), (26, _), (25, _), (24, _), (23, _), (22, _), (17, _), (13, _)] ⟨rfl, rfl, rfl, rfl, rfl, rfl, rfl, rfl, rfl, rfl, rfl, rfl, trivial⟩ (.region ?_))))
  refine .p rfl rfl (.mv rfl) ?_
  refine .call (first := []) (captured := []) rfl rfl rfl rfl (alive_fn) ?_
  rintro _ w186 ⟨rfl, X186⟩
  have z186 := X186.size
  refine .p rfl rfl (.pickT rfl rfl) ?_
  refine .p rfl rfl (.mv rfl) ?_
  refine .p rfl rfl (.mv rfl) ?_
  refine .p rfl rfl (.pickT rfl rfl) ?_
  refine .p rfl rfl (.mv rfl) ?_
  refine .p rfl rfl (.mv rfl) ?_
  refine .p rfl rfl (.pickT rfl rfl) ?_
  refine .p rfl rfl (.mv rfl) ?_
  refine .p rfl rfl (.mv rfl) ?_
  refine .p rfl rfl (.yes (.eq rfl rfl) (rfl)) ?_
  refine .p rfl rfl (.pickT rfl rfl) ?_
  refine .p rfl rfl (.mv rfl) ?_
  refine .p rfl rfl (.mv rfl) ?_
  refine .p rfl rfl (.yes (.eq rfl rfl) (rfl)) ?_
  refine .p rfl rfl (.pickT rfl rfl) ?_
  refine .p rfl rfl (.mv rfl) ?_
  refine .p rfl rfl (.mv rfl) ?_
  refine .p rfl rfl (.yes (.eqS rfl rfl) (rfl)) ?_
  refine .p rfl rfl (.pickT rfl rfl) ?_
  refine .p rfl rfl (.mv rfl) ?_
  refine .p rfl rfl (.mv rfl) ?_
  refine .p rfl rfl (.yes (.eq rfl rfl) (rfl)) ?_
  refine .p rfl rfl (.pickT rfl rfl) ?_
  refine .p rfl rfl (.mv rfl) ?_
  refine .p rfl rfl (.mv rfl) ?_
  refine .p rfl rfl (.yes (.eq rfl rfl) (rfl)) ?_
  refine .p rfl rfl (.pickT rfl rfl) ?_
  refine .p rfl rfl (.mv rfl) ?_
  refine .p rfl rfl (.mv rfl) ?_
  refine .p rfl rfl (.yes (.eq rfl rfl) (rfl)) ?_
  refine .p rfl rfl (.pickT rfl rfl) ?_
  refine .p rfl rfl (.mv rfl) ?_
  refine .p rfl rfl (.mv rfl) ?_
  refine .p rfl rfl (.yes (.eq rfl rfl) (by rw [open_other (by decide)]; rfl)) ?_
  refine .p rfl rfl (.pickT rfl rfl) ?_
  refine .p rfl rfl (.mv rfl) ?_
  refine .p rfl rfl (.mv rfl) ?_
  refine .p rfl rfl (.yes (.eq rfl rfl) (open_err0 (by decide))) ?_
  refine .p rfl rfl (.pickT rfl rfl) ?_
  refine .p rfl rfl (.mv rfl) ?_
  refine .p rfl rfl (.mv rfl) ?_
  refine .p rfl rfl (.yes (.eq rfl rfl) (by rw [open_other (by decide)]; rfl)) ?_
  refine .p rfl rfl (.pickT rfl rfl) ?_
  refine .p rfl rfl (.mv rfl) ?_
  refine .p rfl rfl (.mv rfl) ?_
  refine .p rfl rfl (.yes (.eq rfl rfl) (open_err0 (by decide))) ?_
  refine .p rfl rfl (.pickT rfl rfl) ?_
  refine .p rfl rfl (.as rfl) ?_
  refine .nil (.code ?_)
  refine .ret _ rfl ?_
  exact ⟨rfl, (by repeat (first | exact Ext.refl _ | assumption | refine Ext.trans (by assumption) ?_))⟩
end Go.Proofs.Ytapdacjpmmjlhaa
