
/-
  The statements of chapter 05: records added one behind the other; how many are sure.
-/
import Derived.Test.YtapdacjpmmjlhaaLogSim
set_option linter.unusedVariables false
set_option linter.unusedSimpArgs false
set_option maxRecDepth 20000
namespace Go.Proofs.Ytapdacjpmmjlhaa
open Go disk log
namespace log
def lastTo (l : List disk.Act) : Nat → Nat
  | 0 => 0
  | k + 1 => match l[k]? with | some b => if b.flush = true then k else lastTo l k | none => lastTo l k
def headTo (l : List disk.Act) : Nat → Nat
  | 0 => 0
  | k + 1 => match l[k]? with | some b => if b.flush = false ∧ b.put.data.getD 12 0 = 0 then headTo l k + 1 else headTo l k | none => headTo l k
theorem lastTo_le (l : List disk.Act) : ∀ k, lastTo l k ≤ k
  | 0 => Nat.le_refl _
  | k + 1 => by
    have := lastTo_le l k
    rw [lastTo]
    split
    · split <;> omega
    · omega
theorem headTo_le (l : List disk.Act) : ∀ k, headTo l k ≤ k
  | 0 => Nat.le_refl _
  | k + 1 => by
    have := headTo_le l k
    rw [headTo]
    split
    · split <;> omega
    · omega
def sureF (l : List disk.Act) : Nat := headTo l (lastTo l l.length)
theorem cnt_to (l : List disk.Act) : ∀ k, k ≤ l.length → (l.take k).foldl cnt (0, 0) = (headTo l k, headTo l (lastTo l k))
  | 0, _ => rfl
  | k + 1, hk => by
    rw [List.take_succ_eq_append_getElem (by omega), List.foldl_append, cnt_to l k (by omega), List.foldl_cons, List.foldl_nil]
    unfold cnt
    rw [headTo, lastTo, List.getElem?_eq_getElem (by omega)]
    simp only
    by_cases hf : l[k].flush = true
    · rw [if_pos hf, if_pos hf, if_neg (fun hh => by rw [hf] at hh; exact Bool.noConfusion hh.1)]
    · rw [if_neg hf, if_neg hf]
      by_cases hz : l[k].put.data.getD 12 0 = 0
      · rw [if_pos hz, if_pos ⟨by simpa using hf, hz⟩]
      · rw [if_neg hz, if_neg (fun hh => hz hh.2)]
theorem cnt_sure (l : List disk.Act) : (l.foldl cnt (0, 0)).2 = sureF l := by
  have := cnt_to l l.length (Nat.le_refl _)
  rw [List.take_length] at this
  rw [this]
  rfl
/-- records, each with its flag -/
def flagsAt (fs : List Bool) : Nat → List Bs → List (Bs × Bool)
  | _, [] => []
  | i, r :: l => (r, fs.getD i false) :: flagsAt fs (i + 1) l
theorem flags_map (fs : List Bool) : ∀ (l : List Bs) (i : Nat), (flagsAt fs i l).map (·.1) = l
  | [], _ => rfl
  | r :: l, i => by rw [flagsAt, List.map_cons, flags_map fs l]
theorem flags_length (fs : List Bool) (l : List Bs) (i : Nat) : (flagsAt fs i l).length = l.length := by rw [← List.length_map (f := (·.1)), flags_map]
theorem flags_step {fs : List Bool} {l : List Bs} {i : Nat} (h : i < l.length) : flagsAt fs i (l.drop i) = (l[i], fs.getD i false) :: flagsAt fs (i + 1) (l.drop (i + 1)) := by
  rw [List.drop_eq_getElem_cons h, flagsAt]
theorem addL_norm : ∀ (l : List (Bs × Bool)) (d : Disk), (if (addL d l).2 = true then ([] ++ (addL d l).1, true) else ([], false)) = addL d l
  | [], d => by rw [addL]; rfl
  | (r, fl) :: l, d => by
    rw [addL]
    split
    · rfl
    · split
      · rfl
      · split <;> rfl
/-- what is told so far, and what comes -/
def TotA (d : Disk) (all : List (Bs × Bool)) (acc : List disk.Act) (dd : Disk) (rest : List (Bs × Bool)) : Prop :=
  addL d all = if (addL dd rest).2 = true then (acc ++ (addL dd rest).1, true) else ([], false)
theorem TotA.start (d : Disk) (all : List (Bs × Bool)) : TotA d all [] d all := (addL_norm all d).symm
theorem TotA.bad1 {d dd : Disk} {all rest : List (Bs × Bool)} {acc : List disk.Act} {r : Bs} {fl : Bool} (h : TotA d all acc dd ((r, fl) :: rest)) (h1 : ¬ (addF dd r).2 = 0) : addL d all = ([], false) := by
  unfold TotA at h
  rw [h, addL, if_pos h1]
  rfl
theorem TotA.bad2 {d dd : Disk} {all rest : List (Bs × Bool)} {acc : List disk.Act} {r : Bs} {fl : Bool} (h : TotA d all acc dd ((r, fl) :: rest)) (h1 : (addF dd r).2 = 0) (h2 : ¬ (doF dd (addA dd r fl)).2 = 0) : addL d all = ([], false) := by
  have e : addL dd ((r, fl) :: rest) = ([], false) := by rw [addL, if_neg (fun hh => hh h1), if_pos h2]
  unfold TotA at h
  rw [h, e]
  rfl
theorem TotA.step {d dd : Disk} {all rest : List (Bs × Bool)} {acc : List disk.Act} {r : Bs} {fl : Bool} (h : TotA d all acc dd ((r, fl) :: rest)) (h1 : (addF dd r).2 = 0) (h2 : (doF dd (addA dd r fl)).2 = 0) : TotA d all (acc ++ addA dd r fl) (doF dd (addA dd r fl)).1 rest := by
  have e : addL dd ((r, fl) :: rest) = if (addL (doF dd (addA dd r fl)).1 rest).2 = true then (addA dd r fl ++ (addL (doF dd (addA dd r fl)).1 rest).1, true) else ([], false) := by rw [addL, if_neg (fun hh => hh h1), if_neg (fun hh => hh h2)]
  unfold TotA at *
  rw [h, e]
  by_cases h3 : (addL (doF dd (addA dd r fl)).1 rest).2 = true
  · rw [if_pos h3, if_pos rfl, if_pos h3, List.append_assoc]
  · rw [if_neg h3, if_neg h3, if_neg (by decide)]
theorem TotA.done {d dd : Disk} {all : List (Bs × Bool)} {acc : List disk.Act} (h : TotA d all acc dd []) : addL d all = (acc, true) := by
  unfold TotA at h
  rw [h, addL, if_pos rfl, List.append_nil]
theorem addF_length (d : Disk) (r : Bs) : (addF d r).1.length ≤ 37 := by
  by_cases h : (addF d r).2 = 0
  · obtain ⟨h1, h2, h3, h4, h5⟩ := add_ok h
    rw [h5, actsTo_length]
    exact (needs_bd h2).2
  · by_cases h1 : (stateF d).2 = 0
    · by_cases h2 : 4096 < r.length
      · rw [add_long h1 h2]; exact Nat.zero_le _
      · by_cases h3 : 63 < (stateF d).1.at' + needs r.length
        · rw [add_full h1 h2 h3]; exact Nat.zero_le _
        · by_cases h4 : saltF d (stateF d).1.epoch (stateF d).1.at' = 4294967295
          · rw [add_salt h1 h2 h3 h4]; exact Nat.zero_le _
          · rw [add_good h1 h2 h3 h4] at h; exact absurd rfl h
    · rw [add_err h1]; exact Nat.zero_le _
theorem addA_length (d : Disk) (r : Bs) (fl : Bool) : (addA d r fl).length ≤ 38 := by
  have := addF_length d r
  unfold addA
  rw [List.length_append]
  cases fl
  · simp; omega
  · simp; omega
end log
theorem sure_fn {w : World} {v : Value} {l : List disk.Act} (h : (Sl tAct).rep All w v l) (h13 : ∀ i (hi : i < l.length), l[i].flush = false → 13 ≤ l[i].put.data.length) : Fn Try.prog 36 [v] w (fun r w2 => r = i64 (sureF l : Nat) ∧ Ext (fun _ => False) w w2) := by
  obtain ⟨x2, y2, rfl, _⟩ := Sl.val h
  have hl1 := Sl.lim h
  simp only [Lim] at hl1
  refine Fn.enter (fun w => Try.call36 _ w) Try.func36 rfl ?_
  refine .seq (.region ?_)
  refine .p rfl rfl (.as rfl) ?_
  refine .nil (.code (.seq (.keep [(0, _)] ⟨rfl, trivial⟩ (.region ?_))))
  refine .p rfl rfl (.as rfl) ?_
  refine .nil (.code (.seq (.seq (.region ?_))))
  refine .p rfl rfl (.as rfl) ?_
  refine .nil (.code (.block ?_))
  refine .loop (S := Nat) (fun s => [(0, .slice x2 l.length y2), (3, i64 (lastTo l s : Nat)), (4, i64 s)]) (fun s => w) (fun s => s ≤ l.length) (fun s => l.length - s) 0 ⟨rfl, rfl, rfl, trivial⟩ rfl (Nat.zero_le _) ?_
  rintro i J hi' again
  refine .seq (.seq (.region ?_))
  refine .p rfl rfl (.mv rfl) ?_
  refine .p rfl rfl (.mv rfl) ?_
  refine .p rfl rfl (.len rfl rfl) ?_
  refine .p rfl rfl (.lt rfl rfl) ?_
  refine .nil (.code (.keep [(10, _), (0, _), (3, _), (4, _)] ⟨rfl, rfl, rfl, rfl, trivial⟩ ?_))
  refine .condD rfl (fun c10 => ?_) (fun c10 => ?_)
  · have hi : i < l.length := by omega
    obtain ⟨b1, o1, q1, ue, e, _, hcs, hre⟩ := Sl.at h (List.getElem?_eq_getElem hi)
    cases e
    obtain ⟨ud, rfl, hud, hsl⟩ := tAct.val hre
    obtain ⟨ad, cd, rfl, _⟩ := Sl.val hud
    refine .skip (.code (.seq (.block (.seq (.keep [(0, _), (3, _), (4, _)] ⟨rfl, rfl, rfl, trivial⟩ (.region ?_))))))
    refine .p rfl rfl (.mv rfl) ?_
    refine .p rfl rfl (.mv rfl) ?_
    refine .p rfl rfl (.indexAddr (s := 3) rfl rfl rfl rfl (by omega)) ?_
    refine .p rfl rfl (.fieldAddr rfl rfl rfl rfl) ?_
    refine .p rfl rfl (.load rfl rfl rfl (hcs 0 _ rfl)) ?_
    refine .nil (.code (.keep [(17, _), (0, _), (3, _), (4, _)] ⟨rfl, rfl, rfl, rfl, trivial⟩ ?_))
    refine .cond rfl (fun c17 => ?_) (fun c17 => ?_)
    · refine .keep [(0, _), (4, _)] ⟨rfl, rfl, trivial⟩ (.region ?_)
      refine .p rfl rfl (.mv rfl) ?_
      refine .p rfl rfl (.as rfl) ?_
      refine .nil (.blk (.code (.keep [(3, _), (0, _), (4, _)] ⟨rfl, rfl, rfl, trivial⟩ (.region ?_))))
      refine .p rfl rfl (.mv rfl) ?_
      refine .p rfl rfl (.add rfl rfl (by omega)) ?_
      refine .p rfl rfl (.as rfl) ?_
      refine .nil ?_
      exact (again (i + 1) (by show i + 1 ≤ _; omega) (by show _ - (i + 1) < _ - i; omega)).of ⟨rfl, by show some (i64 (i : Int)) = some (i64 (lastTo l (i + 1) : Nat)); rw [lastTo, List.getElem?_eq_getElem hi]; simp only; rw [if_pos c17], rfl, trivial⟩
    · refine .skip (.blk (.code (.keep [(0, _), (3, _), (4, _)] ⟨rfl, rfl, rfl, trivial⟩ (.region ?_))))
      refine .p rfl rfl (.mv rfl) ?_
      refine .p rfl rfl (.add rfl rfl (by omega)) ?_
      refine .p rfl rfl (.as rfl) ?_
      refine .nil ?_
      exact (again (i + 1) (by show i + 1 ≤ _; omega) (by show _ - (i + 1) < _ - i; omega)).of ⟨rfl, by show some (i64 (lastTo l i : Nat)) = some (i64 (lastTo l (i + 1) : Nat)); rw [lastTo, List.getElem?_eq_getElem hi]; simp only; rw [if_neg (by rw [c17]; decide)], rfl, trivial⟩
  · obtain rfl : i = l.length := by omega
    refine .exit rfl (.code (.seq (.keep [(0, _), (3, _)] ⟨rfl, rfl, trivial⟩ (.region ?_))))
    refine .p rfl rfl (.as rfl) ?_
    refine .nil (.code (.seq (.seq (.region ?_))))
    refine .p rfl rfl (.as rfl) ?_
    refine .nil (.code (.block ?_))
    refine .loop (S := Nat) (fun s => [(0, .slice x2 l.length y2), (3, i64 (lastTo l l.length : Nat)), (5, i64 (headTo l s : Nat)), (6, i64 s)]) (fun s => w) (fun s => s ≤ lastTo l l.length) (fun s => lastTo l l.length - s) 0 ⟨rfl, rfl, rfl, rfl, trivial⟩ rfl (Nat.zero_le _) ?_
    rintro j J hj again
    have hjl := lastTo_le l l.length
    have hjh := headTo_le l j
    refine .seq (.seq (.region ?_))
    refine .p rfl rfl (.mv rfl) ?_
    refine .p rfl rfl (.mv rfl) ?_
    refine .p rfl rfl (.lt rfl rfl) ?_
    refine .nil (.code (.keep [(21, _), (0, _), (3, _), (5, _), (6, _)] ⟨rfl, rfl, rfl, rfl, rfl, trivial⟩ ?_))
    refine .condD rfl (fun c21 => ?_) (fun c21 => ?_)
    · have hi : j < l.length := by have := lastTo_le l l.length; omega
      obtain ⟨b1, o1, q1, ue, e, _, hcs, hre⟩ := Sl.at h (List.getElem?_eq_getElem hi)
      cases e
      obtain ⟨ud, rfl, hud, hsl⟩ := tAct.val hre
      obtain ⟨ad, cd, rfl, _⟩ := Sl.val hud
      refine .skip (.code (.seq (.block (.seq (.keep [(0, _), (3, _), (5, _), (6, _)] ⟨rfl, rfl, rfl, rfl, trivial⟩ (.region ?_))))))
      refine .p rfl rfl (.mv rfl) ?_
      refine .p rfl rfl (.mv rfl) ?_
      refine .p rfl rfl (.indexAddr (s := 3) rfl rfl rfl rfl (by omega)) ?_
      refine .p rfl rfl (.fieldAddr rfl rfl rfl rfl) ?_
      refine .p rfl rfl (.load rfl rfl rfl (hcs 0 _ rfl)) ?_
      refine .p rfl rfl (.not rfl) ?_
      refine .p rfl rfl (.mv rfl) ?_
      refine .case 30 rfl (fun c30 => ?_) (fun c30 => ?_)
      · have hf : l[j].flush = false := by simpa using c30
        have hge := h13 j hi hf
        obtain ⟨bb, bo, rfl, _, hcb⟩ := Sl.byteAt hud (k := 12) (by omega)
        have hgd : l[j].put.data.getD 12 0 = l[j].put.data[12] := by rw [List.getD, List.getElem?_eq_getElem (by omega)]; rfl
        refine .p rfl rfl (.mv rfl) ?_
        refine .p rfl rfl (.mv rfl) ?_
        refine .p rfl rfl (.indexAddr (s := 3) rfl rfl rfl rfl (by omega)) ?_
        refine .p rfl rfl (.fieldAddr rfl rfl rfl rfl) ?_
        refine .p rfl rfl (.fieldAddr rfl rfl rfl rfl) ?_
        refine .p rfl rfl (.load rfl rfl rfl (hcs 2 _ rfl)) ?_
        refine .p rfl rfl (.indexAddr1 rfl rfl rfl rfl (by omega)) ?_
        refine .p rfl rfl (.load rfl rfl rfl hcb) ?_
        refine .p rfl rfl (.eq rfl rfl) ?_
        refine .p rfl rfl (.pickT rfl rfl) ?_
        refine .nil (.code (.keep [(40, _), (0, _), (3, _), (5, _), (6, _)] ⟨rfl, rfl, rfl, rfl, rfl, trivial⟩ ?_))
        refine .condD rfl (fun c40 => ?_) (fun c40 => ?_)
        · refine .keep [(0, _), (3, _), (5, _), (6, _)] ⟨rfl, rfl, rfl, rfl, trivial⟩ (.region ?_)
          refine .p rfl rfl (.mv rfl) ?_
          refine .p rfl rfl (.add rfl rfl (by omega)) ?_
          refine .p rfl rfl (.as rfl) ?_
          refine .nil (.blk (.code (.keep [(5, _), (0, _), (3, _), (6, _)] ⟨rfl, rfl, rfl, rfl, trivial⟩ (.region ?_))))
          refine .p rfl rfl (.mv rfl) ?_
          refine .p rfl rfl (.add rfl rfl (by omega)) ?_
          refine .p rfl rfl (.as rfl) ?_
          refine .nil ?_
          exact (again (j + 1) (by show j + 1 ≤ _; omega) (by show _ - (j + 1) < _ - j; omega)).of ⟨rfl, rfl, by show some (i64 ((headTo l j + 1 : Nat) : Int)) = some (i64 (headTo l (j + 1) : Nat)); rw [headTo, List.getElem?_eq_getElem hi]; simp only; rw [if_pos ⟨hf, by rw [hgd]; apply UInt8.toNat_inj.1; show _ = 0; omega⟩], rfl, trivial⟩
        · refine .skip (.blk (.code (.keep [(0, _), (3, _), (5, _), (6, _)] ⟨rfl, rfl, rfl, rfl, trivial⟩ (.region ?_))))
          refine .p rfl rfl (.mv rfl) ?_
          refine .p rfl rfl (.add rfl rfl (by omega)) ?_
          refine .p rfl rfl (.as rfl) ?_
          refine .nil ?_
          exact (again (j + 1) (by show j + 1 ≤ _; omega) (by show _ - (j + 1) < _ - j; omega)).of ⟨rfl, rfl, by show some (i64 ((headTo l j : Nat) : Int)) = some (i64 (headTo l (j + 1) : Nat)); rw [headTo, List.getElem?_eq_getElem hi]; simp only; rw [if_neg (fun hh => c40 (by have h0 := hh.2; rw [hgd] at h0; rw [h0]; rfl))], rfl, trivial⟩
      · refine .skip rfl rfl ?_
        refine .skip rfl rfl ?_
        refine .skip rfl rfl ?_
        refine .skip rfl rfl ?_
        refine .skip rfl rfl ?_
        refine .skip rfl rfl ?_
        refine .skip rfl rfl ?_
        refine .skip rfl rfl ?_
        refine .skip rfl rfl ?_
        refine .p rfl rfl (.pickF rfl rfl) ?_
        refine .nil (.code (.keep [(40, _), (0, _), (3, _), (5, _), (6, _)] ⟨rfl, rfl, rfl, rfl, rfl, trivial⟩ (.condF rfl (.skip (.blk (.code (.keep [(0, _), (3, _), (5, _), (6, _)] ⟨rfl, rfl, rfl, rfl, trivial⟩ (.region ?_))))))))
        refine .p rfl rfl (.mv rfl) ?_
        refine .p rfl rfl (.add rfl rfl (by omega)) ?_
        refine .p rfl rfl (.as rfl) ?_
        refine .nil ?_
        exact (again (j + 1) (by show j + 1 ≤ _; omega) (by show _ - (j + 1) < _ - j; omega)).of ⟨rfl, rfl, by show some (i64 ((headTo l j : Nat) : Int)) = some (i64 (headTo l (j + 1) : Nat)); rw [headTo, List.getElem?_eq_getElem hi]; simp only; rw [if_neg (fun hh => by have h0 := hh.1; simp [h0] at c30)], rfl, trivial⟩
    · refine .exit rfl (.code (.seq (.keep [(5, _)] ⟨rfl, trivial⟩ (.region ?_))))
      refine .p rfl rfl (.mv rfl) ?_
      refine .p rfl rfl (.as rfl) ?_
      refine .nil (.code ?_)
      refine .ret _ rfl ?_
      obtain rfl : j = lastTo l l.length := by omega
      exact ⟨rfl, .refl _⟩
theorem added_fn {w : World} {v vl vf : Value} {d : Disk} {l : List Bs} {fs : List Bool} (h : tDisk.rep All w v d) (hl : tStrs.rep All w vl l) (hf : (Sl tBool).rep All w vf fs) (h12 : l.length ≤ 12) : Fn Try.prog 34 [v, vl, vf] w (fun r w2 => ∃ v', r = .tuple #[v', .bool (addL d (flagsAt fs 0 l)).2] ∧ (Sl tAct).rep All w2 v' (addL d (flagsAt fs 0 l)).1 ∧ Ext (fun _ => False) w w2) := by
  have R0 := tDisk.mono h (P' := fun k => k < w.heap.size) (fun k _ h => h)
  have hlb := tStrs.mono hl (P' := fun k => k < w.heap.size) (fun k _ h => h)
  have hfb := (Sl tBool).mono hf (P' := fun k => k < w.heap.size) (fun k _ h => h)
  obtain ⟨u1, q1, u2, q2, rfl⟩ := disk_shape h
  obtain ⟨al, cl, rfl, hcl⟩ := Sl.val hl
  obtain ⟨af, cf, rfl, hcf⟩ := Sl.val hf
  have hlf := Sl.lim hf
  simp only [Lim] at hlf
  refine Fn.enter (fun w => Try.call34 _ w) Try.func34 rfl ?_
  refine .seq (.region ?_)
  refine .v rfl rfl (.box rfl) ?_
  rintro _ w3 ⟨rfl, N3⟩
  have z3 := N3.size
  have B3 := N3.blk
  refine .p rfl rfl (.as rfl) ?_
  refine .p rfl rfl (.as rfl) ?_
  refine .nil (.code (.seq (.keep [(3, _), (1, _), (2, _)] ⟨rfl, rfl, rfl, trivial⟩ (.region ?_))))
  refine .p rfl rfl (.as rfl) ?_
  refine .nil (.code (.seq (.seq (.region ?_))))
  refine .p rfl rfl (.as rfl) ?_
  refine .nil (.code (.block ?_))
  refine .loop (S := Nat × World × Value × List disk.Act × Disk × Value × (Nat → Prop)) (fun s => [(1, .slice al l.length cl), (2, .slice af fs.length cf), (3, .pointer (some ⟨w.heap.size, 0, none⟩)), (8, s.2.2.1), (9, i64 s.1)]) (fun s => s.2.1) (fun s => s.1 ≤ l.length ∧ (∃ a1 c1 a2 c2, s.2.2.2.2.2.1 = .agg #[i64 s.2.2.2.2.1.count, .slice a1 s.2.2.2.2.1.data.length c1, .slice a2 s.2.2.2.2.1.waits.length c2] ∧ Blk s.2.1 w.heap.size 36 [i64 s.2.2.2.2.1.count, .slice a1 s.2.2.2.2.1.data.length c1, .slice a2 s.2.2.2.2.1.waits.length c2]) ∧ tDisk.rep (fun k => ¬ s.2.2.2.2.2.2 k ∧ k ≠ w.heap.size) s.2.1 s.2.2.2.2.2.1 s.2.2.2.2.1 ∧ OwnO tAct (fun k => ¬ s.2.2.2.2.2.2 k ∧ k ≠ w.heap.size) 64 s.2.1 s.2.2.1 s.2.2.2.1 s.2.2.2.2.2.2 ∧ (∀ k, s.2.2.2.2.2.2 k → w3.heap.size ≤ k ∧ k < s.2.1.heap.size) ∧ Ext (fun _ => False) w s.2.1 ∧ TotA d (flagsAt fs 0 l) s.2.2.2.1 s.2.2.2.2.1 (flagsAt fs s.1 (l.drop s.1)) ∧ s.2.2.2.1.length ≤ 38 * s.1 ∧ w3.heap.size ≤ s.2.1.heap.size) (fun s => l.length - s.1) (0, w3, .slice none 0 0, [], d, _, fun _ => False) ⟨rfl, rfl, rfl, rfl, rfl, trivial⟩ rfl ⟨Nat.zero_le _, ⟨_, _, _, _, rfl, B3⟩, tDisk.mono (tDisk.ext0 R0 N3.ext) (fun k hk _ => ⟨fun x => x, by have hk : k < w.heap.size := hk; omega⟩), OwnO.nil, fun _ h => h.elim, N3.ext, by show TotA d _ [] d (flagsAt fs 0 l); exact TotA.start d _, Nat.le_refl _, Nat.le_refl _⟩ ?_
  rintro ⟨i, wi, vo, acc, dd, vd, B⟩ J ⟨hi', ⟨e1, f1, e2, f2, hvd, Bk⟩, Rd, hO, hB, Xw, hT, hacc, hsz⟩ again
  simp only at hi' hvd Bk Rd hO hB Xw hT hacc hsz
  subst hvd
  change G _ [(1, .slice al l.length cl), (2, .slice af fs.length cf), (3, .pointer (some ⟨w.heap.size, 0, none⟩)), (8, vo), (9, i64 i)] _ _ wi
  refine .seq (.seq (.region ?_))
  refine .p rfl rfl (.mv rfl) ?_
  refine .p rfl rfl (.mv rfl) ?_
  refine .p rfl rfl (.len rfl rfl) ?_
  refine .p rfl rfl (.lt rfl rfl) ?_
  refine .nil (.code (.keep [(17, _), (1, _), (2, _), (3, _), (8, _), (9, _)] ⟨rfl, rfl, rfl, rfl, rfl, rfl, trivial⟩ ?_))
  refine .condD rfl (fun c17 => ?_) (fun c17 => ?_)
  · have hi : i < l.length := by omega
    obtain ⟨bl0, ol0, rfl, _, hcl0, hrl⟩ := Sl.strAt (tStrs.ext0 hlb Xw) hi
    have hst := flags_step (fs := fs) hi
    rw [hst] at hT
    refine .skip (.code (.seq (.block (.seq (.keep [(1, _), (2, _), (3, _), (8, _), (9, _)] ⟨rfl, rfl, rfl, rfl, rfl, trivial⟩ (.mix (fun _ => False) [5] (by kernel_rfl) (by kernel_rfl) (by kernel_rfl) ?_))))))
    refine .p rfl rfl rfl (fun wx hx => .loadA (n := 3) rfl rfl rfl rfl rfl (Bk.ext hx (fun x => x)).cells) ?_
    refine .p rfl rfl rfl (fun wx hx => .mv rfl) ?_
    refine .p rfl rfl rfl (fun wx hx => .mv rfl) ?_
    refine .p rfl rfl rfl (fun wx hx => .indexAddr1 rfl rfl rfl rfl (by omega)) ?_
    refine .p rfl rfl rfl (fun wx hx => .load rfl rfl rfl (hx.cell hcl0 (fun x => x))) ?_
    refine .call (first := []) (captured := []) rfl rfl rfl rfl rfl (Add_fn (d := dd) (r := l[i]) (allOf Rd) hrl) (by rintro _ _ ⟨_, _, _, _, _, _, _, hX⟩; exact hX) ?_
    rintro _ w26 ⟨v26, Q26, A26, rfl, G26, hQ26, hA26, X26⟩
    have z26 := X26.size
    obtain ⟨a26, c26, rfl, _⟩ := OwnO.val G26
    have G26 := OwnO.mono G26 (Q' := fun k => Q26 k ∧ k < w26.heap.size) (B' := fun k => A26 k ∧ k < w26.heap.size) (fun k h1 h2 => ⟨h1, h2⟩) (fun k h1 h2 => ⟨h1, h2⟩)
    refine .p rfl rfl rfl (fun wx hx => .mv rfl) ?_
    refine .p rfl rfl rfl (fun wx hx => .extract rfl rfl) ?_
    refine .p rfl rfl rfl (fun wx hx => .extract rfl rfl) ?_
    refine .p rfl rfl rfl (fun wx hx => .as rfl) ?_
    refine .p rfl rfl rfl (fun wx hx => .as rfl) ?_
    refine .nil (.code (.seq (.seq (.keep [(11, _), (10, _), (1, _), (2, _), (3, _), (8, _), (9, _)] ⟨rfl, rfl, rfl, rfl, rfl, rfl, rfl, trivial⟩ (.region ?_)))))
    refine .p rfl rfl (.mv rfl) ?_
    refine .p rfl rfl (.ne rfl rfl) ?_
    refine .nil (.code (.keep [(30, _), (10, _), (1, _), (2, _), (3, _), (8, _), (9, _)] ⟨rfl, rfl, rfl, rfl, rfl, rfl, rfl, trivial⟩ ?_))
    refine .condD rfl (fun c30 => ?_) (fun c30 => ?_)
    · refine .seq (.keep [] trivial (.region ?_))
      refine .p rfl rfl (.as rfl) ?_
      refine .p rfl rfl (.as rfl) ?_
      refine .nil (.code ?_)
      refine .ret _ rfl ?_
      rw [TotA.bad1 hT c30]
      exact ⟨_, rfl, Sl.nil, Xw.trans X26⟩
    · have h1 : (addF dd l[i]).2 = 0 := Decidable.byContradiction c30
      refine .skip (.code (.seq (.seq (.keep [(10, _), (1, _), (2, _), (3, _), (8, _), (9, _)] ⟨rfl, rfl, rfl, rfl, rfl, rfl, trivial⟩ ?_))))
      refine .meet (S := Bool) (fun s => [(1, .slice (some ⟨bl0, ol0, none⟩) l.length cl), (2, .slice af fs.length cf), (3, .pointer (some ⟨w.heap.size, 0, none⟩)), (8, vo), (9, i64 i), (10, .slice a26 (addF dd l[i]).1.length c26), (40, .bool s)]) (fun s => w26) (fun s => s = fs.getD i false) ?_ ?_
      · rintro fg hfg
        refine .code ?_
        refine .meet (S := World × Value × (Nat → Prop) × Option Addr × Nat) (fun s => [(1, .slice (some ⟨bl0, ol0, none⟩) l.length cl), (2, .slice af fs.length cf), (3, .pointer (some ⟨w.heap.size, 0, none⟩)), (8, vo), (9, i64 i), (10, s.2.1)]) (fun s => s.1) (fun s => s.2.1 = .slice s.2.2.2.1 (addA dd l[i] (fs.getD i false)).length s.2.2.2.2 ∧ OwnO tActO (fun k => Q26 k ∧ k < w26.heap.size) 64 s.1 s.2.1 (addA dd l[i] (fs.getD i false)) s.2.2.1 ∧ (∀ k, s.2.2.1 k → wi.heap.size ≤ k) ∧ Ext (fun _ => False) wi s.1) ?_ ?_
        · rintro ⟨wm, vm, Am, am, cm⟩ ⟨hvm, Gm, hAm, Xm⟩
          simp only at hvm Gm hAm Xm
          have zm := Xm.size
          refine .code (.seq (.region ?_))
          refine .p rfl rfl (.loadA (n := 3) rfl rfl rfl rfl rfl (Bk.ext (S := fun _ => False) Xm (fun x => x)).cells) ?_
          refine .p rfl rfl (.mv rfl) ?_
          refine .call (first := []) (captured := []) rfl rfl rfl rfl (Do_fn (d := dd) (l := addA dd l[i] (fs.getD i false)) (allOf (tDisk.ext0 Rd Xm)) (actsOwn Gm)) ?_
          rintro _ w48 ⟨v48, rfl, D48, X48⟩
          have z48 : wm.heap.size ≤ w48.heap.size := X48.size
          obtain ⟨x3, y3, x4, y4, rfl⟩ := D48.val
          refine .p rfl rfl (.mv rfl) ?_
          refine .p rfl rfl (.extract rfl rfl) ?_
          refine .p rfl rfl (.extract rfl rfl) ?_
          refine .v rfl rfl (.alloc rfl rfl) ?_
          rintro _ w12a ⟨rfl, N12⟩
          refine .s rfl (.storeAll (n := 3) rfl rfl rfl rfl rfl N12.blk rfl) ?_
          intro w12 P12
          have X12 := N12.ext.then P12.ext (by rintro k rfl _; exact Nat.le_refl _)
          have B12 := P12.blk
          have z12 : w12.heap.size = w48.heap.size + 1 := by rw [P12.size, N12.size]
          refine .p rfl rfl (.as rfl) ?_
          refine .nil (.code (.seq (.seq (.keep [(13, _), (12, _), (1, _), (2, _), (3, _), (8, _), (9, _), (10, _)] ⟨rfl, rfl, rfl, rfl, rfl, rfl, rfl, rfl, trivial⟩ (.region ?_)))))
          refine .p rfl rfl (.mv rfl) ?_
          refine .p rfl rfl (.ne rfl rfl) ?_
          refine .nil (.code (.keep [(52, _), (12, _), (1, _), (2, _), (3, _), (8, _), (9, _), (10, _)] ⟨rfl, rfl, rfl, rfl, rfl, rfl, rfl, rfl, trivial⟩ ?_))
          refine .condD rfl (fun c52 => ?_) (fun c52 => ?_)
          · refine .seq (.keep [] trivial (.region ?_))
            refine .p rfl rfl (.as rfl) ?_
            refine .p rfl rfl (.as rfl) ?_
            refine .nil (.code ?_)
            refine .ret _ rfl ?_
            rw [TotA.bad2 hT h1 c52]
            exact ⟨_, rfl, Sl.nil, (Xw.trans Xm).trans (X48.trans X12)⟩
          · have h2 : (doF dd (addA dd l[i] (fs.getD i false))).2 = 0 := Decidable.byContradiction c52
            refine .skip (.code (.seq (.keep [(12, _), (1, _), (2, _), (3, _), (8, _), (9, _), (10, _)] ⟨rfl, rfl, rfl, rfl, rfl, rfl, rfl, trivial⟩ (.region ?_))))
            refine .p rfl rfl (.loadA (n := 3) rfl rfl rfl rfl rfl B12.cells) ?_
            refine .s rfl (.storeAll (n := 3) rfl rfl rfl rfl rfl (Bk.ext (S := fun _ => False) (Xm.trans (X48.trans X12)) (fun x => x)) rfl) ?_
            intro w53 P53
            have z53 := P53.size
            have hO53 := OwnO.ext (OwnO.ext0 (OwnO.ext0 (OwnO.ext0 hO Xm) X48) X12) P53.ext (by rintro k hk _ rfl; exact absurd (hB _ hk).1 (by omega)) (by rintro k hk _ rfl; exact hk.2 rfl)
            have Ra : (Sl tAct).rep (fun k => wi.heap.size ≤ k ∧ k < wm.heap.size) wm _ (addA dd l[i] (fs.getD i false)) := Sl.imp (OwnO.rep Gm (fun k h1 h2 => ⟨hAm k h1, h2⟩) (fun k h1 h2 => ⟨(hQ26 k h1.1).1, h2⟩)) (fun u x hx => tActO.weak hx)
            have Ra := (Sl tAct).ext ((Sl tAct).ext0 ((Sl tAct).ext0 Ra X48) X12) P53.ext (by rintro k hk _ rfl; have := hk.1; omega)
            have Rx := tDisk.ext (tDisk.ext0 (tDisk.mono D48.rep (P' := fun k => wm.heap.size ≤ k ∧ k < w48.heap.size) (fun k h1 h2 => ⟨h1, h2⟩)) X12) P53.ext (by rintro k hk _ rfl; have := hk.1; omega)
            have hO56 := OwnO.mono hO53 (Q' := fun k => (¬ B k ∧ k ≠ w.heap.size) ∧ k < w53.heap.size) (B' := fun k => B k ∨ w53.heap.size ≤ k) (fun _ h hlt => ⟨h, hlt⟩) (fun _ h _ => .inl h)
            have Ra' := (Sl tAct).mono Ra (P' := fun k => (¬ B k ∧ k ≠ w.heap.size) ∧ k < w53.heap.size) (fun k hk hlt => ⟨⟨fun hb => by have := (hB k hb).2; have := hk.1; omega, by have := hk.1; omega⟩, hlt⟩)
            refine .nil (.code (.keep [(1, _), (2, _), (3, _), (8, _), (9, _), (10, _)] ⟨rfl, rfl, rfl, rfl, rfl, rfl, trivial⟩ (.region ?_)))
            refine .p rfl rfl (.mv rfl) ?_
            refine .p rfl rfl (.mv rfl) ?_
            refine .v rfl rfl (.appendLo (t := tAct) (Q := fun k => (¬ B k ∧ k ≠ w.heap.size) ∧ k < w53.heap.size) (B := fun k => B k ∨ w53.heap.size ≤ k) (eb := 40) rfl hO56 (fun k hk => .inr hk) rfl (Sl.holds Ra' (fun _ _ h => h)) rfl rfl rfl rfl rfl rfl rfl (by have := addA_length dd l[i] (fs.getD i false); omega) (by have := addA_length dd l[i] (fs.getD i false); simp only [Lim]; omega) (fun k hk hlt hB2 => by rcases hB2 with hB2 | hB2; exact hk.1.1 hB2; have := hk.2; omega)) ?_
            rintro r56 w56 ⟨G56, Y56⟩
            have z56 := Y56.size
            refine .p rfl rfl (.as rfl) ?_
            refine .nil (.blk (.code (.keep [(8, _), (1, _), (2, _), (3, _), (9, _)] ⟨rfl, rfl, rfl, rfl, rfl, trivial⟩ (.region ?_))))
            refine .p rfl rfl (.mv rfl) ?_
            refine .p rfl rfl (.add rfl rfl (by omega)) ?_
            refine .p rfl rfl (.as rfl) ?_
            refine .nil ?_
            refine (again (i + 1, w56, r56, acc ++ addA dd l[i] (fs.getD i false), (doF dd (addA dd l[i] (fs.getD i false))).1, (.agg #[i64 (doF dd (addA dd l[i] (fs.getD i false))).1.count, .slice x3 (doF dd (addA dd l[i] (fs.getD i false))).1.data.length y3, .slice x4 (doF dd (addA dd l[i] (fs.getD i false))).1.waits.length y4]), (fun k => (B k ∨ w53.heap.size ≤ k) ∧ k < w56.heap.size)) ⟨by show i + 1 ≤ _; omega, ⟨_, _, _, _, rfl, P53.blk.ext Y56 (by rintro (hh | hh); exact absurd (hB _ hh).1 (by omega); omega)⟩, ?_, ?_, ?_, ?_, TotA.step hT h1 h2, ?_, ?_⟩ (by show _ - (i + 1) < _ - i; omega)).of ⟨rfl, rfl, rfl, rfl, rfl, trivial⟩
            · refine tDisk.mono (tDisk.ext Rx Y56 (fun k hk _ hh => ?_)) (fun k hk _ => ⟨fun hh => ?_, by have := hk.1; omega⟩)
              · rcases hh with hh | hh
                · have := (hB k hh).2; have := hk.1; omega
                · have := hk.2; omega
              · rcases hh.1 with hh | hh
                · have := (hB k hh).2; have := hk.1; omega
                · have := hk.2; omega
            · exact OwnO.mono G56 (fun k hk hlt => ⟨fun hh => by rcases hh.1 with hh | hh; exact hk.1.1 hh; have := hk.2; omega, hk.1.2⟩) (fun k hk hlt => ⟨hk, hlt⟩)
            · intro k hk
              exact ⟨by rcases hk.1 with hh | hh; exact (hB k hh).1; show w3.heap.size ≤ k; omega, hk.2⟩
            · exact ((((Xw.trans Xm).trans (X48.trans X12)).then P53.ext (by rintro k rfl _; exact Nat.le_refl _)).then Y56 (fun k hh _ => by rcases hh with hh | hh; have := (hB k hh).1; omega; omega))
            · show (acc ++ addA dd l[i] (fs.getD i false)).length ≤ 38 * (i + 1)
              have := addA_length dd l[i] (fs.getD i false)
              rw [List.length_append]; omega
            · show w3.heap.size ≤ w56.heap.size
              omega
        · intro meet
          refine .cond rfl (fun c40 => ?_) (fun c40 => ?_)
          · refine .keep [(1, _), (2, _), (3, _), (8, _), (9, _), (10, _)] ⟨rfl, rfl, rfl, rfl, rfl, rfl, trivial⟩ (.region ?_)
            refine .p rfl rfl (.mv rfl) ?_
            refine .p rfl rfl (.build (cs := [.bool true, i64 0, .slice none 0 0]) rfl (fun _ => by kernel_rfl)) ?_
            refine .v rfl rfl (.lits rfl rfl (fun _ => by kernel_rfl)) ?_
            rintro _ w43 ⟨rfl, N43⟩
            have z43 := N43.size
            have G43 := OwnO.ext0 (OwnO.mono G26 (Q' := fun k => Q26 k ∧ k < w26.heap.size) (B' := fun k => (A26 k ∧ k < w26.heap.size) ∨ w43.heap.size ≤ k) (fun _ h _ => h) (fun _ h _ => .inl h)) N43.ext
            refine .v rfl rfl (.appendLo (t := tActO) (Q := fun k => Q26 k ∧ k < w26.heap.size) (B := fun k => (A26 k ∧ k < w26.heap.size) ∨ w43.heap.size ≤ k) (eb := 40) rfl G43 (fun k hk => .inr hk) rfl (.inr (New.holds (t := tActO) (xs := [flushAct]) N43 (.cons (tActO.mk (P := fun k => Q26 k ∧ k < w26.heap.size) (a := flushAct) OwnO.nil (by show (-9223372036854775808 : Int) ≤ 0 ∧ (0 : Int) ≤ 9223372036854775807; decide)) .nil) rfl)) rfl rfl rfl rfl rfl rfl rfl (by have := addF_length dd l[i]; simp; omega) (by have := addF_length dd l[i]; simp [Lim]; omega) (fun k hk hlt hB2 => by rcases hB2 with hB2 | hB2; exact (hQ26 k hk.1).2 hB2.1; have := hk.2; omega)) ?_
            rintro r44 w44 ⟨G44, Y44⟩
            have z44 := Y44.size
            obtain ⟨a44, c44, rfl, _⟩ := OwnO.val G44
            refine .p rfl rfl (.as rfl) ?_
            refine .nil ?_
            have ea : addA dd l[i] (fs.getD i false) = (addF dd l[i]).1 ++ [flushAct] := by unfold addA; rw [← hfg, c40, if_pos rfl]
            exact (meet (w44, _, _, a44, c44) ⟨by rw [ea], by rw [ea]; exact G44, fun k hk => by rcases hk with hk | hk; exact hA26 k hk.1; omega, (X26.trans N43.ext).then Y44 (fun k hk hlt => by rcases hk with hk | hk; exact hA26 k hk.1; omega)⟩).of ⟨rfl, rfl, rfl, rfl, rfl, rfl, trivial⟩
          · refine .skip ?_
            have ea : addA dd l[i] (fs.getD i false) = (addF dd l[i]).1 := by unfold addA; rw [← hfg, c40, if_neg (by decide), List.append_nil]
            exact (meet (_, _, (fun k => A26 k ∧ k < w26.heap.size), a26, c26) ⟨by rw [ea], by rw [ea]; exact G26, fun k hk => hA26 k hk.1, X26⟩).of ⟨rfl, rfl, rfl, rfl, rfl, rfl, trivial⟩
      · intro meet
        refine .region ?_
        refine .p rfl rfl (.mv rfl) ?_
        refine .p rfl rfl (.mv rfl) ?_
        refine .p rfl rfl (.len rfl rfl) ?_
        refine .p rfl rfl (.lt rfl rfl) ?_
        refine .p rfl rfl (.mv rfl) ?_
        refine .caseD 35 rfl (fun c35 => ?_) (fun c35 => ?_)
        · obtain ⟨bf0, of0, rfl, _, hcf0, _⟩ := Sl.cellAt hfb rfl Value.bool (fun u x hx => ⟨hx, rfl⟩) (k := i) (by omega)
          have hgd : fs.getD i false = fs[i]'(by omega) := by rw [List.getD_eq_getElem?_getD, List.getElem?_eq_getElem (by omega)]; rfl
          refine .p rfl rfl (.mv rfl) ?_
          refine .p rfl rfl (.mv rfl) ?_
          refine .p rfl rfl (.indexAddr1 rfl rfl rfl rfl (by omega)) ?_
          refine .p rfl rfl (.load rfl rfl rfl ((Xw.trans X26).cell hcf0 (fun x => x))) ?_
          refine .p rfl rfl (.pickT rfl rfl) ?_
          refine .nil ?_
          exact (meet _ hgd.symm).of ⟨rfl, rfl, rfl, rfl, rfl, rfl, rfl, trivial⟩
        · have hgd : fs.getD i false = false := by rw [List.getD_eq_getElem?_getD, List.getElem?_eq_none (by omega)]; rfl
          refine .skip rfl rfl ?_
          refine .skip rfl rfl ?_
          refine .skip rfl rfl ?_
          refine .skip rfl rfl ?_
          refine .p rfl rfl (.pickF rfl rfl) ?_
          refine .nil ?_
          exact (meet _ hgd.symm).of ⟨rfl, rfl, rfl, rfl, rfl, rfl, rfl, trivial⟩
  · obtain rfl : i = l.length := by omega
    rw [List.drop_length] at hT
    have hfin := TotA.done hT
    refine .exit rfl (.code (.seq (.keep [(8, _)] ⟨rfl, trivial⟩ (.region ?_))))
    refine .p rfl rfl (.mv rfl) ?_
    refine .p rfl rfl (.as rfl) ?_
    refine .p rfl rfl (.as rfl) ?_
    refine .nil (.code ?_)
    refine .ret _ rfl ?_
    rw [hfin]
    exact ⟨_, rfl, OwnO.rep hO (fun _ _ _ => trivial) (fun _ _ _ => trivial), Xw⟩
end Go.Proofs.Ytapdacjpmmjlhaa
