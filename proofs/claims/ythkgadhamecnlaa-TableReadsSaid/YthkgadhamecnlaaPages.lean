
/-
  Package table: pages, as they grow; what is told of them.
-/
import Derived.Test.YthkgadhamecnlaaTableDef
import Derived.Test.YthkgadhamecnlaaTree
import Derived.Test.YthkgadhamecnlaaPar
import Derived.Test.YthkgadhamecnlaaJoin
set_option linter.unusedVariables false
set_option linter.unusedSimpArgs false
set_option maxRecDepth 20000
namespace Go.Proofs.Ythkgadhamecnlaa
open Go page table
namespace table
/-- pages in the making: c tells whose each block is: 0 the struct's, 1 the pages' bytes, 2 to 4 the three rows', 5 anybody else's -/
def PG (w : World) (p : Nat) (c : Nat → Nat) (lo : Nat) (ps : List (List Entry)) : Prop :=
  ∃ v1 v2 v3, Blk w p 69 [v1, v2, v3] ∧ OwnO tBytes (fun k => c k = 1) 24 w v1 (ps.map pageB) (fun k => c k = 2) ∧ OwnO tStr (fun _ => False) 9 w v2 (ps.map fstK) (fun k => c k = 3) ∧ OwnO tStr (fun _ => False) 9 w v3 (ps.map lstK) (fun k => c k = 4) ∧ c p = 0 ∧ (∀ k, k < lo → c k = 5) ∧ lo ≤ w.heap.size
theorem fst_eq {l : List Entry} (h : 0 < l.length) : fstK l = l[0].key := by
  cases l with
  | nil => cases h
  | cons x l => rfl
theorem lst_eq {l : List Entry} (h : 0 < l.length) : lstK l = l[l.length - 1].key := by
  have hne : l ≠ [] := List.length_pos_iff.1 h
  unfold lstK
  rw [List.getLastD_eq_getLast?, List.getLast?_eq_some_getLast hne, Option.getD_some, List.getLast_eq_getElem]
def idxTo (ps : List (List Entry)) (i : Nat) : Bs := smallF ps.length ++ ((ps.take i).map idx1).flatten
theorem idx_succ {ps : List (List Entry)} {i : Nat} (h : i < ps.length) : idxTo ps (i + 1) = idxTo ps i ++ textF (fstK ps[i]) ++ textF (lstK ps[i]) ++ smallF (pageB ps[i]).length := by
  unfold idxTo
  rw [List.take_succ_eq_append_getElem h, List.map_append, List.flatten_append]
  simp [idx1]
theorem idx_all (ps : List (List Entry)) : idxTo ps ps.length = indexB ps := by unfold idxTo indexB; rw [List.take_length]
theorem idx_len {ps : List (List Entry)} (h : ∀ q ∈ ps, (fstK q).length ≤ 256 ∧ (lstK q).length ≤ 256) : ∀ i, i ≤ ps.length → (idxTo ps i).length ≤ 10 + i * 542
  | 0, _ => by unfold idxTo; have := smallF_length ps.length; simp; omega
  | i + 1, hi => by
    have ih := idx_len h i (by omega)
    have h0 := h ps[i] (List.getElem_mem (by omega))
    rw [idx_succ (by omega), List.length_append, List.length_append, List.length_append]
    have h1 := textF_length (fstK ps[i])
    have h2 := textF_length (lstK ps[i])
    have h3 := smallF_length (pageB ps[i]).length
    omega
end table
theorem count_fn {w : World} {p n cap : Nat} {a : Option Addr} {E : TypeId} {cs : List Value} (Bp : Blk w p E (.slice a n cap :: cs)) : Fn Try.prog 48 [.pointer (some ⟨p, 0, none⟩)] w (fun r w2 => r = i64 (n : Int) ∧ Ext (fun _ => False) w w2) := by
  refine Fn.enter (fun w => Try.call48 _ w) Try.func48 rfl ?_
  refine .seq (.region ?_)
  refine .p rfl rfl (.as rfl) ?_
  refine .nil (.code (.seq (.keep [(0, _)] ⟨rfl, trivial⟩ (.region ?_))))
  refine .p rfl rfl (.mv rfl) ?_
  refine .p rfl rfl (.nilCheck rfl) ?_
  refine .p rfl rfl (.fieldAddr rfl rfl rfl rfl) ?_
  refine .p rfl rfl (.load rfl rfl rfl (Bp.cell 0)) ?_
  refine .p rfl rfl (.len rfl rfl) ?_
  refine .p rfl rfl (.as rfl) ?_
  refine .nil (.code ?_)
  refine .ret _ rfl ?_
  exact ⟨rfl, .refl _⟩
set_option maxHeartbeats 2000000 in
theorem add_fn {w : World} {p lo : Nat} {c : Nat → Nat} {ps : List (List Entry)} {v : Value} {l : List Entry} (hG : PG w p c lo ps) (h : (Sl tEntry).rep (fun k => c k = 5) w v l) (hne : 0 < l.length) (hck : checkE l = 0) (hs : (pageB l).length ≤ 65536) (hps : ps.length ≤ 5000) : Fn Try.prog 61 [.pointer (some ⟨p, 0, none⟩), v] w (fun r w2 => r = i64 0 ∧ (∃ c', PG w2 p c' lo (ps ++ [l]) ∧ ∀ k, k < w.heap.size → c' k = c k) ∧ Ext (fun k => c k ≤ 4) w w2) := by
  obtain ⟨av, cv, rfl, hcv⟩ := Sl.val h
  obtain ⟨v1, v2, v3, Bp, O1, O2, O3, hp0, hlo, hlo2⟩ := hG
  have hlp := Bp.lt
  obtain ⟨ck1, ck2⟩ := check_ok hck
  have hk0 := one_ok (ck2 l[0] (List.getElem_mem hne))
  have hk1 := one_ok (ck2 l[l.length - 1] (List.getElem_mem (by omega)))
  refine Fn.enter (fun w => Try.call61 _ w) Try.func61 rfl ?_
  refine .seq (.region ?_)
  refine .p rfl rfl (.as rfl) ?_
  refine .nil (.code (.seq (.keep [(0, _), (1, _)] ⟨rfl, rfl, trivial⟩ (.region ?_))))
  refine .p rfl rfl (.mv rfl) ?_
  refine .call (first := []) (captured := []) rfl rfl rfl rfl (Make_fn ((Sl tEntry).mono h (fun _ _ _ => trivial))) ?_
  rintro _ w9 ⟨v9, rfl, G9, X9⟩
  rw [make_small hck hs] at G9 ⊢
  obtain ⟨a9, c9, rfl, hc9⟩ := OwnO.val G9
  have z9 := X9.size
  obtain ⟨c1, hc1⟩ : ∃ c1 : Nat → Nat, c1 = fun k => if k < w.heap.size then c k else if k < w9.heap.size then 1 else 2 := ⟨_, rfl⟩
  have hca : ∀ k, k < w.heap.size → c1 k = c k := fun k hk => by rw [hc1]; exact if_pos hk
  have hcb : ∀ k, w.heap.size ≤ k → k < w9.heap.size → c1 k = 1 := fun k h1 h2 => by rw [hc1]; show (if k < w.heap.size then _ else _) = _; rw [if_neg (by omega), if_pos h2]
  have hcc : ∀ k, w9.heap.size ≤ k → c1 k = 2 := fun k h1 => by rw [hc1]; show (if k < w.heap.size then _ else _) = _; rw [if_neg (by omega), if_neg (by omega)]
  have hO1 := OwnO.ext0 (OwnO.mono (Q' := fun k => c1 k = 1) (B' := fun k => c1 k = 2) O1 (fun k h1 h2 => (hca k h2).trans h1) (fun k h1 h2 => (hca k h2).trans h1)) X9
  have hO2 := OwnO.ext0 (OwnO.mono (Q' := fun _ => False) (B' := fun k => c1 k = 3) O2 (fun _ h _ => h) (fun k h1 h2 => (hca k h2).trans h1)) X9
  have hO3 := OwnO.ext0 (OwnO.mono (Q' := fun _ => False) (B' := fun k => c1 k = 4) O3 (fun _ h _ => h) (fun k h1 h2 => (hca k h2).trans h1)) X9
  have R9 : tBytes.rep (fun k => c1 k = 1) w9 _ (pageB l) := tBytes.mono (Gr.rep' G9) (fun k hk _ => hcb k hk.1 hk.2)
  have Bp := Bp.ext X9 (fun x => x)
  have Rl := (Sl tEntry).ext0 ((Sl tEntry).mono h (P' := fun k => c1 k = 5) (fun k h1 h2 => (hca k h2).trans h1)) X9
  have hp1 : c1 p = 0 := (hca p hlp).trans hp0
  refine .p rfl rfl (.mv rfl) ?_
  refine .p rfl rfl (.extract rfl rfl) ?_
  refine .p rfl rfl (.extract rfl rfl) ?_
  refine .p rfl rfl (.as rfl) ?_
  refine .p rfl rfl (.as rfl) ?_
  refine .nil (.code (.seq (.keep [(6, _), (5, _), (0, _), (1, _)] ⟨rfl, rfl, rfl, rfl, trivial⟩ (.region ?_))))
  refine .p rfl rfl (.mv rfl) ?_
  refine .p rfl rfl (.mv rfl) ?_
  refine .p rfl rfl (.nilCheck rfl) ?_
  refine .p rfl rfl (.fieldAddr rfl rfl rfl rfl) ?_
  refine .p rfl rfl (.load rfl rfl rfl (Bp.cell 0)) ?_
  refine .p rfl rfl (.mv rfl) ?_
  refine .v rfl rfl (.lits rfl rfl (fun _ => by kernel_rfl)) ?_
  rintro _ w18 ⟨rfl, N18⟩
  have z18 := N18.size
  refine .v rfl rfl (.appendLo (t := tBytes) (Q := fun k => c1 k = 1) (xs := ps.map pageB) (ys := [pageB l]) (B := fun k => c1 k = 2) (eb := 24) rfl (OwnO.ext0 hO1 N18.ext) (fun k hk => hcc k (by omega)) rfl (.inr (New.holds (t := tBytes) (us := [_]) (xs := [pageB l]) N18 (.cons R9 .nil) rfl)) rfl rfl rfl rfl rfl rfl rfl (by simp; omega) (by simp [Lim]; omega) (fun k h1 _ h2 => by omega)) ?_
  rintro r19 w19 ⟨O19, X19⟩
  obtain ⟨a19, c19, rfl, hc19⟩ := OwnO.val O19
  have z19 := X19.size
  have Bp := (Bp.ext N18.ext (fun x => x)).ext X19 (fun h => by omega)
  have hO2 := OwnO.ext (OwnO.ext0 hO2 N18.ext) X19 (fun k h1 _ h2 => by omega) (fun _ h => h.elim)
  have hO3 := OwnO.ext (OwnO.ext0 hO3 N18.ext) X19 (fun k h1 _ h2 => by omega) (fun _ h => h.elim)
  have Rl := (Sl tEntry).ext ((Sl tEntry).ext0 Rl N18.ext) X19 (fun k h1 _ h2 => by omega)
  refine .p rfl rfl (.nilCheck rfl) ?_
  refine .p rfl rfl (.fieldAddr rfl rfl rfl rfl) ?_
  refine .s rfl (.store rfl rfl rfl rfl rfl Bp (by simp)) ?_
  intro w20 P20
  have z20 := P20.size
  have Bp : Blk w20 p 69 [_, v2, v3] := P20.blk
  have hO1 := OwnO.ext O19 P20.ext (fun k h1 _ h2 => by have h2 : k = p := h2; subst h2; omega) (fun k h1 _ h2 => by have h2 : k = p := h2; subst h2; omega)
  have hO2 := OwnO.ext hO2 P20.ext (fun k h1 _ h2 => by have h2 : k = p := h2; subst h2; omega) (fun _ h => h.elim)
  have hO3 := OwnO.ext hO3 P20.ext (fun k h1 _ h2 => by have h2 : k = p := h2; subst h2; omega) (fun _ h => h.elim)
  have Rl := (Sl tEntry).ext Rl P20.ext (fun k h1 _ h2 => by have h2 : k = p := h2; subst h2; omega)
  obtain ⟨b1, o1, q1, ue, e, hb1, hcs, hre⟩ := Sl.at Rl (List.getElem?_eq_getElem hne)
  cases e
  obtain ⟨rfl, _⟩ := tEntry.val hre
  obtain ⟨b2, o2, q2, ue2, e2, hb2, hct, hrt⟩ := Sl.at Rl (i := l.length - 1) (List.getElem?_eq_getElem (by omega))
  cases e2
  obtain ⟨rfl, _⟩ := tEntry.val hrt
  have eix : ((l.length : Int) - 1).toNat = l.length - 1 := by omega
  have hSp : ¬ (fun k => c1 k = 3 ∨ c1 k = 4) p := by show ¬ (c1 p = 3 ∨ c1 p = 4); omega
  have hSb : ¬ (fun k => c1 k = 3 ∨ c1 k = 4) b1 := by have h1 : c1 b1 = 5 := hb1; show ¬ (c1 b1 = 3 ∨ c1 b1 = 4); omega
  have Y20 : Ext (fun k => c k ≤ 4) w w20 := (((X9.trans N18.ext).mono (fun _ _ h => h.elim)).thenS X19 (fun k h _ => (Decidable.em (k < w.heap.size)).elim (fun hk => .inl (by have := hca k hk; have h : c1 k = 2 := h; omega)) (fun hk => .inr (by omega)))).thenS P20.ext (fun k h _ => by have h : k = p := h; subst h; exact .inl (by omega))
  refine .nil (.code (.seq (.keep [(6, _), (0, _), (1, _)] ⟨rfl, rfl, rfl, trivial⟩ ?_)))
  refine .tree (fun k => c1 k = 3 ∨ c1 k = 4) [10, 11, 23, 24, 27, 30] (.op 0 (.op 1 (.op 2 (.op 3 (.op 4 (.op 5 (.op 6 (.op 7 (.op 8 (.op 9 (.op 12 (.op 13 (.op 14 (.op 15 (.op 16 (.op 17 (.op 18 (.op 19 (.op 20 (.op 21 (.op 22 (parT [(24, 10), (24, 11)] 4 [[10, 11], [23, 24]] (.op 25 (.op 26 (.alt 27 (.op 27 (.op 28 (.op 29 (.alt 30 (.op 30 (.nil)) (.stop))))) (.stop)))))))))))))))))))))))))) (by kernel_rfl) (by kernel_rfl) (by kernel_rfl) ?_
  refine .p rfl rfl rfl rfl (fun wx hx => .mv rfl) ?_
  refine .p rfl rfl rfl rfl (fun wx hx => .mv rfl) ?_
  refine .p rfl rfl rfl rfl (fun wx hx => .mv rfl) ?_
  refine .p rfl rfl rfl rfl (fun wx hx => .nilCheck rfl) ?_
  refine .p rfl rfl rfl rfl (fun wx hx => .fieldAddr rfl rfl rfl rfl) ?_
  refine .p rfl rfl rfl rfl (fun wx hx => .load rfl rfl rfl ((Bp.ext hx hSp).cell 1)) ?_
  refine .p rfl rfl rfl rfl (fun wx hx => .mv rfl) ?_
  refine .p rfl rfl rfl rfl (fun wx hx => .indexAddr (s := 4) rfl rfl rfl rfl (by omega)) ?_
  refine .p rfl rfl rfl rfl (fun wx hx => .fieldAddr rfl rfl rfl rfl) ?_
  refine .p rfl rfl rfl rfl (fun wx hx => .load rfl rfl rfl ((hcs.ext hx hSb) 0 _ rfl)) ?_
  refine .p rfl rfl rfl rfl (fun wx hx => .mv rfl) ?_
  refine .p rfl rfl rfl rfl (fun wx hx => .nilCheck rfl) ?_
  refine .p rfl rfl rfl rfl (fun wx hx => .fieldAddr rfl rfl rfl rfl) ?_
  refine .p rfl rfl rfl rfl (fun wx hx => .load rfl rfl rfl ((Bp.ext hx hSp).cell 2)) ?_
  refine .p rfl rfl rfl rfl (fun wx hx => .mv rfl) ?_
  refine .p rfl rfl rfl rfl (fun wx hx => .mv rfl) ?_
  refine .p rfl rfl rfl rfl (fun wx hx => .len rfl rfl) ?_
  refine .p rfl rfl rfl rfl (fun wx hx => .sub rfl rfl (by omega)) ?_
  refine .p rfl rfl rfl rfl (fun wx hx => .indexAddr (s := 4) rfl rfl rfl rfl (by omega)) ?_
  refine .p rfl rfl rfl rfl (fun wx hx => .fieldAddr rfl rfl rfl rfl) ?_
  refine .p rfl rfl rfl rfl (fun wx hx => .load rfl rfl rfl (by rw [eix]; exact (hct.ext hx hSb) 0 _ rfl)) ?_
  refine .grow2 (growT_good (t := tStr) (Q := fun _ => False) (θ := 3) (κ := 9) (xs := ps.map fstK) (y := l[0].key) (eb := 16) (by decide) (by decide) (fun k _ h => .inl h) rfl rfl rfl rfl rfl rfl rfl rfl (by decide) rfl rfl rfl (fun _ => by kernel_rfl) rfl rfl rfl rfl rfl (by rw [List.length_map]; omega) (by rw [List.length_map]; simp only [Lim]; omega)) (growT_good (t := tStr) (Q := fun _ => False) (θ := 4) (κ := 9) (xs := ps.map lstK) (y := l[l.length - 1].key) (eb := 16) (by decide) (by decide) (fun k _ h => .inr h) rfl rfl rfl rfl rfl rfl rfl rfl (by decide) rfl rfl rfl (fun _ => by kernel_rfl) rfl rfl rfl rfl rfl (by rw [List.length_map]; omega) (by rw [List.length_map]; simp only [Lim]; omega)) hO2 (show tStr.rep _ _ (str l[0].key) l[0].key from ⟨rfl, by simp only [Lim]; omega⟩) (fun _ h => h.elim) hO3 (show tStr.rep _ _ (str l[l.length - 1].key) l[l.length - 1].key from ⟨rfl, by simp only [Lim]; omega⟩) (fun _ h => h.elim) (by decide) (by decide) ?_
  rintro r33 r46 cF w46 hX46 hFa O33 O46
  obtain ⟨a33, c33, rfl, hc33⟩ := OwnO.val O33
  obtain ⟨a46, c46, rfl, hc46⟩ := OwnO.val O46
  have z46 := hX46.size
  refine .p rfl rfl rfl rfl (fun wx hx => .nilCheck rfl) ?_
  refine .p rfl rfl rfl rfl (fun wx hx => .fieldAddr rfl rfl rfl rfl) ?_
  refine .alt ?_ ?_
  · refine .sL rfl rfl rfl (.store rfl rfl rfl rfl rfl (Bp.ext hX46 hSp) (by simp)) (by kernel_rfl) ?_
    intro w27s P27
    have Bq : Blk w27s p 69 [_, _, v3] := P27.blk
    refine .p rfl rfl rfl rfl (fun wx hx => .nilCheck rfl) ?_
    refine .p rfl rfl rfl rfl (fun wx hx => .fieldAddr rfl rfl rfl rfl) ?_
    refine .alt ?_ ?_
    · refine .sL rfl rfl rfl (.store rfl rfl rfl rfl rfl Bq (by simp)) (by kernel_rfl) ?_
      intro w30s P30
      refine .nil (.code (.seq (.keep [(6, _)] ⟨rfl, trivial⟩ (.region ?_))))
      refine .p rfl rfl (.mv rfl) ?_
      refine .p rfl rfl (.as rfl) ?_
      refine .nil (.code ?_)
      refine .ret _ rfl ?_
      have q27 : ∀ k, c1 k ≠ 0 → ¬ k = p := fun k h1 h2 => by subst h2; exact h1 hp1
      have q1 := OwnO.ext (OwnO.ext (OwnO.mono (OwnO.ext (OwnO.mono hO1 (Q' := fun k => c1 k = 1 ∧ k < w20.heap.size) (B' := fun k => c1 k = 2 ∧ k < w20.heap.size) (fun k h1 h2 => ⟨h1, h2⟩) (fun k h1 h2 => ⟨h1, h2⟩)) hX46 (fun k h1 _ h2 => by have h2 : c1 k = 3 ∨ c1 k = 4 := h2; omega) (fun k h1 _ h2 => by have h2 : c1 k = 3 ∨ c1 k = 4 := h2; omega)) (Q' := fun k => cF k = 1 ∧ c1 k = 1) (B' := fun k => cF k = 2 ∧ c1 k = 2) (fun k h _ => ⟨(hFa k h.2).trans h.1, h.1⟩) (fun k h _ => ⟨(hFa k h.2).trans h.1, h.1⟩)) P27.ext (fun k h1 _ h2 => q27 k (by omega) h2) (fun k h1 _ h2 => q27 k (by omega) h2)) P30.ext (fun k h1 _ h2 => q27 k (by omega) h2) (fun k h1 _ h2 => q27 k (by omega) h2)
      have hFp : cF p = 0 := (hFa p (by omega)).trans hp1
      have q2 := OwnO.ext (OwnO.ext O33 P27.ext (fun k h1 _ h2 => by have h2 : k = p := h2; subst h2; omega) (fun _ h => h.elim)) P30.ext (fun k h1 _ h2 => by have h2 : k = p := h2; subst h2; omega) (fun _ h => h.elim)
      have q3 := OwnO.ext (OwnO.ext O46 P27.ext (fun k h1 _ h2 => by have h2 : k = p := h2; subst h2; omega) (fun _ h => h.elim)) P30.ext (fun k h1 _ h2 => by have h2 : k = p := h2; subst h2; omega) (fun _ h => h.elim)
      refine ⟨rfl, ⟨cF, ⟨_, _, _, P30.blk, ?_, ?_, ?_, hFp, fun k hk => ?_, ?_⟩, fun k hk => (hFa k (by omega)).trans (hca k hk)⟩, ?_⟩
      · rw [List.map_append]
        exact OwnO.mono q1 (fun k h _ => h.1) (fun k h _ => h.1)
      · rw [List.map_append, List.map_singleton, fst_eq hne]
        exact q2
      · rw [List.map_append, List.map_singleton, lst_eq hne]
        exact q3
      · exact ((hFa k (by omega)).trans (hca k (by omega))).trans (hlo k hk)
      · have := P27.size; have := P30.size; omega
      · refine ((Y20.thenS hX46 (fun k h _ => ?_)).thenS P27.ext (fun k h _ => ?_)).thenS P30.ext (fun k h _ => ?_)
        · have h : c1 k = 3 ∨ c1 k = 4 := h
          by_cases hk : k < w.heap.size
          · have := hca k hk; exact .inl (by omega)
          · exact .inr (by omega)
        · have h : k = p := h
          subst h; exact .inl (by omega)
        · have h : k = p := h
          subst h; exact .inl (by omega)
    exact .stop
  exact .stop
theorem index_fn {w : World} {p lo : Nat} {c : Nat → Nat} {ps : List (List Entry)} (hG : PG w p c lo ps) (hk : ∀ q ∈ ps, (fstK q).length ≤ 256 ∧ (lstK q).length ≤ 256) (hps : ps.length ≤ 5000) : Fn Try.prog 35 [.pointer (some ⟨p, 0, none⟩)] w (fun r w2 => Gr w2 r (indexB ps) w.heap.size ∧ Ext (fun _ => False) w w2) := by
  obtain ⟨v1, v2, v3, Bp, O1, O2, O3, hp0, hlo, hlo2⟩ := hG
  have hlp := Bp.lt
  have R1 : (Sl tBytes).rep (fun k => k < w.heap.size) w v1 (ps.map pageB) := OwnO.rep O1 (fun k _ h => h) (fun k _ h => h)
  have R2 : (Sl tStr).rep (fun k => k < w.heap.size) w v2 (ps.map fstK) := OwnO.rep O2 (fun k _ h => h) (fun k _ h => h)
  have R3 : (Sl tStr).rep (fun k => k < w.heap.size) w v3 (ps.map lstK) := OwnO.rep O3 (fun k _ h => h) (fun k _ h => h)
  obtain ⟨a1, c1, rfl, hc1⟩ := Sl.val R1
  obtain ⟨a2, c2, rfl, hc2⟩ := Sl.val R2
  obtain ⟨a3, c3, rfl, hc3⟩ := Sl.val R3
  simp only [List.length_map] at R1 R2 R3 Bp hc1 hc2 hc3
  clear O1 O2 O3
  refine Fn.enter (fun w => Try.call35 _ w) Try.func35 rfl ?_
  refine .seq (.region ?_)
  refine .p rfl rfl (.as rfl) ?_
  refine .nil (.code (.seq (.keep [(0, _)] ⟨rfl, trivial⟩ (.region ?_))))
  refine .p rfl rfl (.mv rfl) ?_
  refine .call (first := []) (captured := []) rfl rfl rfl rfl (count_fn Bp) ?_
  rintro _ w7 ⟨rfl, X7⟩
  have z7 : w.heap.size ≤ w7.heap.size := X7.size
  refine .p rfl rfl (.convU rfl rfl rfl (by omega)) ?_
  refine .call (first := []) (captured := []) rfl rfl rfl rfl (Small_fn (n := ps.length) (by omega)) ?_
  rintro r9 w9 ⟨G9, X9⟩
  have B9 := Bp.ext (X7.trans X9) (fun x => x)
  have G9 := Gr.low G9 z7
  refine .p rfl rfl (.as rfl) ?_
  refine .nil (.code (.seq (.seq (.keep [(3, _), (0, _)] ⟨rfl, rfl, trivial⟩ (.region ?_)))))
  refine .p rfl rfl (.mv rfl) ?_
  refine .p rfl rfl (.nilCheck rfl) ?_
  refine .p rfl rfl (.fieldAddr rfl rfl rfl rfl) ?_
  refine .p rfl rfl (.load rfl rfl rfl (B9.cell 0)) ?_
  refine .p rfl rfl (.len rfl rfl) ?_
  refine .p rfl rfl (.mv rfl) ?_
  refine .nil (.code (.block (.keep [(15, _), (14, _), (13, _), (3, _), (0, _)] ⟨rfl, rfl, rfl, rfl, rfl, trivial⟩ ?_)))
  refine .loop (S := Nat × Value × World) (fun s => [(0, .pointer (some ⟨p, 0, none⟩)), (3, s.2.1), (13, .slice a1 ps.length c1), (14, i64 ps.length), (15, i64 s.1)]) (fun s => s.2.2) (fun s => s.1 ≤ ps.length ∧ Gr s.2.2 s.2.1 (idxTo ps s.1) w.heap.size ∧ Ext (fun _ => False) w s.2.2) (fun s => ps.length - s.1) (0, r9, w9) ⟨rfl, rfl, rfl, rfl, rfl, trivial⟩ rfl ⟨Nat.zero_le _, by unfold idxTo; simpa using G9, X7.trans X9⟩ ?_
  rintro ⟨i, v, wi⟩ J ⟨hi', hG, hX⟩ again
  simp only at hi' hG hX
  have zwi : w.heap.size ≤ wi.heap.size := hX.size
  have Bi := Bp.ext hX (fun x => x)
  have hSp : ¬ (fun k => w.heap.size ≤ k) p := by show ¬ (w.heap.size ≤ p); omega
  change G _ [(0, .pointer (some ⟨p, 0, none⟩)), (3, v), (13, .slice a1 ps.length c1), (14, i64 ps.length), (15, i64 i)] _ _ wi
  refine .seq (.region ?_)
  refine .p rfl rfl (.lt rfl rfl) ?_
  refine .nil (.code (.seq ?_))
  refine .condD rfl (fun c16 => ?_) (fun c16 => ?_)
  · have hi : i < ps.length := by omega
    obtain ⟨b1, o1, q1, ue1, e1, hb1, hcs1, hre1⟩ := Sl.at R1 (i := i) (x := pageB ps[i]) (by rw [List.getElem?_map, List.getElem?_eq_getElem hi]; rfl)
    obtain ⟨b2, o2, q2, ue2, e2, hb2, hcs2, hre2⟩ := Sl.at R2 (i := i) (x := fstK ps[i]) (by rw [List.getElem?_map, List.getElem?_eq_getElem hi]; rfl)
    obtain ⟨b3, o3, q3, ue3, e3, hb3, hcs3, hre3⟩ := Sl.at R3 (i := i) (x := lstK ps[i]) (by rw [List.getElem?_map, List.getElem?_eq_getElem hi]; rfl)
    injection e1 with e1 _ _
    injection e2 with e2 _ _
    injection e3 with e3 _ _
    subst e1
    subst e2
    subst e3
    obtain ⟨rfl, hlr2⟩ := hre2
    obtain ⟨rfl, hlr3⟩ := hre3
    obtain ⟨ae, ce, rfl, hce⟩ := Sl.val hre1
    have hlr1 := Sl.lim hre1
    simp only [Lim] at hlr1
    obtain ⟨hk1, hk2⟩ := hk ps[i] (List.getElem_mem hi)
    have hb2 : b2 < w.heap.size := hb2
    have hb3 : b3 < w.heap.size := hb3
    have hL := idx_len hk i (by omega)
    have ht1 := textF_length (fstK ps[i])
    have ht2 := textF_length (lstK ps[i])
    have ht3 := smallF_length (pageB ps[i]).length
    refine .skip (.code (.seq (.block (.seq (.keep [(0, _), (3, _), (13, _), (14, _), (15, _)] ⟨rfl, rfl, rfl, rfl, rfl, trivial⟩ (.region ?_))))))
    refine .p rfl rfl (.mv rfl) ?_
    refine .p rfl rfl (.indexAddr1 rfl rfl rfl rfl (by omega)) ?_
    refine .p rfl rfl (.load rfl rfl rfl (cell_at rfl (hcs1.ext hX (fun x => x)) rfl)) ?_
    refine .p rfl rfl (.as rfl) ?_
    refine .p rfl rfl (.as rfl) ?_
    refine .nil (.code (.seq (.keep [(5, _), (4, _), (0, _), (3, _), (13, _), (14, _), (15, _)] ⟨rfl, rfl, rfl, rfl, rfl, rfl, rfl, trivial⟩ (.mix (fun k => w.heap.size ≤ k) [8, 9, 17, 18] (by kernel_rfl) (by kernel_rfl) (by kernel_rfl) ?_))))
    refine .p rfl rfl rfl (fun wx hx => .mv rfl) ?_
    refine .p rfl rfl rfl (fun wx hx => .mv rfl) ?_
    refine .p rfl rfl rfl (fun wx hx => .nilCheck rfl) ?_
    refine .p rfl rfl rfl (fun wx hx => .fieldAddr rfl rfl rfl rfl) ?_
    refine .p rfl rfl rfl (fun wx hx => .load rfl rfl rfl ((Bi.ext hx hSp).cell 1)) ?_
    refine .p rfl rfl rfl (fun wx hx => .mv rfl) ?_
    refine .p rfl rfl rfl (fun wx hx => .indexAddr1 rfl rfl rfl rfl (by omega)) ?_
    refine .p rfl rfl rfl (fun wx hx => .load rfl rfl rfl (cell_at rfl ((hcs2.ext hX (fun x => x)).ext hx (fun h => by have h : w.heap.size ≤ b2 := h; omega)) rfl)) ?_
    refine .call (first := []) (captured := []) rfl rfl rfl rfl rfl (Text_fn (l := fstK ps[i]) (by simp only [Lim]; omega) (by simp only [Lim]; omega)) (by rintro _ _ ⟨_, hx⟩; exact hx.mono (fun _ _ h => h.elim)) ?_
    rintro r28 w28 ⟨G28, X28⟩
    have z28 : wi.heap.size ≤ w28.heap.size := X28.size
    have Z28 : Ext (fun k => w.heap.size ≤ k) wi w28 := X28.mono (fun _ _ h => h.elim)
    refine .v rfl rfl rfl (.appendLo (t := tByte) (eb := 1) rfl (OwnO.ext0 hG X28) (fun k hk => by have hk : w28.heap.size ≤ k := hk; show w.heap.size ≤ k; omega) rfl (Gr.holds (Gr.rep G28)) rfl rfl rfl rfl rfl rfl rfl (by simp; omega) (by simp [Lim]; omega) (fun _ h _ => h.elim)) (by rintro _ _ ⟨_, hx⟩; exact Z28.trans hx) ?_
    rintro r29 w29 ⟨G29, Y29⟩
    have z29 : w28.heap.size ≤ w29.heap.size := Y29.size
    have Z29 := Z28.trans Y29
    refine .p rfl rfl rfl (fun wx hx => .mv rfl) ?_
    refine .p rfl rfl rfl (fun wx hx => .nilCheck rfl) ?_
    refine .p rfl rfl rfl (fun wx hx => .fieldAddr rfl rfl rfl rfl) ?_
    refine .p rfl rfl rfl (fun wx hx => .load rfl rfl rfl ((Bi.ext hx hSp).cell 2)) ?_
    refine .p rfl rfl rfl (fun wx hx => .mv rfl) ?_
    refine .p rfl rfl rfl (fun wx hx => .indexAddr1 rfl rfl rfl rfl (by omega)) ?_
    refine .p rfl rfl rfl (fun wx hx => .load rfl rfl rfl (cell_at rfl ((hcs3.ext hX (fun x => x)).ext hx (fun h => by have h : w.heap.size ≤ b3 := h; omega)) rfl)) ?_
    refine .call (first := []) (captured := []) rfl rfl rfl rfl rfl (Text_fn (l := lstK ps[i]) (by simp only [Lim]; omega) (by simp only [Lim]; omega)) (by rintro _ _ ⟨_, hx⟩; exact Z29.trans (hx.mono (fun _ _ h => h.elim))) ?_
    rintro r37 w37 ⟨G37, X37⟩
    have z37 : w29.heap.size ≤ w37.heap.size := X37.size
    have Z37 := Z29.trans (X37.mono (S' := fun k => w.heap.size ≤ k) (fun _ _ h => h.elim))
    refine .v rfl rfl rfl (.appendLo (t := tByte) (eb := 1) rfl (OwnO.ext0 G29 X37) (fun k hk => by have hk : w37.heap.size ≤ k := hk; show w.heap.size ≤ k; omega) rfl (Gr.holds (Gr.rep G37)) rfl rfl rfl rfl rfl rfl rfl (by simp; omega) (by simp [Lim]; omega) (fun _ h _ => h.elim)) (by rintro _ _ ⟨_, hx⟩; exact Z37.trans hx) ?_
    rintro r38 w38 ⟨G38, Y38⟩
    have z38 : w37.heap.size ≤ w38.heap.size := Y38.size
    have Z38 := Z37.trans Y38
    refine .p rfl rfl rfl (fun wx hx => .as rfl) ?_
    refine .nil (.code (.keep [(3, _), (5, _), (0, _), (13, _), (14, _), (15, _)] ⟨rfl, rfl, rfl, rfl, rfl, rfl, trivial⟩ (.region ?_)))
    refine .p rfl rfl (.mv rfl) ?_
    refine .p rfl rfl (.mv rfl) ?_
    refine .p rfl rfl (.len rfl rfl) ?_
    refine .p rfl rfl (.convU rfl rfl rfl (by omega)) ?_
    refine .call (first := []) (captured := []) rfl rfl rfl rfl (Small_fn (n := (pageB ps[i]).length) (by omega)) ?_
    rintro r43 w43 ⟨G43, X43⟩
    have z43 : w38.heap.size ≤ w43.heap.size := X43.size
    refine .v rfl rfl (.appendLo (t := tByte) (eb := 1) rfl (OwnO.ext0 G38 X43) (fun k hk => by have hk : w43.heap.size ≤ k := hk; show w.heap.size ≤ k; omega) rfl (Gr.holds (Gr.rep G43)) rfl rfl rfl rfl rfl rfl rfl (by simp; omega) (by simp [Lim]; omega) (fun _ h _ => h.elim)) ?_
    rintro r44 w44 ⟨G44, Y44⟩
    have z44 : w43.heap.size ≤ w44.heap.size := Y44.size
    refine .p rfl rfl (.as rfl) ?_
    refine .nil (.blk (.code (.keep [(3, _), (0, _), (13, _), (14, _), (15, _)] ⟨rfl, rfl, rfl, rfl, rfl, trivial⟩ (.region ?_))))
    refine .p rfl rfl (.add rfl rfl (by omega)) ?_
    refine .p rfl rfl (.mv rfl) ?_
    refine .nil ?_
    exact (again (i + 1, r44, w44) ⟨by show i + 1 ≤ _; omega, by show Gr w44 r44 (idxTo ps (i + 1)) _; rw [idx_succ hi]; exact G44, ((hX.then Z38 (fun k h _ => h)).trans X43).then Y44 (fun k h _ => h)⟩ (by show _ - (i + 1) < _ - i; omega)).of ⟨rfl, rfl, rfl, rfl, rfl, trivial⟩
  · obtain rfl : i = ps.length := by omega
    rw [idx_all] at hG
    refine .exit rfl (.code (.seq (.keep [(3, _)] ⟨rfl, trivial⟩ (.region ?_))))
    refine .p rfl rfl (.mv rfl) ?_
    refine .p rfl rfl (.as rfl) ?_
    refine .nil (.code ?_)
    refine .ret _ rfl ?_
    exact ⟨hG, hX⟩
end Go.Proofs.Ythkgadhamecnlaa
