import Derived.Test.YtpfehnopghffjaaGreatDoorT10
import Derived.Test.YtpfehnopghffjaaGreatDoorT05
set_option linter.unusedVariables false
set_option linter.unusedSimpArgs false
set_option maxRecDepth 20000
namespace Go.Proofs.YtpfehnopghffjaaGreatDoor
open Go
namespace room
def rowB (n : Nat) (f : Nat → Bool) : List Value := (List.range n).map (fun k => .bool (f k))
theorem rowB_len (n : Nat) (f : Nat → Bool) : (rowB n f).length = n := by simp [rowB]
theorem rowB_get {n : Nat} (f : Nat → Bool) {k : Nat} (h : k < n) : (rowB n f)[k]? = some (.bool (f k)) := by simp [rowB, h]
theorem rowB_congr {n : Nat} {f g : Nat → Bool} (h : ∀ k, k < n → f k = g k) : rowB n f = rowB n g := by
 unfold rowB
 exact List.map_congr_left (fun k hk => by rw [h k (List.mem_range.1 hk)])
theorem rowB_set {n m : Nat} {f : Nat → Bool} {x : Bool} (hm : m < n) : (rowB n f).set m (.bool x) = rowB n (fun k => if k = m then x else f k) := by
 apply List.ext_getElem
 ·simp [rowB]
 ·intro k h1 h2
  simp only [rowB, List.length_set, List.length_map, List.length_range] at h1
  rw [List.getElem_set]
  simp only [rowB, List.getElem_map, List.getElem_range]
  by_cases hk : m = k
  ·subst hk; rw [if_pos rfl, if_pos rfl]
  ·rw [if_neg hk, if_neg (fun h => hk h.symm)]
theorem rowB_zero (n : Nat) : List.replicate n (.bool false) = rowB n (fun _ => false) := by
 apply List.ext_getElem
 ·simp [rowB]
 ·intro k h1 h2; simp [rowB]
def markB (l : List Piece) (p : Piece) (e : Int) (k : Nat) : Bool := covB l k || decide (p.fr ≤ (k : Int) ∧ (k : Int) < e)
theorem not_may_of {N : Int} {l : List Piece} {p : Piece} (hp : p ∈ l) (h : ¬ okP N p) : ¬ mayP N l := fun hm => h (hm.1 p hp)
theorem not_may_at {N : Int} {l : List Piece} {i k : Nat} (hi : i < l.length) (h1 : covB (l.take i) k = true) (h2 : l[i].fr ≤ (k : Int) ∧ (k : Int) < l[i].fr + l[i].ct) : ¬ mayP N l := fun hm => by
 obtain ⟨q, hq, h3, h4⟩ := cov_iff.1 h1
 obtain ⟨j, hj, rfl⟩ := List.mem_take_iff_getElem.1 hq
 have := List.pairwise_iff_getElem.1 hm.2 j i (by omega) hi (by omega)
 unfold apart at this
 omega
theorem may_more {N : Int} {l : List Piece} {i : Nat} (hi : i < l.length) (hm : mayP N (l.take i)) (hok : okP N l[i]) (hn : ∀ k : Nat, l[i].fr ≤ (k : Int) → (k : Int) < l[i].fr + l[i].ct → covB (l.take i) k = false) : mayP N (l.take (i + 1)) := by
 rw [List.take_succ_eq_append_getElem hi]
 refine ⟨fun p hp => ?_, List.pairwise_append.2 ⟨hm.2, List.pairwise_singleton _ _, fun q hq p hp => ?_⟩⟩
 ·rcases List.mem_append.1 hp with hp | hp
  ·exact hm.1 p hp
  ·rw [List.mem_singleton] at hp; subst hp; exact hok
 ·rw [List.mem_singleton] at hp; subst hp
  have h1 := hm.1 q hq
  unfold okP at h1 hok
  refine Decidable.byContradiction fun hna => ?_
  unfold apart at hna
  obtain ⟨k, hk⟩ : ∃ k : Nat, (k : Int) = max q.fr l[i].fr := ⟨(max q.fr l[i].fr).toNat, by omega⟩
  have := hn k (by omega) (by omega)
  rw [cov_iff.2 ⟨q, hq, by omega, by omega⟩] at this
  cases this
theorem cov_more {l : List Piece} {i : Nat} (hi : i < l.length) (k : Nat) : covB (l.take (i + 1)) k = markB (l.take i) l[i] (l[i].fr + l[i].ct) k := by
 rw [List.take_succ_eq_append_getElem hi, cov_append, cov_one]
 rfl
theorem mark_none {l : List Piece} {p : Piece} (k : Nat) : markB l p p.fr k = covB l k := by
 unfold markB
 rw [decide_eq_false (by omega), Bool.or_false]
theorem mark_step {l : List Piece} {p : Piece} {m n : Nat} (h : p.fr ≤ (m : Int)) (hm : m < n) : (rowB n (markB l p (m : Int))).set m (.bool true) = rowB n (markB l p ((m + 1 : Nat) : Int)) := by
 rw [rowB_set hm]
 refine rowB_congr (fun k _ => ?_)
 unfold markB
 by_cases hk : k = m
 ·subst hk
  rw [if_pos rfl, decide_eq_true (show p.fr ≤ (k : Int) ∧ (k : Int) < ((k + 1 : Nat) : Int) by omega), Bool.or_true]
 ·rw [if_neg hk]
  congr 1
  exact decide_eq_decide.2 (by omega)
theorem total_runs (f : Nat → Bool) (a : Nat) (n : Nat) : totalF (runsTo f a (n + 1)) = totalF (runsTo f a n) + if f (a + n) = true then 1 else 0 := by
 rw [runsTo]
 split
 ·rw [total_push]
 ·omega
theorem total_mono {f : Nat → Bool} {a j : Nat} : ∀ {N : Nat}, j ≤ N → totalF (runsTo f a j) ≤ totalF (runsTo f a N)
 | 0, h => by rw [show j = 0 by omega]; exact Int.le_refl _
 | N + 1, h => by
  by_cases he : j = N + 1
  ·rw [he]; exact Int.le_refl _
  ·have := total_mono (f := f) (a := a) (j := j) (N := N) (by omega)
   rw [total_runs]
   split <;> omega
theorem take_upto {f : Nat → Bool} {a j : Nat} {m : Int} (h0 : 0 ≤ m) (hj : totalF (runsTo f a j) = m) : ∀ {N : Nat}, j ≤ N → takeF (runsTo f a N) m = runsTo f a j
 | 0, h => by
  obtain rfl : j = 0 := by omega
  exact take_all (fun p hp => by cases hp) (by omega)
 | N + 1, h => by
  by_cases he : j = N + 1
  ·subst he; exact take_all (fun p hp => ((runs_ok f a (N + 1)).pos p hp).1) (by omega)
  ·have h1 := total_mono (f := f) (a := a) (j := j) (N := N) (by omega)
   rw [runsTo]
   split
   ·rw [take_push (fun p hp => ((runs_ok f a N).pos p hp).1) h0 (by omega), take_upto h0 hj (by omega)]
   ·exact take_upto h0 hj (by omega)
theorem total_take_lt {f : Nat → Bool} {a n : Nat} {m : Int} (h0 : 0 ≤ m) : totalF (takeF (runsTo f a n) m) < m ↔ totalF (runsTo f a n) < m := by
 by_cases h : totalF (runsTo f a n) < m
 ·rw [take_all (fun p hp => ((runs_ok f a n).pos p hp).1) (by omega)]
 ·obtain ⟨n', h1, h2, h3⟩ := take_runs (f := f) (a := a) (n := n) h0 (by omega)
  rw [h2, h3]
  omega
theorem take_ct : ∀ {l : List Piece} {m : Int}, 0 ≤ m → (∀ p ∈ l, 1 ≤ p.ct ∧ p.ct ≤ 4096) → ∀ p ∈ takeF l m, 0 ≤ p.ct ∧ p.ct ≤ 4096
 | [], _, _, _ => fun p hp => by cases hp
 | q :: l, m, h0, h => fun p hp => by
  have hq := h q (by simp)
  rw [takeF] at hp
  split at hp
  ·cases hp
  ·rcases List.mem_cons.1 hp with rfl | hp
   ·show 0 ≤ min q.ct m ∧ min q.ct m ≤ 4096; omega
   ·exact take_ct (l := l) (m := m - min q.ct m) (by omega) (fun x hx => h x (List.mem_cons_of_mem _ hx)) p hp
theorem total_in {f : Nat → Bool} {a n N : Nat} (h : a + n ≤ N) : totalF (runsTo f a n) ≤ N := (may_length (runs_may (f := f) (a := a) (n := n) (N := N) h _ rfl)).2
end room
end Go.Proofs.YtpfehnopghffjaaGreatDoor
namespace Go.Proofs.YtpfehnopghffjaaGreatDoor
open Go room
namespace room
theorem mark_self {l : List Piece} {p : Piece} (k : Nat) : markB l p (k : Int) k = covB l k := by
 unfold markB
 rw [decide_eq_false (by omega), Bool.or_false]
end room
theorem taken_fn {w : World} {v : Value} {l : List Piece} {n : Nat} (h : (Sl tPiece).rep All w v l) (hn : n ≤ 5000) : Fn Tryz.prog 127 [i64 (n : Int), v] w (fun r w2 => ∃ v', r = .tuple #[v', .bool (decide (mayP (n : Int) l))] ∧ (mayP (n : Int) l → v' = .slice (some ⟨w.heap.size, 0, none⟩) n n ∧ Blk w2 w.heap.size 4 (rowB n (covB l))) ∧ Ext (fun _ => False) w w2) := by
 obtain ⟨a, cap, rfl, hcap⟩ := Sl.val h
 have hlim := Sl.lim h
 simp only [Lim] at hlim
 refine Fn.enter (fun w => Tryz.call127 _ w) Tryz.func127 rfl ?_
 refine .seq (.region ?_)
 refine .p rfl rfl (.as rfl) (.p rfl rfl (.as rfl) (.nil (.code (.seq (.keep [(0, _), (1, _)] ⟨rfl, rfl, trivial⟩ (.region ?_))))))
 refine .p rfl rfl (.mv rfl) (.v rfl rfl (.make (eb := 1) rfl rfl rfl rfl rfl rfl rfl rfl (by omega)) ?_)
 rintro _ w11 ⟨rfl, N11⟩
 have z11 := N11.size
 have B11 : Blk w11 w.heap.size 4 (rowB n (fun _ => false)) := by rw [← rowB_zero]; exact N11.blk
 have X11 := N11.ext
 refine .p rfl rfl (.as rfl) (.nil (.code (.seq (.seq (.keep [(6, _), (0, _), (1, _)] ⟨rfl, rfl, rfl, trivial⟩ (.region ?_))))))
 refine .p rfl rfl (.as rfl) (.nil (.code (.block ?_)))
 refine .loop (S := Nat × World) (fun s => [(0, i64 (n : Int)), (1, .slice a l.length cap), (6, .slice (some ⟨w.heap.size, 0, none⟩) n n), (7, i64 s.1)]) (fun s => s.2) (fun s => s.1 ≤ l.length ∧ Blk s.2 w.heap.size 4 (rowB n (covB (l.take s.1))) ∧ mayP (n : Int) (l.take s.1) ∧ Ext (fun _ => False) w s.2) (fun s => l.length - s.1) (0, w11) ⟨rfl, rfl, rfl, rfl, trivial⟩ rfl ⟨Nat.zero_le _, B11, ⟨fun p hp => (by cases hp), .nil⟩, X11⟩ ?_
 rintro ⟨i, wi⟩ J ⟨hi', Bt, hmay, hX⟩ again
 simp only at hi' Bt hmay hX
 change G _ [(0, i64 (n : Int)), (1, .slice a l.length cap), (6, .slice (some ⟨w.heap.size, 0, none⟩) n n), (7, i64 i)] _ _ wi
 refine .seq (.seq (.region ?_))
 refine .p rfl rfl (.mv rfl) (.p rfl rfl (.mv rfl) (.p rfl rfl (.len rfl rfl) (.p rfl rfl (.lt rfl rfl) (.nil (.code (.keep [(15, _), (0, _), (1, _), (6, _), (7, _)] ⟨rfl, rfl, rfl, rfl, rfl, trivial⟩ ?_))))))
 refine .condD rfl (fun c15 => ?_) (fun c15 => ?_)
 ·have hi : i < l.length := by omega
  obtain ⟨b1, o1, q1, ue, e, _, hcs, hre⟩ := Sl.at ((Sl tPiece).ext0 h hX) (List.getElem?_eq_getElem hi)
  cases e
  obtain ⟨rfl, hr1, hr2⟩ := tPiece.val hre
  refine .skip (.code (.seq (.block (.seq (.keep [(0, _), (1, _), (6, _), (7, _)] ⟨rfl, rfl, rfl, rfl, trivial⟩ (.region ?_))))))
  refine .p rfl rfl (.mv rfl) (.p rfl rfl (.mv rfl) (.p rfl rfl (.indexAddr (s := 2) rfl rfl rfl rfl (by omega)) (.p rfl rfl (.loadA (n := 2) rfl rfl rfl rfl rfl hcs) (.v rfl rfl (.alloc rfl rfl) ?_))))
  rintro _ w7a ⟨rfl, N7⟩
  refine .s rfl (.storeAll (n := 2) rfl rfl rfl rfl rfl N7.blk rfl) ?_
  intro w7 P7
  have X7 := N7.ext.then P7.ext (by rintro k rfl _; exact Nat.le_refl _)
  have B7 : Blk w7 wi.heap.size 40 [i64 l[i].fr, i64 l[i].ct] := P7.blk
  have Bt7 := Bt.ext X7 (fun x => x)
  have hne : ¬ wi.heap.size = w.heap.size := by have := Bt.lt; omega
  refine .nil (.code (.seq (.seq (.keep [(8, _), (0, _), (1, _), (6, _), (7, _)] ⟨rfl, rfl, rfl, rfl, rfl, trivial⟩ (.region ?_)))))
  refine .p rfl rfl (.fieldAddr rfl rfl rfl rfl) (.p rfl rfl (.load rfl rfl rfl (B7.cell 1)) (.p rfl rfl (.lt rfl rfl) (.p rfl rfl (.mv rfl) ?_)))
  refine .caseD 25 rfl (fun c25 => ?_) (fun c25 => ?_)
  ·refine .skip rfl rfl (.skip rfl rfl (.skip rfl rfl (.p rfl rfl (.pickT rfl rfl) (.p rfl rfl (.mv rfl) (.skip rfl rfl (.skip rfl rfl (.skip rfl rfl (.skip rfl rfl (.p rfl rfl (.pickT rfl rfl) (.p rfl rfl (.mv rfl) (.skip rfl rfl (.skip rfl rfl (.skip rfl rfl ?_)))))))))))))
   refine .skip rfl rfl (.skip rfl rfl (.skip rfl rfl (.skip rfl rfl (.p rfl rfl (.pickT rfl rfl) (.nil (.code (.keep [(44, _), (8, _), (0, _), (1, _), (6, _), (7, _)] ⟨rfl, rfl, rfl, rfl, rfl, rfl, trivial⟩ (.condT rfl (.seq (.keep [] trivial (.region ?_)))))))))))
   refine .p rfl rfl (.as rfl) (.p rfl rfl (.as rfl) (.nil (.code ?_)))
   refine .ret _ rfl ?_
   have hno : ¬ mayP (n : Int) l := not_may_of (List.getElem_mem hi) (by unfold okP; omega)
   rw [decide_eq_false hno]
   exact ⟨_, rfl, fun hm => absurd hm hno, hX.trans X7⟩
  ·refine .p rfl rfl (.fieldAddr rfl rfl rfl rfl) (.p rfl rfl (.load rfl rfl rfl (B7.cell 0)) (.p rfl rfl (.lt rfl rfl) (.p rfl rfl (.pickF rfl rfl) (.p rfl rfl (.mv rfl) ?_))))
   refine .caseD 30 rfl (fun c30 => ?_) (fun c30 => ?_)
   ·refine .skip rfl rfl (.skip rfl rfl (.skip rfl rfl (.skip rfl rfl (.p rfl rfl (.pickT rfl rfl) (.p rfl rfl (.mv rfl) (.skip rfl rfl (.skip rfl rfl (.skip rfl rfl (.skip rfl rfl (.skip rfl rfl (.skip rfl rfl (.skip rfl rfl (.p rfl rfl (.pickT rfl rfl) ?_)))))))))))))
    refine .nil (.code (.keep [(44, _), (8, _), (0, _), (1, _), (6, _), (7, _)] ⟨rfl, rfl, rfl, rfl, rfl, rfl, trivial⟩ (.condT rfl (.seq (.keep [] trivial (.region ?_))))))
    refine .p rfl rfl (.as rfl) (.p rfl rfl (.as rfl) (.nil (.code ?_)))
    refine .ret _ rfl ?_
    have hno : ¬ mayP (n : Int) l := not_may_of (List.getElem_mem hi) (by unfold okP; omega)
    rw [decide_eq_false hno]
    exact ⟨_, rfl, fun hm => absurd hm hno, hX.trans X7⟩
   ·refine .p rfl rfl (.fieldAddr rfl rfl rfl rfl) (.p rfl rfl (.load rfl rfl rfl (B7.cell 0)) (.p rfl rfl (.mv rfl) (.p rfl rfl (.ge rfl rfl) (.p rfl rfl (.pickF rfl rfl) (.p rfl rfl (.mv rfl) ?_)))))
    refine .caseD 36 rfl (fun c36 => ?_) (fun c36 => ?_)
    ·refine .skip rfl rfl (.skip rfl rfl (.skip rfl rfl (.skip rfl rfl (.skip rfl rfl (.skip rfl rfl (.skip rfl rfl (.p rfl rfl (.pickT rfl rfl) (.nil (.code (.keep [(44, _), (8, _), (0, _), (1, _), (6, _), (7, _)] ⟨rfl, rfl, rfl, rfl, rfl, rfl, trivial⟩ (.condT rfl (.seq (.keep [] trivial (.region ?_))))))))))))))
     refine .p rfl rfl (.as rfl) (.p rfl rfl (.as rfl) (.nil (.code ?_)))
     refine .ret _ rfl ?_
     have hno : ¬ mayP (n : Int) l := not_may_of (List.getElem_mem hi) (by unfold okP; omega)
     rw [decide_eq_false hno]
     exact ⟨_, rfl, fun hm => absurd hm hno, hX.trans X7⟩
    ·refine .p rfl rfl (.fieldAddr rfl rfl rfl rfl) (.p rfl rfl (.load rfl rfl rfl (B7.cell 1)) (.p rfl rfl (.mv rfl) (.p rfl rfl (.fieldAddr rfl rfl rfl rfl) (.p rfl rfl (.load rfl rfl rfl (B7.cell 0)) (.p rfl rfl (.sub rfl rfl (by omega)) (.p rfl rfl (.gt rfl rfl) (.p rfl rfl (.pickF rfl rfl) (.nil (.code (.keep [(44, _), (8, _), (0, _), (1, _), (6, _), (7, _)] ⟨rfl, rfl, rfl, rfl, rfl, rfl, trivial⟩ ?_))))))))))
     refine .condD rfl (fun c44 => ?_) (fun c44 => ?_)
     ·refine .seq (.keep [] trivial (.region ?_))
      refine .p rfl rfl (.as rfl) (.p rfl rfl (.as rfl) (.nil (.code ?_)))
      refine .ret _ rfl ?_
      have hno : ¬ mayP (n : Int) l := not_may_of (List.getElem_mem hi) (by unfold okP; omega)
      rw [decide_eq_false hno]
      exact ⟨_, rfl, fun hm => absurd hm hno, hX.trans X7⟩
     ·have hok : okP (n : Int) l[i] := by unfold okP; omega
      refine .skip (.code (.seq (.keep [(8, _), (0, _), (1, _), (6, _), (7, _)] ⟨rfl, rfl, rfl, rfl, rfl, trivial⟩ (.region ?_))))
      refine .p rfl rfl (.fieldAddr rfl rfl rfl rfl) (.p rfl rfl (.cast (.load rfl rfl rfl (B7.cell 0)) (show _ = i64 ((l[i].fr.toNat : Nat) : Int) by rw [Int.toNat_of_nonneg (by omega)])) ?_)
      refine .p rfl rfl (.as rfl) (.nil (.code (.block (.keep [(9, _), (8, _), (0, _), (1, _), (6, _), (7, _)] ⟨rfl, rfl, rfl, rfl, rfl, rfl, trivial⟩ ?_))))
      unfold okP at hok
      refine .loop (S := Nat × World) (fun s => [(0, i64 (n : Int)), (1, .slice (some ⟨b1, o1, none⟩) l.length cap), (6, .slice (some ⟨w.heap.size, 0, none⟩) n n), (7, i64 (i : Nat)), (8, .pointer (some ⟨wi.heap.size, 0, none⟩)), (9, i64 s.1)]) (fun s => s.2) (fun s => l[i].fr ≤ (s.1 : Int) ∧ (s.1 : Int) ≤ l[i].fr + l[i].ct ∧ Blk s.2 w.heap.size 4 (rowB n (markB (l.take i) l[i] (s.1 : Int))) ∧ (∀ x : Nat, l[i].fr ≤ (x : Int) → (x : Int) < (s.1 : Int) → covB (l.take i) x = false) ∧ Ext (· = w.heap.size) w7 s.2) (fun s => (l[i].fr + l[i].ct).toNat - s.1) (l[i].fr.toNat, w7) ⟨rfl, rfl, rfl, rfl, rfl, rfl, trivial⟩ rfl ⟨by show l[i].fr ≤ ((l[i].fr.toNat : Nat) : Int); omega, by show ((l[i].fr.toNat : Nat) : Int) ≤ _; omega, by rw [show rowB n (markB (l.take i) l[i] ((l[i].fr.toNat : Nat) : Int)) = rowB n (covB (l.take i)) from rowB_congr (fun x _ => by rw [Int.toNat_of_nonneg (by omega), mark_none])]; exact Bt7, fun x h1 h2 => by have h2 : (x : Int) < ((l[i].fr.toNat : Nat) : Int) := h2; omega, .refl _⟩ ?_
      rintro ⟨k, wj⟩ J2 ⟨hk1, hk2, Bk, hun, hY⟩ again2
      simp only at hk1 hk2 Bk hun hY
      change G _ [(0, i64 (n : Int)), (1, .slice (some ⟨b1, o1, none⟩) l.length cap), (6, .slice (some ⟨w.heap.size, 0, none⟩) n n), (7, i64 (i : Nat)), (8, .pointer (some ⟨wi.heap.size, 0, none⟩)), (9, i64 k)] _ _ wj
      refine .seq (.seq (.region ?_))
      refine .p rfl rfl (.mv rfl) (.p rfl rfl (.fieldAddr rfl rfl rfl rfl) (.p rfl rfl (.load rfl rfl rfl ((B7.ext hY hne).cell 0)) (.p rfl rfl (.fieldAddr rfl rfl rfl rfl) (.p rfl rfl (.load rfl rfl rfl ((B7.ext hY hne).cell 1)) (.p rfl rfl (.add rfl rfl (by omega)) (.p rfl rfl (.lt rfl rfl) (.nil (.code (.keep [(53, _), (0, _), (1, _), (6, _), (7, _), (8, _), (9, _)] ⟨rfl, rfl, rfl, rfl, rfl, rfl, rfl, trivial⟩ ?_)))))))))
      refine .condD rfl (fun c53 => ?_) (fun c53 => ?_)
      ·have hkn : k < n := by omega
       refine .skip (.code (.seq (.block (.seq (.seq (.keep [(0, _), (1, _), (6, _), (7, _), (8, _), (9, _)] ⟨rfl, rfl, rfl, rfl, rfl, rfl, trivial⟩ (.region ?_)))))))
       refine .p rfl rfl (.mv rfl) (.p rfl rfl (.mv rfl) (.p rfl rfl (.indexAddr1 rfl rfl rfl rfl (by omega)) (.p rfl rfl (.cast (.load rfl rfl rfl (by rw [Int.toNat_natCast, Nat.zero_add]; exact (Bk.cell _).trans (rowB_get _ hkn))) (show _ = Value.bool (covB (l.take i) k) by rw [mark_self])) ?_)))
       refine .nil (.code (.keep [(59, _), (0, _), (1, _), (6, _), (7, _), (8, _), (9, _)] ⟨rfl, rfl, rfl, rfl, rfl, rfl, rfl, trivial⟩ ?_))
       refine .cond rfl (fun c59 => ?_) (fun c59 => ?_)
       ·have hno : ¬ mayP (n : Int) l := not_may_at hi c59 ⟨hk1, by omega⟩
        refine .seq (.keep [] trivial (.region ?_))
        refine .p rfl rfl (.as rfl) (.p rfl rfl (.as rfl) (.nil (.code ?_)))
        refine .ret _ rfl ?_
        rw [decide_eq_false hno]
        exact ⟨_, rfl, fun hm => absurd hm hno, (hX.trans X7).then hY (fun k he _ => by have he : k = w.heap.size := he; omega)⟩
       ·refine .skip (.code (.keep [(0, _), (1, _), (6, _), (7, _), (8, _), (9, _)] ⟨rfl, rfl, rfl, rfl, rfl, rfl, trivial⟩ (.region ?_)))
        refine .p rfl rfl (.mv rfl) (.p rfl rfl (.mv rfl) (.p rfl rfl (.indexAddr1 rfl rfl rfl rfl (by omega)) (.s rfl (.store rfl rfl rfl rfl rfl Bk (by rw [Int.toNat_natCast, Nat.zero_add, rowB_len]; exact hkn)) ?_)))
        intro w8 P8
        have B8 := P8.blk
        rw [Int.toNat_natCast, Nat.zero_add, mark_step hk1 hkn] at B8
        refine .nil (.blk (.code (.keep [(0, _), (1, _), (6, _), (7, _), (8, _), (9, _)] ⟨rfl, rfl, rfl, rfl, rfl, rfl, trivial⟩ (.region ?_))))
        refine .p rfl rfl (.mv rfl) (.p rfl rfl (.add rfl rfl (by omega)) (.p rfl rfl (.as rfl) (.nil ?_)))
        refine (again2 (k + 1, w8) ⟨by show l[i].fr ≤ ((k + 1 : Nat) : Int); omega, by show ((k + 1 : Nat) : Int) ≤ _; omega, B8, fun x h1 h2 => ?_, hY.trans P8.ext⟩ (by show _ - (k + 1) < _ - k; omega)).of ⟨rfl, rfl, rfl, rfl, rfl, rfl, trivial⟩
        have h2 : (x : Int) < ((k + 1 : Nat) : Int) := h2
        by_cases hxk : x = k
        ·subst hxk; exact c59
        ·exact hun x h1 (by omega)
      ·refine .exit rfl (.blk (.code (.keep [(0, _), (1, _), (6, _), (7, _)] ⟨rfl, rfl, rfl, rfl, trivial⟩ (.region ?_))))
       refine .p rfl rfl (.mv rfl) (.p rfl rfl (.add rfl rfl (by omega)) (.p rfl rfl (.as rfl) (.nil ?_)))
       refine (again (i + 1, wj) ⟨by show i + 1 ≤ _; omega, ?_, may_more hi hmay hok (fun x h1 h2 => hun x h1 (by omega)), (hX.trans X7).then hY (fun k he _ => by have he : k = w.heap.size := he; omega)⟩ (by show _ - (i + 1) < _ - i; omega)).of ⟨rfl, rfl, rfl, rfl, trivial⟩
       rw [show rowB n (covB (l.take (i + 1))) = rowB n (markB (l.take i) l[i] (k : Int)) from rowB_congr (fun x _ => by rw [cov_more hi, show l[i].fr + l[i].ct = (k : Int) by omega])]
       exact Bk
 ·obtain rfl : i = l.length := by omega
  rw [List.take_length] at Bt hmay
  refine .exit rfl (.code (.seq (.keep [(6, _)] ⟨rfl, trivial⟩ (.region ?_))))
  refine .p rfl rfl (.mv rfl) (.p rfl rfl (.as rfl) (.p rfl rfl (.as rfl) (.nil (.code ?_))))
  refine .ret _ rfl ?_
  rw [decide_eq_true hmay]
  exact ⟨_, rfl, fun _ => ⟨rfl, Bt⟩, hX⟩
theorem RefCheck_fn {w : World} {v : Value} {l : List Piece} {count : Int} (h : (Sl tPiece).rep All w v l) : Fn Tryz.prog 114 [i64 count, v] w (fun r w2 => r = i64 (checkR count l) ∧ Ext (fun _ => False) w w2) := by
 obtain ⟨a, cap, rfl, hcap⟩ := Sl.val h
 refine Fn.enter (fun w => Tryz.call114 _ w) Tryz.func114 rfl ?_
 refine .seq (.region ?_)
 refine .p rfl rfl (.as rfl) (.nil (.code (.seq (.seq (.keep [(0, _), (1, _)] ⟨rfl, rfl, trivial⟩ (.region ?_))))))
 refine .p rfl rfl (.mv rfl) (.p rfl rfl (.lt rfl rfl) (.p rfl rfl (.mv rfl) ?_))
 refine .caseD 9 rfl (fun c9 => ?_) (fun c9 => ?_)
 ·refine .skip rfl rfl (.skip rfl rfl (.p rfl rfl (.pickT rfl rfl) (.nil (.code (.keep [(12, _), (0, _), (1, _)] ⟨rfl, rfl, rfl, trivial⟩ (.condT rfl (.seq (.keep [] trivial (.region ?_)))))))))
  refine .p rfl rfl (.as rfl) (.nil (.code ?_))
  refine .ret _ rfl ?_
  have e : checkR count l = 2 := by unfold checkR; rw [if_pos (by omega)]
  rw [e]
  exact ⟨rfl, .refl _⟩
 ·refine .p rfl rfl (.mv rfl) (.p rfl rfl (.gt rfl rfl) (.p rfl rfl (.pickF rfl rfl) (.nil (.code (.keep [(12, _), (0, _), (1, _)] ⟨rfl, rfl, rfl, trivial⟩ ?_)))))
  refine .condD rfl (fun c12 => ?_) (fun c12 => ?_)
  ·refine .seq (.keep [] trivial (.region ?_))
   refine .p rfl rfl (.as rfl) (.nil (.code ?_))
   refine .ret _ rfl ?_
   have e : checkR count l = 2 := by unfold checkR; rw [if_pos (by omega)]
   rw [e]
   exact ⟨rfl, .refl _⟩
  ·refine .skip (.code (.seq (.seq (.keep [(0, _), (1, _)] ⟨rfl, rfl, trivial⟩ (.region ?_)))))
   refine .p rfl rfl (.mv rfl) (.p rfl rfl (.len rfl rfl) (.p rfl rfl (.gt rfl rfl) (.nil (.code (.keep [(15, _), (0, _), (1, _)] ⟨rfl, rfl, rfl, trivial⟩ ?_)))))
   refine .condD rfl (fun c15 => ?_) (fun c15 => ?_)
   ·refine .seq (.keep [] trivial (.region ?_))
    refine .p rfl rfl (.as rfl) (.nil (.code ?_))
    refine .ret _ rfl ?_
    have e : checkR count l = 4 := by unfold checkR; rw [if_neg (by omega), if_pos (by omega)]
    rw [e]
    exact ⟨rfl, .refl _⟩
   ·refine .skip (.code (.seq (.keep [(0, _), (1, _)] ⟨rfl, rfl, trivial⟩ (.region ?_))))
    refine .p rfl rfl (.mv rfl) (.p rfl rfl (.mv rfl) ?_)
    obtain ⟨n0, rfl⟩ := Int.eq_ofNat_of_zero_le (show 0 ≤ count by omega)
    refine .call (first := []) (captured := []) rfl rfl rfl rfl (taken_fn (n := n0) h (by omega)) ?_
    rintro _ w19 ⟨v19, rfl, hB19, X19⟩
    refine .p rfl rfl (.mv rfl) (.p rfl rfl (.extract rfl rfl) (.p rfl rfl (.extract rfl rfl) (.p rfl rfl (.as rfl) (.p rfl rfl (.as rfl) (.nil (.code (.seq (.seq (.keep [(6, _)] ⟨rfl, trivial⟩ (.region ?_))))))))))
    refine .p rfl rfl (.mv rfl) (.p rfl rfl (.notD rfl) (.nil (.code (.keep [(23, _)] ⟨rfl, trivial⟩ ?_))))
    refine .condD rfl (fun c23 => ?_) (fun c23 => ?_)
    ·refine .seq (.keep [] trivial (.region ?_))
     refine .p rfl rfl (.as rfl) (.nil (.code ?_))
     refine .ret _ rfl ?_
     rw [check_8 (by omega) (by omega) (by simpa using c23)]
     exact ⟨rfl, X19⟩
    ·refine .skip (.code (.seq (.keep [] trivial (.region ?_))))
     refine .p rfl rfl (.as rfl) (.nil (.code ?_))
     refine .ret _ rfl ?_
     rw [check_0 (by omega) (by omega) (by simpa using c23)]
     exact ⟨rfl, X19⟩
end Go.Proofs.YtpfehnopghffjaaGreatDoor
namespace Go.Proofs.YtpfehnopghffjaaGreatDoor
open Go room
theorem runs_fn {w : World} {b n cap a : Nat} {f g : Nat → Bool} {want : Bool} {m : Int} (hB : Blk w b 4 (rowB n f)) (hg : ∀ k, g k = (f k == want)) (ha : a ≤ n) (hn : n ≤ 4096) (hm : 0 ≤ m ∧ m ≤ 4096) : Fn Tryz.prog 128 [.slice (some ⟨b, 0, none⟩) n cap, i64 (a : Int), .bool want, i64 m] w (fun r w2 => OwnO tPiece (fun _ => False) 40 w2 r (takeF (runsTo g a (n - a)) m) (fun k => w.heap.size ≤ k) ∧ Ext (fun _ => False) w w2) := by
 have hbl := hB.lt
 refine Fn.enter (fun w => Tryz.call128 _ w) Tryz.func128 rfl ?_
 refine .seq (.region ?_)
 refine .p rfl rfl (.as rfl) (.nil (.code (.seq (.keep [(0, _), (1, _), (2, _), (3, _)] ⟨rfl, rfl, rfl, rfl, trivial⟩ (.region ?_)))))
 refine .p rfl rfl (.as rfl) (.nil (.code (.seq (.seq (.region ?_)))))
 refine .p rfl rfl (.mv rfl) (.p rfl rfl (.as rfl) (.nil (.code (.block (.keep [(10, _), (9, _), (0, _), (2, _), (3, _)] ⟨rfl, rfl, rfl, rfl, rfl, trivial⟩ ?_)))))
 refine .loop (S := Nat × World × Value × List Piece × Int) (fun s => [(0, .slice (some ⟨b, 0, none⟩) n cap), (2, .bool want), (3, i64 s.2.2.2.2), (9, s.2.2.1), (10, i64 ((a + s.1 : Nat) : Int))]) (fun s => s.2.1) (fun s => s.1 ≤ n - a ∧ OwnO tPiece (fun _ => False) 40 s.2.1 s.2.2.1 s.2.2.2.1 (fun k => w.heap.size ≤ k) ∧ Ext (fun k => w.heap.size ≤ k) w s.2.1 ∧ s.2.2.2.1 = runsTo g a s.1 ∧ 0 ≤ s.2.2.2.2 ∧ s.2.2.2.2 = m - totalF s.2.2.2.1) (fun s => n - a - s.1) (0, w, .slice none 0 0, [], m) ⟨rfl, rfl, rfl, rfl, rfl, trivial⟩ rfl ⟨Nat.zero_le _, OwnO.nil, .refl _, rfl, hm.1, by show m = m - 0; omega⟩ ?_
 rintro ⟨j, wi, vo, out, left⟩ J ⟨hj', hO, hX, hout, hl0, hle⟩ again
 simp only at hj' hO hX hout hl0 hle
 have hpos := (runs_ok g a j).pos
 have hlen := runs_length g a j
 have htot := total_in (f := g) (a := a) (n := j) (N := 4096) (by omega)
 rw [← hout] at hpos hlen htot
 have hnn := total_pos (l := out) (fun p hp => (hpos p hp).1)
 change G _ [(0, .slice (some ⟨b, 0, none⟩) n cap), (2, .bool want), (3, i64 left), (9, vo), (10, i64 ((a + j : Nat) : Int))] _ _ wi
 refine .seq (.seq (.region ?_))
 refine .p rfl rfl (.mv rfl) (.p rfl rfl (.mv rfl) (.p rfl rfl (.len rfl rfl) (.p rfl rfl (.lt rfl rfl) (.p rfl rfl (.mv rfl) ?_))))
 refine .caseD 17 rfl (fun c17 => ?_) (fun c17 => ?_)
 ·have hjn : a + j < n := by omega
  refine .p rfl rfl (.mv rfl) (.p rfl rfl (.gt rfl rfl) (.p rfl rfl (.pickT rfl rfl) (.nil (.code (.keep [(20, _), (0, _), (2, _), (3, _), (9, _), (10, _)] ⟨rfl, rfl, rfl, rfl, rfl, rfl, trivial⟩ ?_)))))
  refine .condD rfl (fun c20 => ?_) (fun c20 => ?_)
  ·refine .skip (.code (.seq (.block (.seq (.seq (.keep [(0, _), (2, _), (3, _), (9, _), (10, _)] ⟨rfl, rfl, rfl, rfl, rfl, trivial⟩ (.region ?_)))))))
   refine .p rfl rfl (.mv rfl) (.p rfl rfl (.mv rfl) (.p rfl rfl (.indexAddr1 rfl rfl rfl rfl (by omega)) (.p rfl rfl (.load rfl rfl rfl (by rw [Int.toNat_natCast, Nat.zero_add]; exact ((hB.ext hX (fun h => by have h : w.heap.size ≤ b := h; omega)).cell _).trans (rowB_get f hjn))) ?_)))
   refine .p rfl rfl (.mv rfl) (.p rfl rfl (.neB rfl rfl rfl) (.nil (.code (.keep [(28, _), (0, _), (2, _), (3, _), (9, _), (10, _)] ⟨rfl, rfl, rfl, rfl, rfl, rfl, trivial⟩ ?_))))
   refine .cond rfl (fun c28 => ?_) (fun c28 => ?_)
   ·have hgj : ¬ g (a + j) = true := by rw [hg]; simpa using c28
    refine .exit rfl (.code (.keep [(0, _), (2, _), (3, _), (9, _), (10, _)] ⟨rfl, rfl, rfl, rfl, rfl, trivial⟩ (.region ?_)))
    refine .p rfl rfl (.mv rfl) (.p rfl rfl (.add rfl rfl (by omega)) (.p rfl rfl (.as rfl) (.nil ?_)))
    refine (again (j + 1, wi, vo, out, left) ⟨by show j + 1 ≤ _; omega, hO, hX, ?_, by show 0 ≤ left; omega, ?_⟩ (by show _ - (j + 1) < _ - j; omega)).of ⟨rfl, rfl, rfl, rfl, rfl, trivial⟩
    ·show out = runsTo g a (j + 1)
     rw [hout, runsTo, if_neg hgj]
    ·show left = m - totalF (out)
     exact hle
   ·have hgj : g (a + j) = true := by rw [hg]; simpa using c28
    obtain ⟨av, cv, rfl, hcv⟩ := OwnO.val hO
    have zi := hX.size
    refine .skip (.code (.seq (.keep [(0, _), (2, _), (3, _), (9, _), (10, _)] ⟨rfl, rfl, rfl, rfl, rfl, trivial⟩ (.region ?_))))
    refine .p rfl rfl (.mv rfl) (.p rfl rfl (.sub rfl rfl (by omega)) (.p rfl rfl (.as rfl) (.nil (.code (.seq (.keep [(3, _), (0, _), (2, _), (9, _), (10, _)] ⟨rfl, rfl, rfl, rfl, rfl, trivial⟩ (.region ?_)))))))
    refine .p rfl rfl (.mv rfl) (.p rfl rfl (.len rfl rfl) (.p rfl rfl (.as rfl) (.nil (.code (.seq (.keep [(11, _), (3, _), (0, _), (2, _), (9, _), (10, _)] ⟨rfl, rfl, rfl, rfl, rfl, rfl, trivial⟩ (.draws (by kernel_rfl) (by kernel_rfl) ?_)))))))
    refine .p rfl rfl (.mv rfl) (.p rfl rfl (.gt rfl rfl) (.p rfl rfl (.mv rfl) ?_))
    refine .caseD 35 rfl (fun c35 => ?_) (fun c35 => ?_)
    ·rcases List.eq_nil_or_concat out with hnil | ⟨o, p, hcc⟩
     ·rw [hnil] at c35; exact absurd c35 (by decide)
     rw [List.concat_eq_append] at hcc
     have hol : out.length = o.length + 1 := by rw [hcc]; simp
     have hO2 := hO
     rw [hcc] at hO2
     obtain ⟨b2, cap2, cs, hv, hbB, hblt, Bo, h5, h6, h7, h8, hup⟩ := OwnO_last hO2
     have hps := hpos p (by rw [hcc]; simp)
     injection hv with e1 e2 e3
     subst e1
     have eix : ((out.length : Int) - 1).toNat = o.length := by omega
     refine .p rfl rfl (.mv rfl) (.p rfl rfl (.mv rfl) (.p rfl rfl (.sub rfl rfl (by omega)) (.p rfl rfl (.indexAddr (s := 2) rfl rfl rfl rfl (by omega)) (.p rfl rfl (.fieldAddr rfl rfl rfl rfl) (.p rfl rfl (.load rfl rfl rfl (by rw [eix]; show World.cell? _ { block := b2, off := 0 + o.length * 2 + 0 } = _; rw [show 0 + o.length * 2 + 0 = 2 * o.length by omega]; exact (Bo.cell _).trans h5)) ?_)))))
     refine .p rfl rfl (.mv rfl) (.p rfl rfl (.mv rfl) (.p rfl rfl (.sub rfl rfl (by omega)) (.p rfl rfl (.indexAddr (s := 2) rfl rfl rfl rfl (by omega)) (.p rfl rfl (.fieldAddr rfl rfl rfl rfl) (.p rfl rfl (.load rfl rfl rfl (by rw [eix]; show World.cell? _ { block := b2, off := 0 + o.length * 2 + 1 } = _; rw [show 0 + o.length * 2 + 1 = 2 * o.length + 1 by omega]; exact (Bo.cell _).trans h6)) ?_)))))
     refine .p rfl rfl (.add rfl rfl (by omega)) (.p rfl rfl (.mv rfl) (.p rfl rfl (.eq rfl rfl) (.p rfl rfl (.pickT rfl rfl) (.nil (.code (.keep [(51, _), (11, _), (3, _), (0, _), (2, _), (9, _), (10, _)] ⟨rfl, rfl, rfl, rfl, rfl, rfl, rfl, trivial⟩ ?_))))))
     refine .condD rfl (fun c51 => ?_) (fun c51 => ?_)
     ·refine .keep [(11, _), (3, _), (0, _), (2, _), (9, _), (10, _)] ⟨rfl, rfl, rfl, rfl, rfl, rfl, trivial⟩ (.region ?_)
      refine .p rfl rfl (.mv rfl) (.p rfl rfl (.mv rfl) (.p rfl rfl (.sub rfl rfl (by omega)) (.p rfl rfl (.indexAddr (s := 2) rfl rfl rfl rfl (by omega)) (.p rfl rfl (.fieldAddr rfl rfl rfl rfl) (.p rfl rfl (.load rfl rfl rfl (by rw [eix]; show World.cell? _ { block := b2, off := 0 + o.length * 2 + 1 } = _; rw [show 0 + o.length * 2 + 1 = 2 * o.length + 1 by omega]; exact (Bo.cell _).trans h6)) ?_)))))
      refine .p rfl rfl (.add rfl rfl (by omega)) (.p rfl rfl (.indexAddr (s := 2) rfl rfl rfl rfl (by omega)) (.p rfl rfl (.fieldAddr rfl rfl rfl rfl) (.s rfl (.store rfl rfl rfl rfl rfl Bo (by show 0 + (((out.length : Nat) : Int) - 1).toNat * 2 + 1 < cs.length; rw [eix]; omega)) ?_)))
      intro w8 P8
      have B8 : Blk w8 b2 40 (cs.set (0 + (((out.length : Nat) : Int) - 1).toNat * 2 + 1) (i64 (p.ct + 1))) := P8.blk
      have hX := hX.trans (P8.ext.mono (fun k _ h => by have h : k = b2 := h; show w.heap.size ≤ k; rw [h]; exact hbB))
      rw [eix, show 0 + o.length * 2 + 1 = 2 * o.length + 1 by omega] at B8
      refine .nil (.blk (.code (.keep [(3, _), (0, _), (2, _), (9, _), (10, _)] ⟨rfl, rfl, rfl, rfl, rfl, trivial⟩ (.region ?_))))
      refine .p rfl rfl (.mv rfl) (.p rfl rfl (.add rfl rfl (by omega)) (.p rfl rfl (.as rfl) (.nil ?_)))
      refine (again (j + 1, w8, .slice (some ⟨b2, 0, none⟩) out.length cv, o ++ [⟨p.fr, p.ct + 1⟩], left - 1) ⟨by show j + 1 ≤ _; omega, by show OwnO tPiece _ _ w8 (.slice (some ⟨b2, 0, none⟩) out.length cv) (o ++ [_]) _; rw [hcc]; exact hup w8 (p.ct + 1) (by omega) B8, hX, ?_, by show 0 ≤ left - 1; omega, ?_⟩ (by show _ - (j + 1) < _ - j; omega)).of ⟨rfl, rfl, rfl, rfl, rfl, trivial⟩
      ·show o ++ [⟨p.fr, p.ct + 1⟩] = runsTo g a (j + 1)
       rw [runsTo, if_pos hgj, ← hout, hcc, push_snoc, if_pos (by omega)]
      ·show left - 1 = m - totalF (o ++ [⟨p.fr, p.ct + 1⟩])
       rw [hle, hcc, total_append, total_append]; simp only [totalF]; omega
     ·refine .keep [(3, _), (0, _), (2, _), (9, _), (10, _)] ⟨rfl, rfl, rfl, rfl, rfl, trivial⟩ (.region ?_)
      refine .p rfl rfl (.mv rfl) (.p rfl rfl (.mv rfl) (.p rfl rfl (.build (cs := [i64 ((a + j : Nat) : Int), i64 1]) rfl (fun _ => by kernel_rfl)) (.v rfl rfl (.lits rfl rfl (fun _ => by kernel_rfl)) ?_)))
      rintro _ w64 ⟨rfl, N64⟩
      refine .v rfl rfl (.appendLo (t := tPiece) (xs := out) (ys := [⟨((a + j : Nat) : Int), 1⟩]) (Q := fun _ => False) (B := fun k => w.heap.size ≤ k) (eb := 16) rfl (OwnO.ext0 hO N64.ext) (fun k hk => by have := N64.size; show w.heap.size ≤ k; omega) rfl (.inr (New.holds (t := tPiece) (xs := [⟨((a + j : Nat) : Int), 1⟩]) N64 (.cons (tPiece.mk (P := fun _ => False) (p := ⟨((a + j : Nat) : Int), 1⟩) (by show -9223372036854775808 ≤ ((a + j : Nat) : Int) ∧ ((a + j : Nat) : Int) ≤ 9223372036854775807; omega) (by show (-9223372036854775808 : Int) ≤ 1 ∧ (1 : Int) ≤ 9223372036854775807; decide)) .nil) rfl)) rfl rfl rfl rfl rfl rfl rfl (by simp; omega) (by simp [Lim]; omega) (fun _ h _ => h.elim)) ?_
      rintro r65 w65 ⟨O65, X65⟩
      have hX := (hX.trans (N64.ext.mono (fun _ _ h => h.elim))).trans X65
      refine .p rfl rfl (.as rfl) (.nil (.blk (.code (.keep [(9, _), (3, _), (0, _), (2, _), (10, _)] ⟨rfl, rfl, rfl, rfl, rfl, trivial⟩ (.region ?_)))))
      refine .p rfl rfl (.mv rfl) (.p rfl rfl (.add rfl rfl (by omega)) (.p rfl rfl (.as rfl) (.nil ?_)))
      refine (again (j + 1, w65, _, out ++ [⟨((a + j : Nat) : Int), 1⟩], left - 1) ⟨by show j + 1 ≤ _; omega, O65, hX, ?_, by show 0 ≤ left - 1; omega, ?_⟩ (by show _ - (j + 1) < _ - j; omega)).of ⟨rfl, rfl, rfl, rfl, rfl, trivial⟩
      ·show out ++ [⟨((a + j : Nat) : Int), 1⟩] = runsTo g a (j + 1)
       rw [runsTo, if_pos hgj, ← hout, hcc, push_snoc, if_neg (by omega)]
      ·show left - 1 = m - totalF (out ++ [⟨((a + j : Nat) : Int), 1⟩])
       rw [hle, total_append]; simp only [totalF]; omega
    ·have hcc : out = [] := List.length_eq_zero_iff.1 (by omega)
     refine .skip rfl rfl (.skip rfl rfl (.skip rfl rfl (.skip rfl rfl (.skip rfl rfl (.skip rfl rfl (.skip rfl rfl (.skip rfl rfl (.skip rfl rfl (.skip rfl rfl (.skip rfl rfl (.skip rfl rfl (.skip rfl rfl (.skip rfl rfl ?_)))))))))))))
     refine .skip rfl rfl (.p rfl rfl (.pickF rfl rfl) (.nil (.code (.keep [(51, _), (11, _), (3, _), (0, _), (2, _), (9, _), (10, _)] ⟨rfl, rfl, rfl, rfl, rfl, rfl, rfl, trivial⟩ (.condF rfl (.keep [(3, _), (0, _), (2, _), (9, _), (10, _)] ⟨rfl, rfl, rfl, rfl, rfl, trivial⟩ (.region ?_)))))))
     refine .p rfl rfl (.mv rfl) (.p rfl rfl (.mv rfl) (.p rfl rfl (.build (cs := [i64 ((a + j : Nat) : Int), i64 1]) rfl (fun _ => by kernel_rfl)) (.v rfl rfl (.lits rfl rfl (fun _ => by kernel_rfl)) ?_)))
     rintro _ w64 ⟨rfl, N64⟩
     refine .v rfl rfl (.appendLo (t := tPiece) (xs := out) (ys := [⟨((a + j : Nat) : Int), 1⟩]) (Q := fun _ => False) (B := fun k => w.heap.size ≤ k) (eb := 16) rfl (OwnO.ext0 hO N64.ext) (fun k hk => by have := N64.size; show w.heap.size ≤ k; omega) rfl (.inr (New.holds (t := tPiece) (xs := [⟨((a + j : Nat) : Int), 1⟩]) N64 (.cons (tPiece.mk (P := fun _ => False) (p := ⟨((a + j : Nat) : Int), 1⟩) (by show -9223372036854775808 ≤ ((a + j : Nat) : Int) ∧ ((a + j : Nat) : Int) ≤ 9223372036854775807; omega) (by show (-9223372036854775808 : Int) ≤ 1 ∧ (1 : Int) ≤ 9223372036854775807; decide)) .nil) rfl)) rfl rfl rfl rfl rfl rfl rfl (by simp; omega) (by simp [Lim]; omega) (fun _ h _ => h.elim)) ?_
     rintro r65 w65 ⟨O65, X65⟩
     have hX := (hX.trans (N64.ext.mono (fun _ _ h => h.elim))).trans X65
     refine .p rfl rfl (.as rfl) (.nil (.blk (.code (.keep [(9, _), (3, _), (0, _), (2, _), (10, _)] ⟨rfl, rfl, rfl, rfl, rfl, trivial⟩ (.region ?_)))))
     refine .p rfl rfl (.mv rfl) (.p rfl rfl (.add rfl rfl (by omega)) (.p rfl rfl (.as rfl) (.nil ?_)))
     refine (again (j + 1, w65, _, out ++ [⟨((a + j : Nat) : Int), 1⟩], left - 1) ⟨by show j + 1 ≤ _; omega, O65, hX, ?_, by show 0 ≤ left - 1; omega, ?_⟩ (by show _ - (j + 1) < _ - j; omega)).of ⟨rfl, rfl, rfl, rfl, rfl, trivial⟩
     ·show out ++ [⟨((a + j : Nat) : Int), 1⟩] = runsTo g a (j + 1)
      rw [runsTo, if_pos hgj, ← hout, hcc]; rfl
     ·show left - 1 = m - totalF (out ++ [⟨((a + j : Nat) : Int), 1⟩])
      rw [hle, total_append]; simp only [totalF]; omega
  ·refine .exit rfl (.code (.seq (.keep [(9, _)] ⟨rfl, trivial⟩ (.region ?_))))
   refine .p rfl rfl (.mv rfl) (.p rfl rfl (.as rfl) (.nil (.code ?_)))
   refine .ret _ rfl ?_
   have e : takeF (runsTo g a (n - a)) m = out := by rw [hout]; exact take_upto hm.1 (by rw [← hout]; omega) hj'
   rw [e]
   exact ⟨hO, (Ext.refl _).then hX (fun k hk _ => hk)⟩
 ·refine .skip rfl rfl (.skip rfl rfl (.p rfl rfl (.pickF rfl rfl) (.nil (.code (.keep [(20, _), (0, _), (2, _), (3, _), (9, _), (10, _)] ⟨rfl, rfl, rfl, rfl, rfl, rfl, trivial⟩ (.condF rfl (.exit rfl (.code (.seq (.keep [(9, _)] ⟨rfl, trivial⟩ (.region ?_)))))))))))
  refine .p rfl rfl (.mv rfl) (.p rfl rfl (.as rfl) (.nil (.code ?_)))
  refine .ret _ rfl ?_
  have e : takeF (runsTo g a (n - a)) m = out := by rw [show n - a = j by omega, ← hout]; exact take_all (fun p hp => (hpos p hp).1) (by omega)
  rw [e]
  exact ⟨hO, (Ext.refl _).then hX (fun k hk _ => hk)⟩
end Go.Proofs.YtpfehnopghffjaaGreatDoor
namespace Go.Proofs.YtpfehnopghffjaaGreatDoor
open Go room
namespace room
end room
theorem RoomAsked_fn {w : World} {v : Value} {l : List Piece} {first count : Int} (h : (Sl tPiece).rep All w v l) : Fn Tryz.prog 126 [i64 first, i64 count, v] w (fun r w2 => r = i64 (freeE first count l) ∧ Ext (fun _ => False) w w2) := by
 refine Fn.enter (fun w => Tryz.call126 _ w) Tryz.func126 rfl ?_
 refine .seq (.region ?_)
 refine .p rfl rfl (.as rfl) (.nil (.code (.seq (.seq (.keep [(0, _), (1, _), (2, _)] ⟨rfl, rfl, rfl, trivial⟩ (.region ?_))))))
 refine .p rfl rfl (.mv rfl) (.p rfl rfl (.lt rfl rfl) (.p rfl rfl (.mv rfl) ?_))
 refine .caseD 9 rfl (fun c9 => ?_) (fun c9 => ?_)
 ·refine .skip rfl rfl (.skip rfl rfl (.p rfl rfl (.pickT rfl rfl) (.p rfl rfl (.mv rfl) (.skip rfl rfl (.skip rfl rfl (.p rfl rfl (.pickT rfl rfl) (.p rfl rfl (.mv rfl) (.skip rfl rfl (.skip rfl rfl (.skip rfl rfl (.p rfl rfl (.pickT rfl rfl) (.nil (.code (.keep [(21, _), (1, _), (2, _)] ⟨rfl, rfl, rfl, trivial⟩ (.condT rfl (.seq (.keep [] trivial (.region ?_))))))))))))))))))
  refine .p rfl rfl (.as rfl) (.nil (.code ?_))
  refine .ret _ rfl ?_
  rw [freeE_2 (by omega)]
  exact ⟨rfl, .refl _⟩
 ·refine .p rfl rfl (.mv rfl) (.p rfl rfl (.gt rfl rfl) (.p rfl rfl (.pickF rfl rfl) (.p rfl rfl (.mv rfl) ?_)))
  refine .caseD 13 rfl (fun c13 => ?_) (fun c13 => ?_)
  ·refine .skip rfl rfl (.skip rfl rfl (.p rfl rfl (.pickT rfl rfl) (.p rfl rfl (.mv rfl) (.skip rfl rfl (.skip rfl rfl (.skip rfl rfl (.p rfl rfl (.pickT rfl rfl) (.nil (.code (.keep [(21, _), (1, _), (2, _)] ⟨rfl, rfl, rfl, trivial⟩ (.condT rfl (.seq (.keep [] trivial (.region ?_))))))))))))))
   refine .p rfl rfl (.as rfl) (.nil (.code ?_))
   refine .ret _ rfl ?_
   rw [freeE_2 (by omega)]
   exact ⟨rfl, .refl _⟩
  ·refine .p rfl rfl (.mv rfl) (.p rfl rfl (.lt rfl rfl) (.p rfl rfl (.pickF rfl rfl) (.p rfl rfl (.mv rfl) ?_)))
   refine .caseD 17 rfl (fun c17 => ?_) (fun c17 => ?_)
   ·refine .skip rfl rfl (.skip rfl rfl (.skip rfl rfl (.p rfl rfl (.pickT rfl rfl) (.nil (.code (.keep [(21, _), (1, _), (2, _)] ⟨rfl, rfl, rfl, trivial⟩ (.condT rfl (.seq (.keep [] trivial (.region ?_))))))))))
    refine .p rfl rfl (.as rfl) (.nil (.code ?_))
    refine .ret _ rfl ?_
    rw [freeE_2 (by omega)]
    exact ⟨rfl, .refl _⟩
   ·refine .p rfl rfl (.mv rfl) (.p rfl rfl (.mv rfl) (.p rfl rfl (.gt rfl rfl) (.p rfl rfl (.pickF rfl rfl) (.nil (.code (.keep [(21, _), (1, _), (2, _)] ⟨rfl, rfl, rfl, trivial⟩ ?_))))))
    refine .condD rfl (fun c21 => ?_) (fun c21 => ?_)
    ·refine .seq (.keep [] trivial (.region ?_))
     refine .p rfl rfl (.as rfl) (.nil (.code ?_))
     refine .ret _ rfl ?_
     rw [freeE_2 (by omega)]
     exact ⟨rfl, .refl _⟩
    ·refine .skip (.code (.seq (.keep [(1, _), (2, _)] ⟨rfl, rfl, trivial⟩ (.region ?_))))
     refine .p rfl rfl (.mv rfl) (.p rfl rfl (.mv rfl) (.call (first := []) (captured := []) rfl rfl rfl rfl (RefCheck_fn h) ?_))
     rintro _ w24 ⟨rfl, X24⟩
     refine .p rfl rfl (.as rfl) (.nil (.code ?_))
     refine .ret _ rfl ?_
     rw [freeE_c (by omega)]
     exact ⟨rfl, X24⟩
theorem RefTake_fn {w : World} {v : Value} {l : List Piece} {first count many : Int} (h : (Sl tPiece).rep All w v l) : Fn Tryz.prog 99 [i64 first, i64 count, v, i64 many] w (fun r w2 => ∃ v', r = .tuple #[v', i64 (takeE first count l many)] ∧ OwnO tPiece (fun _ => False) 40 w2 v' (takeL first count l many) (fun k => w.heap.size ≤ k) ∧ Ext (fun _ => False) w w2) := by
 refine Fn.enter (fun w => Tryz.call99 _ w) Tryz.func99 rfl ?_
 refine .seq (.region ?_)
 refine .p rfl rfl (.as rfl) (.p rfl rfl (.as rfl) (.nil (.code (.seq (.seq (.keep [(0, _), (1, _), (2, _), (3, _)] ⟨rfl, rfl, rfl, rfl, trivial⟩ (.region ?_)))))))
 refine .p rfl rfl (.mv rfl) (.p rfl rfl (.lt rfl rfl) (.p rfl rfl (.mv rfl) ?_))
 refine .caseD 18 rfl (fun c18 => ?_) (fun c18 => ?_)
 ·refine .skip rfl rfl (.skip rfl rfl (.p rfl rfl (.pickT rfl rfl) (.nil (.code (.keep [(21, _), (0, _), (1, _), (2, _), (3, _)] ⟨rfl, rfl, rfl, rfl, rfl, trivial⟩ (.condT rfl (.seq (.keep [] trivial (.region ?_)))))))))
  refine .p rfl rfl (.as rfl) (.p rfl rfl (.as rfl) (.nil (.code ?_)))
  refine .ret _ rfl ?_
  rw [takeL_bad (by rw [takeE_2 (by omega)]; decide), takeE_2 (by omega)]
  exact ⟨_, rfl, OwnO.nil, .refl _⟩
 ·refine .p rfl rfl (.mv rfl) (.p rfl rfl (.gt rfl rfl) (.p rfl rfl (.pickF rfl rfl) (.nil (.code (.keep [(21, _), (0, _), (1, _), (2, _), (3, _)] ⟨rfl, rfl, rfl, rfl, rfl, trivial⟩ ?_)))))
  refine .condD rfl (fun c21 => ?_) (fun c21 => ?_)
  ·refine .seq (.keep [] trivial (.region ?_))
   refine .p rfl rfl (.as rfl) (.p rfl rfl (.as rfl) (.nil (.code ?_)))
   refine .ret _ rfl ?_
   rw [takeL_bad (by rw [takeE_2 (by omega)]; decide), takeE_2 (by omega)]
   exact ⟨_, rfl, OwnO.nil, .refl _⟩
  ·refine .skip (.code (.seq (.keep [(0, _), (1, _), (2, _), (3, _)] ⟨rfl, rfl, rfl, rfl, trivial⟩ (.region ?_))))
   refine .p rfl rfl (.mv rfl) (.p rfl rfl (.mv rfl) (.p rfl rfl (.mv rfl) (.call (first := []) (captured := []) rfl rfl rfl rfl (RoomAsked_fn h) ?_)))
   rintro _ w25 ⟨rfl, X25⟩
   refine .p rfl rfl (.as rfl) (.nil (.code (.seq (.seq (.keep [(10, _), (0, _), (1, _), (2, _), (3, _)] ⟨rfl, rfl, rfl, rfl, rfl, trivial⟩ (.region ?_))))))
   refine .p rfl rfl (.mv rfl) (.p rfl rfl (.ne rfl rfl) (.nil (.code (.keep [(27, _), (10, _), (0, _), (1, _), (2, _), (3, _)] ⟨rfl, rfl, rfl, rfl, rfl, rfl, trivial⟩ ?_))))
   refine .condD rfl (fun c27 => ?_) (fun c27 => ?_)
   ·refine .seq (.keep [(10, _)] ⟨rfl, trivial⟩ (.region ?_))
    refine .p rfl rfl (.mv rfl) (.p rfl rfl (.as rfl) (.p rfl rfl (.as rfl) (.nil (.code ?_))))
    refine .ret _ rfl ?_
    rw [takeL_bad (by rw [takeE_e (by omega) c27]; exact c27), takeE_e (by omega) c27]
    exact ⟨_, rfl, OwnO.nil, X25⟩
   ·have hz : freeE first count l = 0 := Decidable.not_not.1 c27
    obtain ⟨i1, i2, i3, hck⟩ := freeE_in hz
    obtain ⟨_, _, hll, hmay⟩ := check_ok hck
    obtain ⟨f0, rfl⟩ := Int.eq_ofNat_of_zero_le i1
    obtain ⟨n0, rfl⟩ := Int.eq_ofNat_of_zero_le (show 0 ≤ count by omega)
    refine .skip (.code (.seq (.keep [(0, _), (1, _), (2, _), (3, _)] ⟨rfl, rfl, rfl, rfl, trivial⟩ (.region ?_))))
    refine .p rfl rfl (.mv rfl) (.p rfl rfl (.mv rfl) (.call (first := []) (captured := []) rfl rfl rfl rfl (taken_fn (n := n0) ((Sl tPiece).ext0 h X25) (by omega)) ?_))
    rintro _ w32 ⟨v32, rfl, hB32, X32⟩
    obtain ⟨rfl, B32⟩ := hB32 hmay
    refine .p rfl rfl (.mv rfl) (.p rfl rfl (.extract rfl rfl) (.p rfl rfl (.extract rfl rfl) (.p rfl rfl (.as rfl) (.p rfl rfl (.as rfl) (.nil (.code (.seq (.keep [(11, _), (0, _), (3, _)] ⟨rfl, rfl, rfl, trivial⟩ (.region ?_)))))))))
    refine .p rfl rfl (.mv rfl) (.p rfl rfl (.mv rfl) (.p rfl rfl (.mv rfl) (.call (first := []) (captured := []) rfl rfl rfl rfl (runs_fn (f := covB l) (g := fun k => !covB l k) (want := false) (m := many) B32 (fun k => by cases covB l k <;> rfl) (by omega) (by omega) (by omega)) ?_)))
    rintro r38 w38 ⟨O38, X38⟩
    have hF : runsTo (fun k => !covB l k) f0 (n0 - f0) = freeL (f0 : Int) (n0 : Int) l := (freeL_ok hz).symm
    have htl := total_take_lt (f := fun k => !covB l k) (a := f0) (n := n0 - f0) (m := many) (by omega)
    have htle := take_length (runsTo (fun k => !covB l k) f0 (n0 - f0)) many
    have hfl := runs_length (fun k => !covB l k) f0 (n0 - f0)
    have hpos : ∀ p ∈ takeF (runsTo (fun k => !covB l k) f0 (n0 - f0)) many, 0 ≤ p.ct ∧ p.ct ≤ 4096 := take_ct (by omega) (fun p hp => by have := (runs_ok (fun k => !covB l k) f0 (n0 - f0)).pos p hp; omega)
    rw [hF] at O38 htl htle hpos hfl
    generalize hQ : takeF (freeL (f0 : Int) (n0 : Int) l) many = Q at O38 htl htle hpos
    obtain ⟨a38, c38, rfl, hc38⟩ := OwnO.val O38
    have R38 := OwnO.rep O38 (R := All) (fun _ _ _ => trivial) (fun _ h _ => h.elim)
    have Z38 := (X25.trans X32).trans X38
    refine .p rfl rfl (.as rfl) (.nil (.code (.seq (.keep [(13, _), (3, _)] ⟨rfl, rfl, trivial⟩ (.region ?_)))))
    refine .p rfl rfl (.as rfl) (.nil (.code (.seq (.seq (.region ?_)))))
    refine .p rfl rfl (.as rfl) (.nil (.code (.block ?_)))
    refine .loop (S := Nat) (fun s => [(3, i64 many), (13, .slice a38 Q.length c38), (14, i64 (totalF (Q.take s))), (15, i64 s)]) (fun s => w38) (fun s => s ≤ Q.length) (fun s => Q.length - s) 0 ⟨rfl, rfl, rfl, rfl, trivial⟩ rfl (Nat.zero_le _) ?_
    intro i J hi' again
    refine .seq (.seq (.region ?_))
    refine .p rfl rfl (.mv rfl) (.p rfl rfl (.mv rfl) (.p rfl rfl (.len rfl rfl) (.p rfl rfl (.lt rfl rfl) (.nil (.code (.keep [(42, _), (3, _), (13, _), (14, _), (15, _)] ⟨rfl, rfl, rfl, rfl, rfl, trivial⟩ ?_))))))
    refine .condD rfl (fun c42 => ?_) (fun c42 => ?_)
    ·have hi : i < Q.length := by omega
     obtain ⟨b1, o1, q1, ue, e, _, hcs, hre⟩ := Sl.at R38 (List.getElem?_eq_getElem hi)
     cases e
     obtain ⟨rfl, hr1, hr2⟩ := tPiece.val hre
     have ht := total_bd (M := 4096) (by decide) (l := Q.take i) (fun p hp => hpos p (List.mem_of_mem_take hp))
     have hl0 := hpos Q[i] (List.getElem_mem hi)
     have hle : (Q.take i).length ≤ Q.length := by rw [List.length_take]; omega
     refine .skip (.code (.seq (.block (.keep [(3, _), (13, _), (14, _), (15, _)] ⟨rfl, rfl, rfl, rfl, trivial⟩ (.region ?_)))))
     refine .p rfl rfl (.mv rfl) (.p rfl rfl (.mv rfl) (.p rfl rfl (.mv rfl) (.p rfl rfl (.indexAddr (s := 2) rfl rfl rfl rfl (by omega)) (.p rfl rfl (.fieldAddr rfl rfl rfl rfl) (.p rfl rfl (.load rfl rfl rfl (hcs 1 _ rfl)) (.p rfl rfl (.cast (.add rfl rfl (by omega)) (show i64 (totalF (Q.take i) + Q[i].ct) = i64 (totalF (Q.take (i + 1))) by rw [total_take hi])) (.p rfl rfl (.as rfl) (.nil (.blk (.code (.keep [(14, _), (3, _), (13, _), (15, _)] ⟨rfl, rfl, rfl, rfl, trivial⟩ (.region ?_))))))))))))
     refine .p rfl rfl (.mv rfl) (.p rfl rfl (.add rfl rfl (by omega)) (.p rfl rfl (.as rfl) (.nil ?_)))
     exact (again (i + 1) (by show i + 1 ≤ _; omega) (by show _ - (i + 1) < _ - i; omega)).of ⟨rfl, rfl, rfl, rfl, trivial⟩
    ·obtain rfl : i = Q.length := by omega
     rw [List.take_length]
     refine .exit rfl (.code (.seq (.seq (.keep [(3, _), (13, _), (14, _)] ⟨rfl, rfl, rfl, trivial⟩ (.region ?_)))))
     refine .p rfl rfl (.mv rfl) (.p rfl rfl (.mv rfl) (.p rfl rfl (.lt rfl rfl) (.nil (.code (.keep [(54, _), (13, _)] ⟨rfl, rfl, trivial⟩ ?_)))))
     refine .condD rfl (fun c54 => ?_) (fun c54 => ?_)
     ·refine .seq (.keep [] trivial (.region ?_))
      refine .p rfl rfl (.as rfl) (.p rfl rfl (.as rfl) (.nil (.code ?_)))
      refine .ret _ rfl ?_
      rw [takeL_bad (by rw [takeE_30 (by omega) hz (htl.1 c54)]; decide), takeE_30 (by omega) hz (htl.1 c54)]
      exact ⟨_, rfl, OwnO.nil, Z38⟩
     ·refine .skip (.code (.seq (.keep [(13, _)] ⟨rfl, trivial⟩ (.region ?_))))
      refine .p rfl rfl (.mv rfl) (.p rfl rfl (.as rfl) (.p rfl rfl (.as rfl) (.nil (.code ?_))))
      refine .ret _ rfl ?_
      have hte := takeE_0 (many := many) (by omega) hz (fun hh => c54 (htl.2 hh))
      rw [takeL_ok hte, hQ, hte]
      exact ⟨_, rfl, OwnO.mono O38 (fun _ h _ => h) (fun k hk _ => Nat.le_trans (X25.trans X32).size hk), Z38⟩
theorem RefMany_fn {w : World} {v : Value} {l : List Piece} (h : (Sl tPiece).rep All w v l) : Fn Tryz.prog 78 [v] w (fun r w2 => r = .tuple #[i64 (if checkR 4096 l = 0 then totalF l else 0), i64 (checkR 4096 l)] ∧ Ext (fun _ => False) w w2) := by
 obtain ⟨a, cap, rfl, hcap⟩ := Sl.val h
 refine Fn.enter (fun w => Tryz.call78 _ w) Tryz.func78 rfl ?_
 refine .seq (.region ?_)
 refine .p rfl rfl (.as rfl) (.p rfl rfl (.as rfl) (.nil (.code (.seq (.keep [(0, _)] ⟨rfl, trivial⟩ (.region ?_))))))
 refine .p rfl rfl (.mv rfl) (.call (first := []) (captured := []) rfl rfl rfl rfl (RefCheck_fn h) ?_)
 rintro _ w8 ⟨rfl, X8⟩
 refine .p rfl rfl (.as rfl) (.nil (.code (.seq (.seq (.keep [(4, _), (0, _)] ⟨rfl, rfl, trivial⟩ (.region ?_))))))
 refine .p rfl rfl (.mv rfl) (.p rfl rfl (.ne rfl rfl) (.nil (.code (.keep [(10, _), (4, _), (0, _)] ⟨rfl, rfl, rfl, trivial⟩ ?_))))
 refine .condD rfl (fun c10 => ?_) (fun c10 => ?_)
 ·refine .seq (.keep [(4, _)] ⟨rfl, trivial⟩ (.region ?_))
  refine .p rfl rfl (.mv rfl) (.p rfl rfl (.as rfl) (.p rfl rfl (.as rfl) (.nil (.code ?_))))
  refine .ret _ rfl ?_
  rw [if_neg c10]
  exact ⟨rfl, X8⟩
 ·have hz : checkR 4096 l = 0 := Decidable.not_not.1 c10
  obtain ⟨_, _, hll, hmay⟩ := check_ok hz
  have hpos : ∀ p ∈ l, 0 ≤ p.ct ∧ p.ct ≤ 4096 := fun p hp => by have := hmay.1 p hp; unfold okP at this; omega
  refine .skip (.code (.seq (.keep [(0, _)] ⟨rfl, trivial⟩ (.region ?_))))
  refine .p rfl rfl (.as rfl) (.nil (.code (.seq (.seq (.region ?_)))))
  refine .p rfl rfl (.as rfl) (.nil (.code (.block ?_)))
  refine .loop (S := Nat) (fun s => [(0, .slice a l.length cap), (5, i64 (totalF (l.take s))), (6, i64 s)]) (fun s => w8) (fun s => s ≤ l.length) (fun s => l.length - s) 0 ⟨rfl, rfl, rfl, trivial⟩ rfl (Nat.zero_le _) ?_
  intro i J hi' again
  refine .seq (.seq (.region ?_))
  refine .p rfl rfl (.mv rfl) (.p rfl rfl (.mv rfl) (.p rfl rfl (.len rfl rfl) (.p rfl rfl (.lt rfl rfl) (.nil (.code (.keep [(15, _), (0, _), (5, _), (6, _)] ⟨rfl, rfl, rfl, rfl, trivial⟩ ?_))))))
  refine .condD rfl (fun c15 => ?_) (fun c15 => ?_)
  ·have hi : i < l.length := by omega
   obtain ⟨b1, o1, q1, ue, e, _, hcs, hre⟩ := Sl.at h (List.getElem?_eq_getElem hi)
   cases e
   obtain ⟨rfl, hr1, hr2⟩ := tPiece.val hre
   have ht := total_bd (M := 4096) (by decide) (l := l.take i) (fun p hp => hpos p (List.mem_of_mem_take hp))
   have hl0 := hpos l[i] (List.getElem_mem hi)
   have hle : (l.take i).length ≤ l.length := by rw [List.length_take]; omega
   refine .skip (.code (.seq (.block (.keep [(0, _), (5, _), (6, _)] ⟨rfl, rfl, rfl, trivial⟩ (.region ?_)))))
   refine .p rfl rfl (.mv rfl) (.p rfl rfl (.mv rfl) (.p rfl rfl (.mv rfl) (.p rfl rfl (.indexAddr (s := 2) rfl rfl rfl rfl (by omega)) (.p rfl rfl (.fieldAddr rfl rfl rfl rfl) (.p rfl rfl (.load rfl rfl rfl ((hcs.ext X8 (fun x => x)) 1 _ rfl)) (.p rfl rfl (.cast (.add rfl rfl (by omega)) (show i64 (totalF (l.take i) + l[i].ct) = i64 (totalF (l.take (i + 1))) by rw [total_take hi])) (.p rfl rfl (.as rfl) (.nil (.blk (.code (.keep [(5, _), (0, _), (6, _)] ⟨rfl, rfl, rfl, trivial⟩ (.region ?_))))))))))))
   refine .p rfl rfl (.mv rfl) (.p rfl rfl (.add rfl rfl (by omega)) (.p rfl rfl (.as rfl) (.nil ?_)))
   exact (again (i + 1) (by show i + 1 ≤ _; omega) (by show _ - (i + 1) < _ - i; omega)).of ⟨rfl, rfl, rfl, trivial⟩
  ·obtain rfl : i = l.length := by omega
   rw [List.take_length]
   refine .exit rfl (.code (.seq (.keep [(5, _)] ⟨rfl, trivial⟩ (.region ?_))))
   refine .p rfl rfl (.mv rfl) (.p rfl rfl (.as rfl) (.p rfl rfl (.as rfl) (.nil (.code ?_))))
   refine .ret _ rfl ?_
   rw [if_pos hz, hz]
   exact ⟨rfl, X8⟩
theorem RefSectors_fn {w : World} {v : Value} {l : List Piece} (h : (Sl tPiece).rep All w v l) : Fn Tryz.prog 101 [v] w (fun r w2 => ∃ v', r = .tuple #[v', i64 (checkR 4096 l)] ∧ OwnO tInt (fun _ => False) 3 w2 v' (if checkR 4096 l = 0 then sectF l else []) (fun k => w.heap.size ≤ k) ∧ Ext (fun _ => False) w w2) := by
 obtain ⟨a, cap, rfl, hcap⟩ := Sl.val h
 refine Fn.enter (fun w => Tryz.call101 _ w) Tryz.func101 rfl ?_
 refine .seq (.region ?_)
 refine .p rfl rfl (.as rfl) (.p rfl rfl (.as rfl) (.nil (.code (.seq (.keep [(0, _)] ⟨rfl, trivial⟩ (.region ?_))))))
 refine .p rfl rfl (.mv rfl) (.call (first := []) (captured := []) rfl rfl rfl rfl (RefCheck_fn h) ?_)
 rintro _ w9 ⟨rfl, X9⟩
 have R9 : (Sl tPiece).rep (fun k => k < w9.heap.size) w9 (.slice a l.length cap) l := (Sl tPiece).mono ((Sl tPiece).ext0 h X9) (fun k _ h => h)
 refine .p rfl rfl (.as rfl) (.nil (.code (.seq (.seq (.keep [(4, _), (0, _)] ⟨rfl, rfl, trivial⟩ (.region ?_))))))
 refine .p rfl rfl (.mv rfl) (.p rfl rfl (.ne rfl rfl) (.nil (.code (.keep [(11, _), (4, _), (0, _)] ⟨rfl, rfl, rfl, trivial⟩ ?_))))
 refine .condD rfl (fun c11 => ?_) (fun c11 => ?_)
 ·refine .seq (.keep [(4, _)] ⟨rfl, trivial⟩ (.region ?_))
  refine .p rfl rfl (.mv rfl) (.p rfl rfl (.as rfl) (.p rfl rfl (.as rfl) (.nil (.code ?_))))
  refine .ret _ rfl ?_
  rw [if_neg c11]
  exact ⟨_, rfl, OwnO.nil, X9⟩
 ·have hz : checkR 4096 l = 0 := Decidable.not_not.1 c11
  obtain ⟨_, _, hll, hmay⟩ := check_ok hz
  refine .skip (.code (.seq (.keep [(0, _)] ⟨rfl, trivial⟩ (.region ?_))))
  refine .p rfl rfl (.as rfl) (.nil (.code (.seq (.seq (.region ?_)))))
  refine .p rfl rfl (.as rfl) (.nil (.code (.block ?_)))
  refine .loop (S := Nat × World × Value) (fun s => [(0, .slice a l.length cap), (5, s.2.2), (6, i64 s.1)]) (fun s => s.2.1) (fun s => s.1 ≤ l.length ∧ OwnO tInt (fun _ => False) 3 s.2.1 s.2.2 (sectF (l.take s.1)) (fun k => w9.heap.size ≤ k) ∧ Ext (fun k => w9.heap.size ≤ k) w9 s.2.1) (fun s => l.length - s.1) (0, w9, .slice none 0 0) ⟨rfl, rfl, rfl, trivial⟩ rfl ⟨Nat.zero_le _, OwnO.nil, .refl _⟩ ?_
  rintro ⟨i, wi, vo⟩ J ⟨hi', hO, hX⟩ again
  simp only at hi' hO hX
  change G _ [(0, .slice a l.length cap), (5, vo), (6, i64 i)] _ _ wi
  refine .seq (.seq (.region ?_))
  refine .p rfl rfl (.mv rfl) (.p rfl rfl (.mv rfl) (.p rfl rfl (.len rfl rfl) (.p rfl rfl (.lt rfl rfl) (.nil (.code (.keep [(16, _), (0, _), (5, _), (6, _)] ⟨rfl, rfl, rfl, rfl, trivial⟩ ?_))))))
  refine .condD rfl (fun c16 => ?_) (fun c16 => ?_)
  ·have hi : i < l.length := by omega
   obtain ⟨b1, o1, q1, ue, e, hb1, hcs, hre⟩ := Sl.at R9 (List.getElem?_eq_getElem hi)
   cases e
   obtain ⟨rfl, hr1, hr2⟩ := tPiece.val hre
   have hb1 : ¬ w9.heap.size ≤ b1 := by have hb1 : b1 < w9.heap.size := hb1; omega
   have hki := hmay.1 l[i] (List.getElem_mem hi)
   unfold okP at hki
   have zi := hX.size
   have hsl := sect_length (l := l.take i) (fun p hp => by have := hmay.1 p (List.mem_of_mem_take hp); unfold okP at this; omega)
   rw [List.length_take] at hsl
   refine .skip (.code (.seq (.block (.seq (.keep [(0, _), (5, _), (6, _)] ⟨rfl, rfl, rfl, trivial⟩ (.region ?_))))))
   refine .p rfl rfl (.as rfl) (.nil (.code (.block ?_)))
   refine .loop (S := Nat × World × Value) (fun s => [(0, .slice (some ⟨b1, o1, none⟩) l.length cap), (5, s.2.2), (6, i64 (i : Nat)), (7, i64 s.1)]) (fun s => s.2.1) (fun s => s.1 ≤ l[i].ct.toNat ∧ OwnO tInt (fun _ => False) 3 s.2.1 s.2.2 (sectF (l.take i) ++ oneF l[i] s.1) (fun k => w9.heap.size ≤ k) ∧ Ext (fun k => w9.heap.size ≤ k) w9 s.2.1) (fun s => l[i].ct.toNat - s.1) (0, wi, vo) ⟨rfl, rfl, rfl, rfl, trivial⟩ rfl ⟨Nat.zero_le _, by show OwnO _ _ _ _ _ (_ ++ []) _; rw [List.append_nil]; exact hO, hX⟩ ?_
   rintro ⟨k, wj, vp⟩ J2 ⟨hk', hP, hY⟩ again2
   simp only at hk' hP hY
   have zj := hY.size
   change G _ [(0, .slice (some ⟨b1, o1, none⟩) l.length cap), (5, vp), (6, i64 (i : Nat)), (7, i64 k)] _ _ wj
   refine .seq (.seq (.region ?_))
   refine .p rfl rfl (.mv rfl) (.p rfl rfl (.mv rfl) (.p rfl rfl (.mv rfl) (.p rfl rfl (.indexAddr (s := 2) rfl rfl rfl rfl (by omega)) (.p rfl rfl (.fieldAddr rfl rfl rfl rfl) (.p rfl rfl (.load rfl rfl rfl ((hcs.ext hY hb1) 1 _ rfl)) (.p rfl rfl (.lt rfl rfl) (.nil (.code (.keep [(25, _), (0, _), (5, _), (6, _), (7, _)] ⟨rfl, rfl, rfl, rfl, rfl, trivial⟩ ?_)))))))))
   refine .condD rfl (fun c25 => ?_) (fun c25 => ?_)
   ·refine .skip (.code (.seq (.block (.keep [(0, _), (5, _), (6, _), (7, _)] ⟨rfl, rfl, rfl, rfl, trivial⟩ (.region ?_)))))
    refine .p rfl rfl (.mv rfl) (.p rfl rfl (.mv rfl) (.p rfl rfl (.mv rfl) (.p rfl rfl (.indexAddr (s := 2) rfl rfl rfl rfl (by omega)) (.p rfl rfl (.fieldAddr rfl rfl rfl rfl) (.p rfl rfl (.load rfl rfl rfl ((hcs.ext hY hb1) 0 _ rfl)) (.p rfl rfl (.mv rfl) (.p rfl rfl (.add rfl rfl (by omega)) (.v rfl rfl (.lits rfl rfl (fun _ => by kernel_rfl)) ?_))))))))
    rintro _ w36 ⟨rfl, N36⟩
    refine .v rfl rfl (.appendLo (t := tInt) (xs := sectF (l.take i) ++ oneF l[i] k) (ys := [l[i].fr + (k : Int)]) (Q := fun _ => False) (B := fun k => w9.heap.size ≤ k) (eb := 8) rfl (OwnO.ext0 hP N36.ext) (fun k hk => by have := N36.size; show w9.heap.size ≤ k; omega) rfl (.inr (New.holds (t := tInt) (us := [i64 (l[i].fr + (k : Int))]) (xs := [l[i].fr + (k : Int)]) N36 (.cons ⟨rfl, by omega⟩ .nil) rfl)) rfl rfl rfl rfl rfl rfl rfl (by simp only [List.length_append, one_length, List.length_singleton]; omega) (by simp only [List.length_append, one_length, List.length_singleton, Lim]; omega) (fun _ h _ => h.elim)) ?_
    rintro r37 w37 ⟨O37, X37⟩
    have hY := (hY.trans (N36.ext.mono (fun _ _ h => h.elim))).trans X37
    refine .p rfl rfl (.as rfl) (.nil (.blk (.code (.keep [(5, _), (0, _), (6, _), (7, _)] ⟨rfl, rfl, rfl, rfl, trivial⟩ (.region ?_)))))
    refine .p rfl rfl (.mv rfl) (.p rfl rfl (.add rfl rfl (by omega)) (.p rfl rfl (.as rfl) (.nil ?_)))
    exact (again2 (k + 1, w37, _) ⟨by show k + 1 ≤ _; omega, by rw [one_succ, ← List.append_assoc]; exact O37, hY⟩ (by show _ - (k + 1) < _ - k; omega)).of ⟨rfl, rfl, rfl, rfl, trivial⟩
   ·obtain rfl : k = l[i].ct.toNat := by omega
    refine .exit rfl (.blk (.code (.keep [(0, _), (5, _), (6, _)] ⟨rfl, rfl, rfl, trivial⟩ (.region ?_))))
    refine .p rfl rfl (.mv rfl) (.p rfl rfl (.add rfl rfl (by omega)) (.p rfl rfl (.as rfl) (.nil ?_)))
    exact (again (i + 1, wj, _) ⟨by show i + 1 ≤ _; omega, by rw [sect_take hi]; exact hP, hY⟩ (by show _ - (i + 1) < _ - i; omega)).of ⟨rfl, rfl, rfl, trivial⟩
  ·obtain rfl : i = l.length := by omega
   rw [List.take_length] at hO
   refine .exit rfl (.code (.seq (.keep [(5, _)] ⟨rfl, trivial⟩ (.region ?_))))
   refine .p rfl rfl (.mv rfl) (.p rfl rfl (.as rfl) (.p rfl rfl (.as rfl) (.nil (.code ?_))))
   refine .ret _ rfl ?_
   rw [if_pos hz, hz]
   exact ⟨_, rfl, OwnO.mono hO (fun _ h _ => h) (fun k hk _ => Nat.le_trans X9.size hk), X9.then hX (fun k hk _ => Nat.le_trans X9.size hk)⟩
theorem RefSame_fn {w : World} {v u : Value} {l m : List Piece} (hl : (Sl tPiece).rep All w v l) (hm : (Sl tPiece).rep All w u m) : Fn Tryz.prog 64 [v, u] w (fun r w2 => r = .bool (decide (l = m)) ∧ Ext (fun _ => False) w w2) := by
 obtain ⟨a, cap, rfl, hcap⟩ := Sl.val hl
 obtain ⟨a2, cap2, rfl, hcap2⟩ := Sl.val hm
 have hlim := Sl.lim hl
 have hlim2 := Sl.lim hm
 simp only [Lim] at hlim hlim2
 refine Fn.enter (fun w => Tryz.call64 _ w) Tryz.func64 rfl ?_
 refine .seq (.region ?_)
 refine .p rfl rfl (.as rfl) (.nil (.code (.seq (.seq (.keep [(0, _), (1, _)] ⟨rfl, rfl, trivial⟩ (.region ?_))))))
 refine .p rfl rfl (.mv rfl) (.p rfl rfl (.len rfl rfl) (.p rfl rfl (.mv rfl) (.p rfl rfl (.len rfl rfl) (.p rfl rfl (.ne rfl rfl) (.nil (.code (.keep [(10, _), (0, _), (1, _)] ⟨rfl, rfl, rfl, trivial⟩ ?_)))))))
 refine .condD rfl (fun c10 => ?_) (fun c10 => ?_)
 ·refine .seq (.keep [] trivial (.region ?_))
  refine .p rfl rfl (.as rfl) (.nil (.code ?_))
  refine .ret _ rfl ?_
  exact ⟨by rw [decide_eq_false (fun h => by rw [h] at c10; exact c10 rfl)]; rfl, .refl _⟩
 ·refine .skip (.code (.seq (.seq (.keep [(0, _), (1, _)] ⟨rfl, rfl, trivial⟩ (.region ?_)))))
  refine .p rfl rfl (.as rfl) (.nil (.code (.block ?_)))
  have hlen : l.length = m.length := by omega
  refine .loop (S := Nat) (fun s => [(0, .slice a l.length cap), (1, .slice a2 m.length cap2), (5, i64 s)]) (fun s => w) (fun s => s ≤ l.length ∧ l.take s = m.take s) (fun s => l.length - s) 0 ⟨rfl, rfl, rfl, trivial⟩ rfl ⟨Nat.zero_le _, rfl⟩ ?_
  rintro i J ⟨hi', htk⟩ again
  refine .seq (.seq (.region ?_))
  refine .p rfl rfl (.mv rfl) (.p rfl rfl (.mv rfl) (.p rfl rfl (.len rfl rfl) (.p rfl rfl (.lt rfl rfl) (.nil (.code (.keep [(14, _), (0, _), (1, _), (5, _)] ⟨rfl, rfl, rfl, rfl, trivial⟩ ?_))))))
  refine .condD rfl (fun c14 => ?_) (fun c14 => ?_)
  ·have hi : i < l.length := by omega
   have him : i < m.length := by omega
   obtain ⟨b0, o0, c0, ue, e, _, hcs, hre⟩ := Sl.at hl (List.getElem?_eq_getElem hi)
   cases e
   obtain ⟨rfl, h1, h2⟩ := tPiece.val hre
   obtain ⟨b1, o1, c1, ue1, e1, _, hcm, hrm⟩ := Sl.at hm (List.getElem?_eq_getElem him)
   cases e1
   obtain ⟨rfl, g1, g2⟩ := tPiece.val hrm
   refine .skip (.code (.seq (.block (.seq (.keep [(0, _), (1, _), (5, _)] ⟨rfl, rfl, rfl, trivial⟩ (.draws (by kernel_rfl) (by kernel_rfl) ?_))))))
   refine .p rfl rfl (.mv rfl) (.p rfl rfl (.mv rfl) (.p rfl rfl (.indexAddr (s := 2) rfl rfl rfl rfl (by omega)) (.p rfl rfl (.loadA (n := 2) rfl rfl rfl rfl rfl hcs) (.p rfl rfl (.mv rfl) (.p rfl rfl (.mv rfl) (.p rfl rfl (.indexAddr (s := 2) rfl rfl rfl rfl (by omega)) (.p rfl rfl (.loadA (n := 2) rfl rfl rfl rfl rfl hcm) (.p rfl rfl (.neA (xs := [_, _]) (ys := [_, _]) rfl rfl (by kernel_rfl) (piece_eq l[i] m[i])) (.nil (.code (.keep [(25, _), (0, _), (1, _), (5, _)] ⟨rfl, rfl, rfl, rfl, trivial⟩ ?_)))))))))))
   refine .cond rfl (fun c25 => ?_) (fun c25 => ?_)
   ·refine .seq (.keep [] trivial (.region ?_))
    refine .p rfl rfl (.as rfl) (.nil (.code ?_))
    refine .ret _ rfl ?_
    exact ⟨by rw [decide_eq_false (fun h => by subst h; simp at c25)]; rfl, .refl _⟩
   ·refine .skip (.blk (.code (.keep [(0, _), (1, _), (5, _)] ⟨rfl, rfl, rfl, trivial⟩ (.region ?_))))
    refine .p rfl rfl (.mv rfl) (.p rfl rfl (.add rfl rfl (by omega)) (.p rfl rfl (.as rfl) (.nil ?_)))
    exact (again (i + 1) ⟨by show i + 1 ≤ _; omega, by show l.take (i + 1) = m.take (i + 1); rw [List.take_succ_eq_append_getElem hi, List.take_succ_eq_append_getElem him, htk, show l[i] = m[i] by simpa using c25]⟩ (by show _ - (i + 1) < _ - i; omega)).of ⟨rfl, rfl, rfl, trivial⟩
  ·refine .exit rfl (.code (.seq (.keep [] trivial (.region ?_))))
   refine .p rfl rfl (.as rfl) (.nil (.code ?_))
   refine .ret _ rfl ?_
   obtain rfl : i = l.length := by omega
   exact ⟨by rw [decide_eq_true (by rw [List.take_length, hlen, List.take_length] at htk; exact htk)]; rfl, .refl _⟩
theorem RefSameT_fn {w : World} {v u : Value} {l : List Piece} (hl : (Sl tPiece).rep All w v l) (hm : (Sl tPiece).rep All w u l) : Fn Tryz.prog 64 [v, u] w (fun r w2 => r = .bool true ∧ Ext (fun _ => False) w w2) :=
 (RefSame_fn hl hm).mono (fun r w2 h => ⟨by rw [h.1, decide_eq_true rfl], h.2⟩)
end Go.Proofs.YtpfehnopghffjaaGreatDoor
namespace Go.Proofs.YtpfehnopghffjaaGreatDoor
open Go
theorem add128 (m : Nat) : UInt8.ofNat ((m : Int) % 128).toNat + 128 = UInt8.ofNat (m % 128 + 128) := by
 have h : ((m : Int) % 128).toNat = m % 128 := by omega
 rw [h, ← UInt8.toNat_inj]
 simp
theorem RefSmall_fn {w : World} {n : Nat} (hn : n < 18446744073709551616) : Fn Tryz.prog 115 [.int .u64 n] w (fun r w2 => Gr w2 r (smallF n) w.heap.size ∧ Ext (fun _ => False) w w2) := by
 refine Fn.enter (fun w => Tryz.call115 _ w) Tryz.func115 rfl ?_
 refine .seq (.region ?_)
 refine .p rfl rfl (.as rfl) (.nil (.code (.seq (.keep [(0, _)] ⟨rfl, trivial⟩ (.region ?_)))))
 refine .p rfl rfl (.as rfl) (.nil (.code (.seq (.block ?_))))
 refine .loop (S := Nat × Nat × Bs × Value × World) (fun s => [(0, .int .u64 (s.2.1 : Nat)), (3, s.2.2.2.1)]) (fun s => s.2.2.2.2) (fun s => 1 ≤ s.1 ∧ s.1 ≤ 10 ∧ s.2.1 < 18446744073709551616 ∧ s.2.1 < 128 ^ s.1 ∧ smallF n = s.2.2.1 ++ smallK s.1 s.2.1 ∧ s.2.2.1.length ≤ 10 - s.1 ∧ Gr s.2.2.2.2 s.2.2.2.1 s.2.2.1 w.heap.size ∧ Ext (fun _ => False) w s.2.2.2.2) (fun s => s.1) (10, n, [], .slice none 0 0, w) ⟨rfl, rfl, trivial⟩ rfl ⟨(by decide : 1 ≤ 10), (by decide : 10 ≤ 10), hn, Nat.lt_of_lt_of_le hn (by decide : 18446744073709551616 ≤ 128 ^ 10), rfl, (by decide : 0 ≤ 10 - 10), OwnO.nil, .refl _⟩ ?_
 rintro ⟨f, m, acc, v, wi⟩ J ⟨h1, h10, hm64, hm, hs, hl, hG, hX⟩ again
 simp only at h1 h10 hm64 hm hs hl hG hX
 have zi : w.heap.size ≤ wi.heap.size := hX.size
 change G _ [(0, .int .u64 (m : Nat)), (3, v)] _ _ wi
 refine .seq (.seq (.region ?_))
 refine .p rfl rfl (.mv rfl) (.p rfl rfl (.ge rfl rfl) (.nil (.code (.keep [(5, _), (0, _), (3, _)] ⟨rfl, rfl, rfl, trivial⟩ ?_))))
 refine .condD rfl (fun c5 => ?_) (fun c5 => ?_)
 ·obtain ⟨f, rfl⟩ : ∃ f', f = f' + 1 := ⟨f - 1, by omega⟩
  have hle := smallK_length (f + 1) m
  have hsp : smallK (f + 1) m = UInt8.ofNat (m % 128 + 128) :: smallK f (m / 128) := by rw [smallK, if_neg (by omega)]
  refine .skip (.code (.block (.seq (.keep [(0, _), (3, _)] ⟨rfl, rfl, trivial⟩ (.region ?_)))))
  refine .p rfl rfl (.mv rfl) (.p rfl rfl (.mv rfl) (.p rfl rfl (.rem rfl rfl (by omega)) (.p rfl rfl (.convB rfl rfl rfl (by omega)) (.p rfl rfl (.cast (.add8 (b := 128) rfl rfl) (show _ = u8 (UInt8.ofNat (m % 128 + 128)) by rw [add128])) (.v rfl rfl (.lits rfl rfl (fun _ => by kernel_rfl)) ?_)))))
  rintro _ w12 ⟨rfl, N12⟩
  have z12 : w12.heap.size = wi.heap.size + 1 := N12.size
  refine .v rfl rfl (.appendLo (t := tByte) (eb := 1) rfl (hG.ext0 N12.ext) (fun k hk => by have hk : w12.heap.size ≤ k := hk; show w.heap.size ≤ k; omega) rfl (one_holds N12) rfl rfl rfl rfl rfl rfl rfl (by simp; omega) (by simp [Lim]; omega) (fun _ h _ => h.elim)) ?_
  rintro r13 w13 ⟨G13, Y13⟩
  have z13 : w12.heap.size ≤ w13.heap.size := Y13.size
  refine .p rfl rfl (.as rfl) (.nil (.code (.keep [(3, _), (0, _)] ⟨rfl, rfl, trivial⟩ (.region ?_))))
  refine .p rfl rfl (.mv rfl) (.p rfl rfl (.cast (.quoU rfl rfl (by omega)) (show _ = Value.int .u64 ((m / 128 : Nat) : Int) by simp)) (.p rfl rfl (.as rfl) (.nil (.blk ?_))))
  have hf1 : 1 ≤ f := by
   rcases Nat.eq_zero_or_pos f with rfl | h
   ·have : m < 128 := by simpa using hm
    omega
   ·exact h
  exact (again (f, m / 128, acc ++ [UInt8.ofNat (m % 128 + 128)], r13, w13) ⟨hf1, by show f ≤ 10; omega, by show m / 128 < _; omega, by show m / 128 < 128 ^ f; rw [Nat.pow_succ] at hm; omega, by show smallF n = (acc ++ [_]) ++ smallK f (m / 128); rw [hs, hsp, List.append_assoc]; rfl, by show (acc ++ [_]).length ≤ 10 - f; simp; omega, G13, (hX.trans N12.ext).then Y13 (fun k hk _ => hk)⟩ (by show f < f + 1; omega)).of ⟨rfl, rfl, trivial⟩
 ·obtain ⟨f, rfl⟩ : ∃ f', f = f' + 1 := ⟨f - 1, by omega⟩
  have hsp : smallK (f + 1) m = [UInt8.ofNat m] := by rw [smallK, if_pos (by omega)]
  refine .exit rfl (.code (.seq (.keep [(0, _), (3, _)] ⟨rfl, rfl, trivial⟩ (.region ?_))))
  refine .p rfl rfl (.mv rfl) (.p rfl rfl (.mv rfl) (.p rfl rfl (.cast (.convB rfl rfl rfl (by omega)) (show _ = u8 (UInt8.ofNat m) by rw [Int.toNat_natCast])) (.v rfl rfl (.lits rfl rfl (fun _ => by kernel_rfl)) ?_)))
  rintro _ w17 ⟨rfl, N17⟩
  have z17 : w17.heap.size = wi.heap.size + 1 := N17.size
  refine .v rfl rfl (.appendLo (t := tByte) (eb := 1) rfl (hG.ext0 N17.ext) (fun k hk => by have hk : w17.heap.size ≤ k := hk; show w.heap.size ≤ k; omega) rfl (one_holds N17) rfl rfl rfl rfl rfl rfl rfl (by simp; omega) (by simp [Lim]; omega) (fun _ h _ => h.elim)) ?_
  rintro r18 w18 ⟨G18, Y18⟩
  have z18 : w17.heap.size ≤ w18.heap.size := Y18.size
  refine .p rfl rfl (.as rfl) (.nil (.code ?_))
  refine .ret _ rfl ?_
  exact ⟨by rw [hs, hsp]; exact G18, (hX.trans N17.ext).then Y18 (fun k hk _ => hk)⟩
theorem RefText_fn {w : World} {l : Bs} (hl : l.length < Lim) (hl2 : l.length + 10 < Lim) : Fn Tryz.prog 53 [str l] w (fun r w2 => Gr w2 r (textF l) w.heap.size ∧ Ext (fun _ => False) w w2) := by
 simp only [Lim] at hl
 have hsl := smallF_length l.length
 refine Fn.enter (fun w => Tryz.call53 _ w) Tryz.func53 rfl ?_
 refine .seq (.region ?_)
 refine .p rfl rfl (.as rfl) (.nil (.code (.seq (.keep [(0, _)] ⟨rfl, trivial⟩ (.region ?_)))))
 refine .p rfl rfl (.mv rfl) (.p rfl rfl (.lenS rfl rfl) (.p rfl rfl (.convU rfl rfl rfl (by omega)) (.call (first := []) (captured := []) rfl rfl rfl rfl (RefSmall_fn (n := l.length) (by omega)) ?_)))
 rintro r6 w6 ⟨G6, X6⟩
 have z6 : w.heap.size ≤ w6.heap.size := X6.size
 refine .p rfl rfl (.mv rfl) (.v rfl rfl (.appendSLo rfl G6 (fun k hk => by have hk : w6.heap.size ≤ k := hk; show w.heap.size ≤ k; omega) rfl rfl rfl rfl rfl rfl rfl rfl (by simp only [Lim] at hl2 ⊢; omega) (fun _ h _ => h.elim)) ?_)
 rintro r8 w8 ⟨G8, Y8⟩
 refine .p rfl rfl (.as rfl) (.nil (.code ?_))
 refine .ret _ rfl ?_
 exact ⟨G8, X6.then Y8 (fun k hk _ => hk)⟩
end Go.Proofs.YtpfehnopghffjaaGreatDoor
namespace Go.Proofs.YtpfehnopghffjaaGreatDoor
open Go
theorem byteOf_mod (n i : Nat) : u8 (byteOf n i) = u8 (UInt8.ofNat (((n / 256 ^ i : Nat) : Int) % 256).toNat) := by
 have h1 : (((n / 256 ^ i : Nat) : Int) % 256).toNat = n / 256 ^ i % 256 := by omega
 rw [h1]
 have h2 : byteOf n i = UInt8.ofNat (n / 256 ^ i % 256) := by
  apply UInt8.toNat_inj.1
  rw [byteOf, Nat.pow_mul]
  simp
 rw [h2]
theorem div_succ (n i : Nat) : n / 256 ^ i / 256 = n / 256 ^ (i + 1) := by rw [Nat.div_div_eq_div_mul, Nat.pow_succ]
def hiTo (l : Bs) : Nat → Nat
 | 0 => 0
 | j + 1 => hiTo l j * 256 + (l.getD (7 - j) 0).toNat
theorem hiTo_lt (l : Bs) : ∀ j, hiTo l j < 256 ^ j
 | 0 => by simp [hiTo]
 | j + 1 => by
  have h := hiTo_lt l j
  have hb := (l.getD (7 - j) 0).toNat_lt
  rw [hiTo, Nat.pow_succ]
  omega
theorem hiTo_bd (l : Bs) {j : Nat} (h : j ≤ 8) : hiTo l j < 18446744073709551616 := Nat.lt_of_lt_of_le (hiTo_lt l j) (Nat.pow_le_pow_right (n := 256) (by decide) h)
theorem hiTo_8 (l : Bs) : hiTo l 8 = getTo l 8 := by
 simp only [hiTo, getTo, Nat.sub_zero, Nat.reduceSub, Nat.reduceMul, Nat.reducePow]
 omega
theorem RefPut_fn {w : World} {n : Nat} (hn : n < 18446744073709551616) : Fn Tryz.prog 54 [.int .u64 n] w (fun r w2 => tBytes.rep (fun k => w.heap.size ≤ k) w2 r (put8 n) ∧ Ext (fun _ => False) w w2) := by
 refine Fn.enter (fun w => Tryz.call54 _ w) Tryz.func54 rfl ?_
 refine .seq (.region ?_)
 refine .p rfl rfl (.as rfl) (.nil (.code (.seq (.keep [(0, _)] ⟨rfl, trivial⟩ (.region ?_)))))
 refine .p rfl rfl (.as rfl) (.nil (.code (.seq (.seq (.region ?_)))))
 refine .p rfl rfl (.as rfl) (.nil (.code (.block ?_)))
 have h0 : (Value.int .u64 (n : Int)) = .int .u64 ((n / 256 ^ 0 : Nat) : Int) := by simp
 rw [h0]
 refine .loop (S := Nat × World × Value × Nat) (fun s => [(4, i64 s.1), (3, s.2.2.1), (0, .int .u64 (n / 256 ^ s.1 : Nat))]) (fun s => s.2.1) (fun s => s.1 ≤ 8 ∧ Own tByte (fun _ => False) 5 s.2.1 s.2.2.1 ((List.range s.1).map (byteOf n)) s.2.2.2 ∧ Ext (fun _ => False) w s.2.1 ∧ w.heap.size ≤ s.2.2.2) (fun s => 8 - s.1) (0, w, .slice none 0 0, w.heap.size) ⟨rfl, rfl, rfl, trivial⟩ rfl ⟨Nat.zero_le _, Own.nil, .refl _, Nat.le_refl _⟩ ?_
 rintro ⟨i, wi, v, b⟩ J ⟨hi, hO, hX, hb⟩ again
 simp only at hi hO hX hb
 change G _ [(4, i64 i), (3, v), (0, .int .u64 (n / 256 ^ i : Nat))] _ _ wi
 refine .seq (.seq (.region ?_))
 refine .p rfl rfl (.mv rfl) (.p rfl rfl (.lt rfl rfl) (.nil (.code (.keep [(6, _), (4, _), (3, _), (0, _)] ⟨rfl, rfl, rfl, rfl, trivial⟩ ?_))))
 refine .condD rfl (fun c6 => ?_) (fun c6 => ?_)
 ·have hq : ((n / 256 ^ i : Nat) : Int) ≤ 18446744073709551615 := by have h1 := Nat.le_trans (Nat.div_le_self n (256 ^ i)) (show n ≤ 18446744073709551615 by omega); exact Int.ofNat_le.2 h1
  refine .skip (.code (.seq (.block (.seq (.keep [(4, _), (3, _), (0, _)] ⟨rfl, rfl, rfl, trivial⟩ (.region ?_))))))
  refine .p rfl rfl (.mv rfl) (.p rfl rfl (.mv rfl) (.p rfl rfl (.rem rfl rfl ⟨Int.natCast_nonneg _, by decide⟩) (.p rfl rfl (.convB rfl rfl rfl (Int.emod_nonneg _ (by decide))) (.v rfl rfl (.lits rfl rfl (fun _ => by kernel_rfl)) ?_))))
  rintro _ w13 ⟨rfl, N13⟩
  refine .v rfl rfl (.append (t := tByte) (eb := 1) rfl (hO.ext0 N13.ext) rfl (.inr (New.holds (us := [u8 (UInt8.ofNat (((n / 256 ^ i : Nat) : Int) % 256).toNat)]) (xs := [byteOf n i]) N13 (by rw [← byteOf_mod]; exact each_u8 [byteOf n i]) rfl)) rfl rfl rfl rfl rfl rfl rfl (by simp; omega) (by simp [Lim]; omega) (fun _ h _ => h.elim)) ?_
  rintro v14 w14 ⟨b14, O14, X14, hb14⟩
  have O14 := O14.mono (Q' := fun _ => False) (fun _ h _ => h.1)
  have hX14 := (hX.trans N13.ext).then X14 (by rintro k rfl _; omega)
  refine .p rfl rfl (.as rfl) (.nil (.code (.keep [(3, _), (4, _), (0, _)] ⟨rfl, rfl, rfl, trivial⟩ (.region ?_))))
  refine .p rfl rfl (.mv rfl) (.p rfl rfl (.cast (.quoU rfl rfl ⟨Int.natCast_nonneg _, hq, by decide⟩) (by show Value.int .u64 _ = Value.int .u64 ((n / 256 ^ (i + 1) : Nat) : Int); rw [← div_succ]; rfl)) (.p rfl rfl (.as rfl) (.nil (.blk (.code (.keep [(0, _), (3, _), (4, _)] ⟨rfl, rfl, rfl, trivial⟩ (.region ?_)))))))
  refine .p rfl rfl (.mv rfl) (.p rfl rfl (.add rfl rfl (by omega)) (.p rfl rfl (.as rfl) (.nil ?_)))
  refine (again (i + 1, w14, v14, b14) ⟨by show i + 1 ≤ 8; omega, ?_, hX14, ?_⟩ (by show 8 - (i + 1) < 8 - i; omega)).of ⟨rfl, rfl, rfl, trivial⟩
  ·show Own tByte _ _ w14 v14 _ b14
   rw [List.range_succ, List.map_append]
   exact O14
  ·show w.heap.size ≤ b14
   have := (hX.trans N13.ext).size
   omega
 ·refine .exit rfl (.code (.seq (.keep [(3, _)] ⟨rfl, trivial⟩ (.region ?_))))
  refine .p rfl rfl (.mv rfl) (.p rfl rfl (.as rfl) (.nil (.code ?_)))
  refine .ret _ rfl ?_
  obtain rfl : i = 8 := by omega
  exact ⟨hO.rep hb (fun _ h _ => h.elim), hX⟩
end Go.Proofs.YtpfehnopghffjaaGreatDoor
