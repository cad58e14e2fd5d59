/-
  Package files: all acts of a turn, done; how much room there is.
-/
import Derived.Test.YtpfehnopghffjaaGreatDoorQ27
import Derived.Test.YtpfehnopghffjaaGreatDoorQ13
set_option linter.unusedVariables false
set_option linter.unusedSimpArgs false
set_option maxRecDepth 20000
namespace Go.Proofs.YtpfehnopghffjaaGreatDoor
open Go
open room files
namespace files
theorem done_first {d : Disk} {S : List disk.Put} (hc : disk.checkF d = 0) (hS : OkPuts d S) (hl : d.waits.length + S.length ≤ 4096) : ∃ x, disk.doF d (putA S ++ flushS S) = (x, 0) ∧ disk.checkF x = 0 ∧ x.count = d.count ∧ x.waits.length ≤ d.waits.length ∧ ∀ n, 0 ≤ n → n < d.count → disk.readF x n = match disk.lastOf S n with | some b => b | none => disk.readF d n := by
  by_cases hs : S = []
  · subst hs
    refine ⟨d, ?_, hc, rfl, Nat.le_refl _, fun n _ _ => by rw [lastOf_none (fun p hp => by cases hp)]⟩
    unfold disk.doF
    rw [if_neg (fun h => h hc)]
    rfl
  · obtain ⟨h1, h2⟩ := do_puts S hc hS hl
    obtain ⟨y, h3, h4, h5, h6, h7⟩ := do_flush h2
    refine ⟨y, ?_, h4, h5, by rw [h6]; exact Nat.zero_le _, fun n h0 hn => ?_⟩
    · have e : flushS S = [flushA] := by unfold flushS; rw [if_neg hs]
      rw [e, disk.doF_first_ok h1]
      exact h3
    · rw [h7 n h0 hn, read_wait_app]
      cases disk.lastOf S n <;> rfl
theorem do_all {d : Disk} {S D : List disk.Put} (hc : disk.checkF d = 0) (hS : OkPuts d S) (hD : OkPuts d D) (hl : d.waits.length + S.length + D.length ≤ 4096) : ∃ y, disk.doF d (actsSD S D) = (y, 0) ∧ disk.checkF y = 0 ∧ y.count = d.count ∧ y.waits = [] ∧ ∀ n, 0 ≤ n → n < d.count → disk.readF y n = match disk.lastOf D n with | some b => b | none => match disk.lastOf S n with | some b => b | none => disk.readF d n := by
  obtain ⟨x, h1, h2, h3, h4, h5⟩ := done_first hc hS (by omega)
  obtain ⟨k1, k2⟩ := do_puts D h2 (ok_same hD h3) (by omega)
  obtain ⟨y, m1, m2, m3, m4, m5⟩ := do_flush k2
  have hyc : y.count = d.count := m3.trans h3
  refine ⟨y, ?_, m2, hyc, m4, fun n h0 hn => ?_⟩
  · unfold actsSD
    rw [List.append_assoc, disk.doF_first_ok h1, disk.doF_first_ok k1]
    exact m1
  · have hn' : n < x.count := by rw [h3]; exact hn
    rw [m5 n h0 hn', read_wait_app]
    cases disk.lastOf D n with
    | some b => rfl
    | none => exact h5 n h0 hn
theorem Turned.doneR {d : Disk} {l : List Change} {N : List New1} {b : Bs} (h : Turned d l N b) (hl : (d.waits.length : Int) + d.count + 8 ≤ 4096) : ∃ x, disk.doF d (turnF d l).1 = (x, 0) ∧ disk.checkF x = 0 ∧ x.count = d.count ∧ x.waits = [] ∧ (mountF x = (turnD d (mountF d).1 (mountF d).2.1 (keepN (mountF d).1 l ++ N.map fileOf), 8 - (mountF d).2.1, 0) ∧ Holds x (map2F d l)) ∧ ∀ i, i < 8 → disk.readF x (((mountF d).2.1 + i : Nat) : Int) = disk.readF d (((mountF d).2.1 + i : Nat) : Int) := by
  have hc := (mount_may h.mt).1
  have h2 := (mount_may h.mt).2.1
  have h3 := h.at_
  have hDl : (dirP b (8 - (mountF d).2.1)).length = 8 := by unfold dirP; simp
  have hSl := h.okS.2.2
  rw [h.acts]
  obtain ⟨y, k1, k2, k3, k4, k5⟩ := do_all hc h.putsS h.putsD (by omega)
  refine ⟨y, k1, k2, k3, k4, h.behind k2 k3 (fun n h0 hn hno => ?_) (fun i hi => ?_), fun i hi => ?_⟩
  · rw [k5 n h0 hn, lastOf_none (dirP_none hno)]
    rfl
  · rw [k5 _ (by omega) (by omega), dirP_last hi]
  · rw [k5 _ (by omega) (by omega), lastOf_none (dirP_none (by omega)), lastOf_none (fun p hp e => by have := (h.okS.1 p hp).1; omega)]
theorem Turned.done {d : Disk} {l : List Change} {N : List New1} {b : Bs} (h : Turned d l N b) (hl : (d.waits.length : Int) + d.count + 8 ≤ 4096) : ∃ x, disk.doF d (turnF d l).1 = (x, 0) ∧ disk.checkF x = 0 ∧ x.count = d.count ∧ x.waits = [] ∧ mountF x = (turnD d (mountF d).1 (mountF d).2.1 (keepN (mountF d).1 l ++ N.map fileOf), 8 - (mountF d).2.1, 0) ∧ Holds x (map2F d l) := by
  obtain ⟨y, k1, k2, k3, k4, ⟨k5, k6⟩, _⟩ := h.doneR hl
  exact ⟨y, k1, k2, k3, k4, k5, k6⟩
theorem small_done {d : Disk} (h : disk.checkF d = 0) (h2 : largeL d = false) : (d.waits.length : Int) + d.count + 8 ≤ 4096 := by
  obtain ⟨h3, h4, h5⟩ := largeL_not h2
  unfold disk.checkF at h
  split at h
  · cases h
  · rename_i hn
    have := h5 (by omega) (by omega)
    omega
theorem turn_nil {d : Disk} {l : List Change} (h : ¬ (turnF d l).2 = 0) : (turnF d l).1 = [] := by
  unfold turnF at h ⊢
  repeat' split
  all_goals first | rfl | skip
  exfalso
  apply h
  repeat' split
  all_goals first | contradiction | rfl
theorem turn_done {d : Disk} {l : List Change} (h : (turnF d l).2 = 0) (h2 : largeL d = false) : ∃ x, disk.doF d (turnF d l).1 = (x, 0) ∧ x.waits = [] ∧ Holds x (map2F d l) := by
  obtain ⟨N, b, ht⟩ := turned_of h
  obtain ⟨x, k1, _, _, k4, _, k6⟩ := ht.done (small_done (mount_may ht.mt).1 h2)
  exact ⟨x, k1, k4, k6⟩
/-! how much room there is -/
theorem sumN_two {a b : Nat → Int} : ∀ {n : Nat}, (∀ k, k < n → a k + b k = if 80 ≤ k then 1 else 0) → sumN a n + sumN b n = ((n - 80 : Nat) : Int)
  | 0, _ => rfl
  | n + 1, h => by
    have ih := sumN_two (n := n) (fun k hk => h k (by omega))
    have h1 := h n (by omega)
    rw [sumN, sumN]
    by_cases h8 : 80 ≤ n
    · rw [if_pos h8] at h1; omega
    · rw [if_neg h8] at h1; omega
theorem cnt_low {l : List Piece} (h : ∀ p ∈ l, 80 ≤ p.fr) {k : Nat} (hk : k < 80) : cnt l k = 0 := by
  induction l with
  | nil => rfl
  | cons p l ih =>
    rw [cnt, ih (fun q hq => h q (List.mem_cons_of_mem _ hq))]
    have := h p (List.mem_cons_self)
    unfold inP
    rw [if_neg (by omega)]
    rfl
theorem room_total {d : Disk} (h : (mountF d).2.2 = 0) : roomF d = (d.count - 80 - totalF (allP (mountF d).1.fs), 0) := by
  obtain ⟨hck, h96, h32, hmay, hckr, hup⟩ := mount_may h
  obtain ⟨c1, c2, c3, c4⟩ := check_ok hckr
  obtain ⟨n, hn⟩ : ∃ n : Nat, d.count = (n : Int) := ⟨d.count.toNat, by omega⟩
  rw [roomF_0 h, hn]
  rw [hn] at hckr c1 c2 c4 h96
  have hfe : freeE 80 (n : Int) (allP (mountF d).1.fs) = 0 := by rw [freeE_c (by omega)]; exact hckr
  rw [freeL_ok hfe]
  show (totalF (freeF 80 n (allP (mountF d).1.fs)), (0 : Int)) = _
  have hR := runs_may (f := fun k => !covB (allP (mountF d).1.fs) k) (a := 80) (n := n - 80) (N := n) (by omega) _ rfl
  have hlow : ∀ p ∈ freeF 80 n (allP (mountF d).1.fs), 80 ≤ p.fr := fun p hp => (free_runs (l := allP (mountF d).1.fs) (by omega : 80 ≤ n)).pos p hp |>.2.1
  have h1 := total_sum (n := n) (l := freeF 80 n (allP (mountF d).1.fs)) hR.1
  have h2 := total_sum (n := n) c4.1
  have h3 := sumN_two (a := cnt (allP (mountF d).1.fs)) (b := cnt (freeF 80 n (allP (mountF d).1.fs))) (n := n) (fun k hk => by
    by_cases h8 : 80 ≤ k
    · rw [if_pos h8]; exact (whole (by omega) c4 hk).2 h8
    · rw [if_neg h8, cnt_low hmay.2.2.1 (by omega), cnt_low hlow (by omega)]; rfl)
  rw [h1, h2]
  refine Prod.ext ?_ rfl
  show _ = (n : Int) - 80 - _
  omega
def sumS : List File → Int
  | [] => 0
  | f :: l => needF f.size + sumS l
theorem sumS_append (a b : List File) : sumS (a ++ b) = sumS a + sumS b := by
  induction a with
  | nil => simp [sumS]
  | cons f a ih => rw [List.cons_append, sumS, sumS, ih]; omega
theorem sumS_perm {a b : List File} (h : a.Perm b) : sumS a = sumS b := by
  induction h with
  | nil => rfl
  | cons x _ ih => rw [sumS, sumS, ih]
  | swap x y l => simp only [sumS]; omega
  | trans _ _ h1 h2 => exact h1.trans h2
theorem totalF_sum : ∀ l : List Piece, totalF l = (l.map (·.ct)).sum
  | [] => rfl
  | p :: l => by rw [totalF, totalF_sum l, List.map_cons, List.sum_cons]
theorem all_sum {l : List File} (h : ∀ f ∈ l, totalF f.ps = needF f.size) : totalF (allP l) = sumS l := by
  induction l with
  | nil => rfl
  | cons f l ih =>
    show totalF (f.ps ++ allP l) = _
    rw [total_append, h f (List.mem_cons_self), ih (fun g hg => h g (List.mem_cons_of_mem _ hg)), sumS]
theorem may_all {x : Dir} (h : mayD x) : totalF (allP x.fs) = sumS x.fs := by
  refine all_sum (fun f hf => ?_)
  obtain ⟨i, hi, rfl⟩ := List.getElem_of_mem hf
  have h1 := (h.2.2.2 i hi).2.2.2.2
  have hsub : List.Sublist x.fs[i].ps (allP x.fs) := by
    unfold allP
    rw [List.flatMap_def]
    exact List.sublist_flatten_of_mem (List.mem_map.2 ⟨_, hf, rfl⟩)
  have hck : checkR 4096 x.fs[i].ps = 0 := by
    obtain ⟨_, _, c3, c4⟩ := check_ok h.2.1
    have := hsub.length_le
    exact check_0 (by omega) (by omega) (may_sub hsub c4)
  unfold manyF at h1
  rw [if_pos hck] at h1
  rw [totalF_sum, h1]
def goneL (s : Bs) (g : Int) (l : List File) : Int := l.foldl (fun g f => if f.name = s then needF f.size else g) g
theorem goneL_step {s : Bs} {g : Int} {l : List File} {i : Nat} (h : i < l.length) : goneL s g (l.take (i + 1)) = if l[i].name = s then needF l[i].size else goneL s g (l.take i) := by
  unfold goneL
  rw [List.take_succ_eq_append_getElem h, List.foldl_append]
  rfl
theorem sumS_step {l : List File} {i : Nat} (h : i < l.length) : sumS (l.take (i + 1)) = sumS (l.take i) + needF l[i].size := by
  rw [List.take_succ_eq_append_getElem h, sumS_append]
  simp [sumS]
theorem sumS_bd {l : List File} (h : ∀ f ∈ l, 0 ≤ f.size ∧ f.size ≤ 524288) : 0 ≤ sumS l ∧ sumS l ≤ 4096 * (l.length : Int) := by
  induction l with
  | nil => simp [sumS]
  | cons f l ih =>
    have h1 := h f (List.mem_cons_self)
    have h2 := ih (fun g hg => h g (List.mem_cons_of_mem _ hg))
    rw [sumS, List.length_cons]
    unfold needF
    omega
theorem gone_none {s : Bs} : ∀ {l : List File} {g : Int}, (∀ f ∈ l, ¬ f.name = s) → goneL s g l = g
  | [], g, _ => rfl
  | f :: l, g, h => by
    show goneL s (if f.name = s then needF f.size else g) l = g
    rw [if_neg (h f (List.mem_cons_self))]
    exact gone_none (fun x hx => h x (List.mem_cons_of_mem _ hx))
theorem gone_some {s : Bs} : ∀ {l : List File} {g : Int}, l.Pairwise (fun a b => a.name ≠ b.name) → ∀ f ∈ l, f.name = s → goneL s g l = needF f.size ∧ sumS (l.filter (fun x => !decide (x.name ∈ [s]))) = sumS l - needF f.size
  | x :: l, g, hp, f, hf, hn => by
    obtain ⟨h1, h2⟩ := List.pairwise_cons.1 hp
    show goneL s (if x.name = s then needF x.size else g) l = _ ∧ _
    rcases List.mem_cons.1 hf with rfl | hf
    · rw [if_pos hn]
      have hno : ∀ y ∈ l, ¬ y.name = s := fun y hy e => h1 y hy (by rw [e, hn])
      refine ⟨gone_none hno, ?_⟩
      rw [List.filter_cons_of_neg (by simp [hn]), List.filter_eq_self.2 (fun y hy => by simpa using hno y hy), sumS]
      omega
    · have hx : ¬ x.name = s := fun e => h1 f hf (by rw [e, hn])
      rw [if_neg hx]
      obtain ⟨h3, h4⟩ := gone_some (g := g) h2 f hf hn
      refine ⟨h3, ?_⟩
      rw [List.filter_cons_of_pos (by simpa using hx), sumS, sumS, h4]
      omega
theorem turned_ok2 {d : Disk} {l : List Change} (h : (turnedF d l).2 = 0) : (turnF d l).2 = 0 := Decidable.byContradiction fun k => by
  unfold turnedF at h
  rw [if_pos k] at h
  exact k h
theorem gone_there {d : Disk} {s : Bs} (h : (turnedF d [⟨s, [], true⟩]).2 = 0) : ∃ f ∈ (mountF d).1.fs, f.name = s := by
  obtain ⟨N, b, ht⟩ := turned_of (turned_ok2 h)
  have h1 := ((wrongF_0 ht.wr).2.1 _ (List.mem_singleton.2 rfl)).2 rfl
  refine Classical.byContradiction fun h2 => h1 (find_neg.2 (fun f hf e => h2 ⟨f, hf, e⟩))
theorem gone_room {d : Disk} {s : Bs} (h : (turnedF d [⟨s, [], true⟩]).2 = 0) (hl : (d.waits.length : Int) + d.count + 8 ≤ 4096) {f : File} (hf : f ∈ (mountF d).1.fs) (hn : f.name = s) : roomF (turnedF d [⟨s, [], true⟩]).1 = ((roomF d).1 + needF f.size, 0) := by
  have h0 := turned_ok2 h
  obtain ⟨N, b, ht⟩ := turned_of h0
  have hN : N = [] := List.map_eq_nil_iff.1 (ht.fr.trans rfl)
  subst hN
  obtain ⟨x, k1, k2, k3, k4, k5, k6⟩ := ht.done hl
  have e : turnedF d [⟨s, [], true⟩] = (x, 0) := by unfold turnedF; rw [if_neg (fun k => k h0), k1]
  have hm : (mountF x).2.2 = 0 := by rw [k5]
  obtain ⟨_, _, _, hmay, _, hup⟩ := mount_may ht.mt
  have hmx := (mount_may hm).2.2.2.1
  rw [e, room_total hm, room_total ht.mt, k3, may_all hmx, may_all hmay]
  have hfs : (mountF x).1.fs = sortN (keepN (mountF d).1 [⟨s, [], true⟩] ++ []) := by rw [k5]; rfl
  rw [hfs, List.append_nil, sumS_perm sortN_perm]
  have := (gone_some (s := s) (g := 0) (up_ne hup) f hf hn).2
  have hk : keepN (mountF d).1 [⟨s, [], true⟩] = (mountF d).1.fs.filter (fun x => !decide (x.name ∈ [s])) := rfl
  rw [hk, this]
  refine Prod.ext ?_ rfl
  show _ - _ - (_ - _) = _ - _ - _ + _
  omega
end files
end Go.Proofs.YtpfehnopghffjaaGreatDoor
