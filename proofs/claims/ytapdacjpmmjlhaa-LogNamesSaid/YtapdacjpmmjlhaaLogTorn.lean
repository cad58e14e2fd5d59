
/-
  Layer 5, plain: what a log is when some of the sectors of new records are there and some are not.
-/
import Derived.Test.YtapdacjpmmjlhaaLogPlain
set_option linter.unusedVariables false
set_option linter.unusedSimpArgs false
namespace Go.Proofs.Ytapdacjpmmjlhaa
open Go disk
namespace log
def sec (d : Disk) (q : Nat) : Bs := readF d ((17 + q : Nat) : Int)
theorem body_secs (d : Disk) (k : Nat) : bodyTo d k = secs (sec d) k := rfl
/-- a record stands at a place -/
structure V (f : Nat → Bs) (E p : UInt32) (a : Nat) (r : Bs) (s : UInt32) : Prop where
  hE : ¬ E = 0
  hs : ¬ s = 0
  hr : r.length ≤ 4096
  fit : a + needs r.length ≤ 63
  at' : ∀ q, q < needs r.length → f (a + q) = sectorOf E s p r (needs r.length) q
def Stop (f : Nat → Bs) (E p : UInt32) (a : Nat) : Prop := ∀ r s, ¬ V f E p a r s
def tailB (f : Nat → Bs) (a : Nat) : Bs := secs (fun i => f (a + i)) (63 - a)
section
variable {f g N : Nat → Bs} {E p p' s : UInt32} {a a' : Nat} {r : Bs} {rs : List Bs}
theorem tailB_drop (hl : ∀ i, i < 63 → (f i).length = 128) {n : Nat} (h : a + n ≤ 63) : (tailB f a).drop (n * 128) = tailB f (a + n) := by
  unfold tailB
  rw [show 63 - a = n + (63 - (a + n)) by omega, secs_drop (fun i hi => hl _ (by omega))]
  exact secs_congr (fun i hi => by rw [Nat.add_assoc])
theorem tailB_length (hl : ∀ i, i < 63 → (f i).length = 128) : (tailB f a).length = (63 - a) * 128 := secs_length (fun i hi => hl _ (by omega))
theorem open_V (hl : ∀ i, i < 63 → (f i).length = 128) (h : V f E p a r s) : openF E p (tailB f a) = (r, s, needs r.length, 0) := by
  obtain ⟨hE, hs, hr, hf, hat⟩ := h
  have e : tailB f a = frameL E s p r ++ secs (fun i => f (a + (needs r.length + i))) (63 - (a + needs r.length)) := by
    unfold tailB
    rw [show 63 - a = needs r.length + (63 - (a + needs r.length)) by omega, secs_add]
    congr 1
    rw [frameL, frame_secs]
    exact secs_congr hat
  rw [e]
  exact open_frame hE hs hr
theorem V_open (hl : ∀ i, i < 63 → (f i).length = 128) (ha : a ≤ 63) (h : ¬ (openF E p (tailB f a)).2.2.1 = 0) : ∃ r s, V f E p a r s := by
  obtain ⟨r, s, h1, hE, hs, hr, hf, ht⟩ := open_some h
  rw [tailB_length hl] at hf
  have hfit : a + needs r.length ≤ 63 := by omega
  refine ⟨r, s, hE, hs, hr, hfit, fun q hq => ?_⟩
  have h2 : secAt (tailB f a) q = f (a + q) := secAt_secs (f := fun i => f (a + i)) (fun i hi => hl _ (by omega)) (by omega)
  have h3 : secAt (tailB f a) q = secAt ((tailB f a).take (needs r.length * 128)) q := by
    unfold secAt
    rw [List.drop_take, List.take_take, Nat.min_eq_left (by omega)]
  rw [← h2, h3, ht]
  exact secAt_frame _ _ _ _ _ _ _ hq
theorem open_stop (hl : ∀ i, i < 63 → (f i).length = 128) (ha : a ≤ 63) (h : Stop f E p a) : (openF E p (tailB f a)).2.2.1 = 0 := by
  refine Decidable.byContradiction (fun hh => ?_)
  obtain ⟨r, s, hv⟩ := V_open hl ha hh
  exact h r s hv
inductive Chain (f : Nat → Bs) (E : UInt32) : UInt32 → Nat → List Bs → UInt32 → Nat → Prop where
  | nil {p : UInt32} {a : Nat} : Chain f E p a [] p a
  | cons {p : UInt32} {a : Nat} {r : Bs} {s : UInt32} {rs : List Bs} {p' : UInt32} {a' : Nat} : V f E p a r s → Chain f E s (a + needs r.length) rs p' a' → Chain f E p a (r :: rs) p' a'
theorem Chain.le (h : Chain f E p a rs p' a') : a ≤ a' := by induction h with
  | nil => exact Nat.le_refl _
  | cons _ _ ih => omega
theorem Chain.top (h : Chain f E p a rs p' a') (ha : a ≤ 63) : a' ≤ 63 := by induction h with
  | nil => exact ha
  | cons hv _ ih => exact ih hv.fit
theorem Chain.congr (h : Chain f E p a rs p' a') (hg : ∀ q, a ≤ q → q < a' → g q = f q) : Chain g E p a rs p' a' := by induction h with
  | nil => exact .nil
  | cons hv hc ih =>
    have := hc.le
    exact .cons ⟨hv.hE, hv.hs, hv.hr, hv.fit, fun q hq => by rw [hg _ (by omega) (by omega)]; exact hv.at' q hq⟩ (ih (fun q h1 h2 => hg q (by omega) h2))
theorem Chain.append {rs2 : List Bs} {p2 : UInt32} {a2 : Nat} (h : Chain f E p a rs p' a') (h2 : Chain f E p' a' rs2 p2 a2) : Chain f E p a (rs ++ rs2) p2 a2 := by induction h with
  | nil => exact h2
  | cons hv _ ih => exact .cons hv (ih h2)
theorem scan_of (hl : ∀ i, i < 63 → (f i).length = 128) (h : Chain f E p a rs p' a') (hs : Stop f E p' a') : ∀ {k : Nat}, a ≤ 63 → 63 ≤ k + a → scan E k p (tailB f a) = (rs, p', a' - a) := by
  induction h with
  | nil =>
    intro k ha hk
    rw [scan_end (open_stop hl ha hs), Nat.sub_self]
  | @cons p a r s rs p' a' hv hc ih =>
    intro k ha hk
    have hn := needs_pos r.length
    have hf := hv.fit
    have hle := hc.le
    obtain ⟨k, rfl⟩ : ∃ j, k = j + 1 := ⟨k - 1, by omega⟩
    have ho := open_V hl hv
    rw [scan_more (by rw [ho]; show ¬ needs r.length = 0; omega), ho]
    show (r :: (scan E k s ((tailB f a).drop (needs r.length * 128))).1, (scan E k s ((tailB f a).drop (needs r.length * 128))).2.1, needs r.length + (scan E k s ((tailB f a).drop (needs r.length * 128))).2.2) = _
    rw [tailB_drop hl hf, ih hs hf (by omega)]
    show (r :: rs, p', needs r.length + (a' - (a + needs r.length))) = _
    rw [show needs r.length + (a' - (a + needs r.length)) = a' - a by omega]
theorem of_scan (hl : ∀ i, i < 63 → (f i).length = 128) : ∀ (k : Nat) {p : UInt32} {a : Nat}, a ≤ 63 → 63 ≤ k + a → ∃ rs p' a', Chain f E p a rs p' a' ∧ Stop f E p' a' ∧ a' ≤ 63 := by
  intro k
  induction k with
  | zero =>
    intro p a ha hk
    exact ⟨[], p, a, .nil, fun r s hv => by have := hv.fit; have := needs_pos r.length; omega, ha⟩
  | succ k ih =>
    intro p a ha hk
    by_cases h : ∃ r s, V f E p a r s
    · obtain ⟨r, s, hv⟩ := h
      have hn := needs_pos r.length
      obtain ⟨rs, p', a', h1, h2, h3⟩ := ih (p := s) hv.fit (by omega)
      exact ⟨r :: rs, p', a', .cons hv h1, h2, h3⟩
    · exact ⟨[], p, a, .nil, fun r s hv => h ⟨r, s, hv⟩, ha⟩
/-- how many sectors records need -/
def tot : List Bs → Nat
  | [] => 0
  | r :: l => needs r.length + tot l
/-- records added one behind the other to what f shows: N is what they write -/
inductive Adds (f : Nat → Bs) (E : UInt32) (N : Nat → Bs) : UInt32 → Nat → List Bs → Prop where
  | nil {p : UInt32} {a : Nat} : Adds f E N p a []
  | cons {p : UInt32} {a : Nat} {r : Bs} {s : UInt32} {rs : List Bs} : V N E p a r s → (∀ q, a ≤ q → q < 63 → get4 (f q) = E → (get4 ((f q).drop 4)).toNat < s.toNat ∧ (get4 ((f q).drop 8)).toNat < s.toNat) → Adds f E N s (a + needs r.length) rs → Adds f E N p a (r :: rs)
theorem adds_idx {l : List Bs} (h : Adds f E N p a l) : ∀ q, a ≤ q → q < a + tot l → ∃ t, (N q).getD 12 0 = UInt8.ofNat t ∧ a + t ≤ q := by induction h with
  | nil => intro q h1 h2; simp [tot] at h2; omega
  | @cons p a r s rs hv _ _ ih =>
    intro q h1 h2
    rcases Nat.lt_or_ge q (a + needs r.length) with h3 | h3
    · refine ⟨q - a, ?_, by omega⟩
      have := hv.at' (q - a) (by omega)
      rw [show a + (q - a) = q by omega] at this
      rw [this, sector_12]
    · obtain ⟨t, h4, h5⟩ := ih q h3 (by simp only [tot] at h2; omega)
      exact ⟨t, h4, by omega⟩
theorem adds_fit {l : List Bs} (h : Adds f E N p a l) (ha : a ≤ 63) : a + tot l ≤ 63 := by induction h with
  | nil => simpa [tot] using ha
  | cons hv _ _ ih => have := ih hv.fit; simp only [tot]; omega
theorem torn {l : List Bs} (h : Adds f E N p a l) (hg : ∀ q, a ≤ q → q < 63 → g q = f q ∨ (q < a + tot l ∧ g q = N q)) (hst : Stop f E p a ∨ ∀ q, a ≤ q → q < 63 → get4 (f q) = E → ¬ get4 ((f q).drop 8) = p) :
    ∃ m p' a', m ≤ l.length ∧ Chain g E p a (l.take m) p' a' ∧ Stop g E p' a' ∧ (∀ j, j ≤ l.length → (∀ q, a ≤ q → q < a + tot (l.take j) → g q = N q) → j ≤ m) ∧ a' = a + tot (l.take m) := by
  induction h with
  | @nil p a =>
    refine ⟨0, p, a, Nat.le_refl _, .nil, ?_, fun j hj _ => by simpa using hj, rfl⟩
    have hsame : ∀ q, a ≤ q → q < 63 → g q = f q := fun q h1 h2 => (hg q h1 h2).elim id (fun h => by have := h.1; simp [tot] at this; omega)
    intro r s hv
    have hn := needs_pos r.length
    have hfit := hv.fit
    rcases hst with h | h
    · exact h r s ⟨hv.hE, hv.hs, hv.hr, hv.fit, fun q hq => by rw [← hsame _ (by omega) (by omega)]; exact hv.at' q hq⟩
    · have h0 := hv.at' 0 (by omega)
      rw [Nat.add_zero, hsame a (Nat.le_refl _) (by omega)] at h0
      exact h a (Nat.le_refl _) (by omega) (by rw [h0, sector_epoch]) (by rw [h0, sector_prev])
  | @cons p a r s rs hv hold hrest ih =>
    have hfit := hv.fit
    have hn := needs_bd hv.hr
    by_cases hall : ∀ q, q < needs r.length → g (a + q) = N (a + q)
    · have hv' : V g E p a r s := ⟨hv.hE, hv.hs, hv.hr, hv.fit, fun q hq => by rw [hall q hq]; exact hv.at' q hq⟩
      obtain ⟨m, p', a', h1, h2, h3, h4, h5⟩ := ih (fun q h1 h2 => (hg q (by omega) h2).elim .inl (fun h => .inr ⟨by have := h.1; simp only [tot] at this; omega, h.2⟩))
        (.inr (fun q h1 h2 he hp => by have := (hold q (by omega) h2 he).2; rw [hp] at this; omega))
      refine ⟨m + 1, p', a', by simpa using h1, .cons hv' h2, h3, fun j hj hq => ?_, by rw [h5, List.take_succ_cons, tot]; omega⟩
      cases j with
      | zero => omega
      | succ j =>
        have := h4 j (by simpa using hj) (fun q h1 h2 => hq q (by omega) (by rw [List.take_succ_cons, tot]; omega))
        omega
    · refine ⟨0, p, a, Nat.zero_le _, .nil, ?_, fun j hj hq => ?_, rfl⟩
      · intro r' s' hv'
        have hfit' := hv'.fit
        have hn' := needs_bd hv'.hr
        have hg0 := hv'.at' 0 (by omega)
        rw [Nat.add_zero] at hg0
        rcases hg a (Nat.le_refl _) (by omega) with h0 | ⟨_, h0⟩
        · -- the first one is old
          have hf0 : f a = sectorOf E s' p r' (needs r'.length) 0 := by rw [← h0]; exact hg0
          have hs' : s'.toNat < s.toNat := by have := (hold a (Nat.le_refl _) (by omega) (by rw [hf0, sector_epoch])).1; rwa [hf0, sector_salt] at this
          rcases hst with hst | hst
          · refine hst r' s' ⟨hv'.hE, hv'.hs, hv'.hr, hv'.fit, fun q hq => ?_⟩
            rcases hg (a + q) (by omega) (by omega) with h1 | ⟨h1, h2⟩
            · rw [← h1]; exact hv'.at' q hq
            · exfalso
              have hq2 := hv'.at' q hq
              rw [h2] at hq2
              rcases Nat.lt_or_ge q (needs r.length) with h3 | h3
              · have h4 := hv.at' q h3
                rw [h4] at hq2
                have h5 := congrArg (fun l => get4 (l.drop 4)) hq2
                simp only [sector_salt] at h5
                rw [h5] at hs'
                omega
              · obtain ⟨t, h4, h5⟩ := adds_idx hrest (a + q) (by omega) (by simp only [tot] at h1; omega)
                rw [hq2, sector_12] at h4
                have h6 := congrArg UInt8.toNat h4
                rw [UInt8.toNat_ofNat', UInt8.toNat_ofNat'] at h6
                omega
          · exact hst a (Nat.le_refl _) (by omega) (by rw [hf0, sector_epoch]) (by rw [hf0, sector_prev])
        · -- the first one is new
          have hN0 := hv.at' 0 (by omega)
          rw [Nat.add_zero, ← h0, hg0] at hN0
          have e13 := congrArg (fun l => (l.getD 13 0).toNat) hN0
          simp only [sector_13, UInt8.toNat_ofNat'] at e13
          have es := congrArg (fun l => get4 (l.drop 4)) hN0
          simp only [sector_salt] at es
          refine hall (fun q hq => ?_)
          rcases hg (a + q) (by omega) (by omega) with h1 | ⟨_, h1⟩
          · exfalso
            have hq2 := hv'.at' q (by omega)
            rw [h1] at hq2
            have := (hold (a + q) (by omega) (by omega) (by rw [hq2, sector_epoch])).1
            rw [hq2, sector_salt, es] at this
            omega
          · exact h1
      · cases j with
        | zero => exact Nat.le_refl _
        | succ j => exact absurd (fun q hq2 => hq (a + q) (by omega) (by rw [List.take_succ_cons, tot]; omega)) hall
end
section
variable {d : Disk}
theorem sec_length (h : checkF d = 0) (hc : 80 ≤ d.count) : ∀ i, i < 63 → (sec d i).length = 128 := fun i hi => readF_length h (by omega) (by omega)
theorem state_of {rs : List Bs} {p : UInt32} {a : Nat} (h : thereF d = 0) (h2 : ¬ headF d = 0) (hc : Chain (sec d) (headF d) 0 0 rs p a) (hs : Stop (sec d) (headF d) p a) : stateF d = (⟨headF d, p, rs, a⟩, 0) := by
  obtain ⟨h3, h4⟩ := there_ok h
  rw [state_good h h2, scanD_eq]
  have e : bodyTo d 63 = tailB (sec d) 0 := secs_congr (fun i _ => by rw [Nat.zero_add]; rfl)
  rw [e, scan_of (sec_length h3 h4) hc hs (Nat.zero_le _) (by rw [fu_eq]; omega), Nat.sub_zero]
theorem state_chain (h : (stateF d).2 = 0) : thereF d = 0 ∧ ¬ headF d = 0 ∧ (stateF d).1.epoch = headF d ∧ Chain (sec d) (headF d) 0 0 (stateF d).1.recs (stateF d).1.last (stateF d).1.at' ∧ Stop (sec d) (headF d) (stateF d).1.last (stateF d).1.at' ∧ (stateF d).1.at' ≤ 63 := by
  obtain ⟨h1, h2, h3, h4, h5, h6⟩ := state_ok h
  obtain ⟨rs, p, a, c1, c2, c3⟩ := of_scan (E := headF d) (sec_length h2 h3) 63 (p := 0) (a := 0) (Nat.zero_le _) (by omega)
  have e := state_of h1 h4 c1 c2
  rw [e]
  exact ⟨h1, h4, rfl, c1, c2, c3⟩
theorem saltTo_ge (E : UInt32) (a : Nat) : ∀ (k q : Nat), a ≤ q → q < a + k → get4 (sec d q) = E → (get4 ((sec d q).drop 4)).toNat ≤ (saltTo d E a k).toNat ∧ (get4 ((sec d q).drop 8)).toNat ≤ (saltTo d E a k).toNat
  | 0, q, h1, h2, _ => by omega
  | k + 1, q, h1, h2, h3 => by
    rw [saltTo_succ]
    rcases Nat.lt_or_ge q (a + k) with h4 | h4
    · have h5 := saltTo_ge E a k q h1 h4 h3
      by_cases he : get4 (readF d ((17 + (a + k) : Nat) : Int)) = E
      · rw [saltStep_T he, u32_max_nat, u32_max_nat]; omega
      · rw [saltStep_F he]; exact h5
    · obtain rfl : q = a + k := by omega
      have h3' : get4 (readF d ((17 + (a + k) : Nat) : Int)) = E := h3
      rw [saltStep_T h3', u32_max_nat, u32_max_nat]
      unfold sec
      omega
/-- what is added stands there, behind the acts -/
theorem epochTo_ge : ∀ (k : Nat), (headF d).toNat ≤ (epochTo d k).toNat ∧ ∀ q, q < k → (get4 (sec d q)).toNat ≤ (epochTo d k).toNat
  | 0 => ⟨Nat.le_refl _, fun q hq => absurd hq (Nat.not_lt_zero _)⟩
  | k + 1 => by
    obtain ⟨h1, h2⟩ := epochTo_ge k
    have e : epochTo d (k + 1) = max (epochTo d k) (get4 (sec d k)) := rfl
    rw [e, u32_max_nat]
    refine ⟨by omega, fun q hq => ?_⟩
    rcases Nat.lt_or_ge q k with h3 | h3
    · have := h2 q h3; omega
    · obtain rfl : q = k := by omega
      omega
end
end log
end Go.Proofs.Ytapdacjpmmjlhaa
