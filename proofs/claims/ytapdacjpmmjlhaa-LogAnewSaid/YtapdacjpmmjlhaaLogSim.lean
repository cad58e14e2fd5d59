
/-
  Layer 5, plain: records added one behind the other, the power lost somewhere.
-/
import Derived.Test.YtapdacjpmmjlhaaLaw05d
set_option linter.unusedVariables false
set_option linter.unusedSimpArgs false
namespace Go.Proofs.Ytapdacjpmmjlhaa
open Go disk
namespace log
def flushAct : disk.Act := ⟨true, ⟨0, []⟩⟩
noncomputable def addA (d : Disk) (r : Bs) (fl : Bool) : List disk.Act := (addF d r).1 ++ if fl = true then [flushAct] else []
noncomputable def addL : Disk → List (Bs × Bool) → List disk.Act × Bool
  | _, [] => ([], true)
  | d, (r, fl) :: l =>
    if ¬ (addF d r).2 = 0 then ([], false)
    else if ¬ (doF d (addA d r fl)).2 = 0 then ([], false)
    else if (addL (doF d (addA d r fl)).1 l).2 = true then (addA d r fl ++ (addL (doF d (addA d r fl)).1 l).1, true) else ([], false)
theorem state_congr {x y : Disk} (hx : checkF x = 0) (hy : checkF y = 0) (hc : y.count = x.count) (h80 : 80 ≤ x.count) (h : ∀ n : Int, 0 ≤ n → n < x.count → readF y n = readF x n) : stateF y = stateF x := by
  have e1 : thereF y = thereF x := by rw [there_of hx h80, there_of hy (by rw [hc]; exact h80)]
  have e2 : headF y = headF x := headF_congr (h 16 (by omega) (by omega))
  have e3 : bodyTo y 63 = bodyTo x 63 := by
    rw [body_secs, body_secs]
    exact secs_congr (fun i hi => h _ (by omega) (by omega))
  have e4 : scanD y = scanD x := by rw [scanD_eq, scanD_eq, e2, e3]
  unfold stateF
  rw [e1, e2, e4]
theorem Adds.congr {f f' N N' : Nat → Bs} {E p : UInt32} {a : Nat} {l : List Bs} (h : Adds f E N p a l) : (∀ q, a ≤ q → q < 63 → f' q = f q) → (∀ q, a ≤ q → q < 63 → N' q = N q) → Adds f' E N' p a l := by
  induction h with
  | nil => intro _ _; exact .nil
  | @cons p a r s rs hv hold _ ih =>
    intro h1 h2
    have hf := hv.fit
    exact .cons ⟨hv.hE, hv.hs, hv.hr, hv.fit, fun q hq => by rw [h2 _ (by omega) (by omega)]; exact hv.at' q hq⟩ (fun q q1 q2 q3 => by rw [h1 q q1 q2] at q3 ⊢; exact hold q q1 q2 q3) (ih (fun q q1 q2 => h1 q (by omega) q2) (fun q q1 q2 => h2 q (by omega) q2))
def putsOf (N : Nat → Bs) (b k : Nat) : List disk.Act := (List.range k).map (fun i => ⟨false, ⟨((17 + (b + i) : Nat) : Int), N (b + i)⟩⟩)
theorem putsOf_succ (N : Nat → Bs) (b k : Nat) : putsOf N b (k + 1) = putsOf N b k ++ [⟨false, ⟨((17 + (b + k) : Nat) : Int), N (b + k)⟩⟩] := by unfold putsOf; rw [List.range_succ, List.map_append]; rfl
theorem putsOf_length (N : Nat → Bs) (b k : Nat) : (putsOf N b k).length = k := by simp [putsOf]
theorem putsOf_take (N : Nat → Bs) (b : Nat) {n k : Nat} (h : n ≤ k) : (putsOf N b k).take n = putsOf N b n := by
  unfold putsOf
  rw [← List.map_take, List.take_range, Nat.min_eq_left h]
theorem putsOf_congr {N N' : Nat → Bs} {b k : Nat} (h : ∀ q, b ≤ q → q < b + k → N' q = N q) : putsOf N' b k = putsOf N b k := by
  unfold putsOf
  refine List.map_congr_left (fun i hi => ?_)
  rw [h _ (by omega) (by have := List.mem_range.1 hi; omega)]
inductive Str (N : Nat → Bs) : Nat → List (Bs × Bool) → List disk.Act → Prop where
  | nil {a : Nat} : Str N a [] []
  | cons {a : Nat} {r : Bs} {fl : Bool} {l : List (Bs × Bool)} {acts : List disk.Act} : Str N (a + needs r.length) l acts → Str N a ((r, fl) :: l) (putsOf N a (needs r.length) ++ (if fl = true then [flushAct] else []) ++ acts)
theorem Str.congr {N N' : Nat → Bs} {a : Nat} {l : List (Bs × Bool)} {acts : List disk.Act} (h : Str N a l acts) : (∀ q, a ≤ q → q < a + tot (l.map (·.1)) → N' q = N q) → Str N' a l acts := by
  induction h with
  | nil => intro _; exact .nil
  | @cons a r fl l acts _ ih =>
    intro h1
    have e := putsOf_congr (N := N) (N' := N') (b := a) (k := needs r.length) (fun q q1 q2 => h1 q q1 (by simp only [List.map_cons, tot]; omega))
    have := Str.cons (fl := fl) (r := r) (ih (fun q q1 q2 => h1 q (by omega) (by simp only [List.map_cons, tot]; omega)))
    rw [e] at this
    exact this
theorem actsTo_puts {E s p : UInt32} {r : Bs} {a : Nat} {N : Nat → Bs} (h : ∀ i, i < needs r.length → N (a + i) = sectorOf E s p r (needs r.length) i) : actsTo (17 + a) (frameL E s p r) (needs r.length) = putsOf N a (needs r.length) := by
  unfold actsTo putsOf
  refine List.map_congr_left (fun i hi => ?_)
  have hi := List.mem_range.1 hi
  rw [frame_at hi, h i hi, Nat.add_assoc]
theorem adds_of : ∀ {l : List (Bs × Bool)} {d : Disk} {acts : List disk.Act}, (stateF d).2 = 0 → addL d l = (acts, true) → d.waits.length + 37 * l.length ≤ 4000 →
    ∃ N, Adds (sec d) (stateF d).1.epoch N (stateF d).1.last (stateF d).1.at' (l.map (·.1)) ∧ Str N (stateF d).1.at' l acts
  | [], d, acts, hst, h, hw => by
    rw [addL] at h
    rw [← (Prod.mk.inj h).1]
    exact ⟨fun _ => [], .nil, .nil⟩
  | (r, fl) :: l, d, acts, hst, h, hw => by
    rw [addL] at h
    split at h
    · cases (Prod.mk.inj h).2
    · rename_i h1
      have h1 : (addF d r).2 = 0 := Decidable.byContradiction h1
      split at h
      · cases (Prod.mk.inj h).2
      · rename_i h2
        have h2 : (doF d (addA d r fl)).2 = 0 := Decidable.byContradiction h2
        split at h
        · rename_i h3
          obtain ⟨x0, s, g1, g2, g3, g4, g5, g6, g7, g8, g9, g10, g11, g12⟩ := grows h1 (by simp only [List.length_cons] at hw; omega)
          obtain ⟨hth, hh, he, _, _, _⟩ := state_chain hst
          obtain ⟨hck, hct⟩ := there_ok hth
          have hx : ∃ x, doF d (addA d r fl) = (x, 0) ∧ stateF x = stateF x0 ∧ x.waits.length ≤ d.waits.length + 37 ∧ ∀ q, q < 63 → sec x q = sec x0 q := by
            unfold addA
            cases fl with
            | false => exact ⟨x0, by simpa using g1, rfl, g4, fun q _ => rfl⟩
            | true =>
              refine ⟨settleD x0 (fun _ => true), ?_, ?_, Nat.zero_le _, fun q hq => ?_⟩
              · rw [if_pos rfl, do_snoc g1]; exact flush_ok g2
              · exact state_congr g2 (check_settle g2 _) rfl (by rw [g3]; exact hct) (fun n n1 n2 => by rw [readF_settle]; exact flush_read g2 n1 n2)
              · unfold sec; rw [readF_settle]; exact flush_read g2 (by omega) (by rw [g3]; omega)
          obtain ⟨x, e1, e2, e3, e4⟩ := hx
          rw [e1] at h3 h
          simp only at h3 h
          have hacts := (Prod.mk.inj h).1
          have ih := adds_of (l := l) (d := x) (acts := (addL x l).1) (by rw [e2, g6]) (Prod.ext rfl h3) (by simp only [List.length_cons] at hw; omega)
          rw [e2, g6] at ih
          obtain ⟨N', i1, i2⟩ := ih
          have hbd := adds_fit i1 g12
          refine ⟨fun q => if q < (stateF d).1.at' + needs r.length then sectorOf (stateF d).1.epoch s (stateF d).1.last r (needs r.length) (q - (stateF d).1.at') else N' q, .cons ⟨by rw [he]; exact hh, g7, g11, g12, fun q hq => by have hq : q < needs r.length := hq; rw [if_pos (by omega), show (stateF d).1.at' + q - (stateF d).1.at' = q by omega]⟩ g9 (i1.congr (fun q q1 q2 => ?_) (fun q q1 q2 => by have q1 : (stateF d).1.at' + needs r.length ≤ q := q1; rw [if_neg (by omega)])), ?_⟩
          · have q1 : (stateF d).1.at' + needs r.length ≤ q := q1
            rw [e4 q q2, g8, if_neg (by omega)]
          · rw [← hacts]
            unfold addA
            rw [g10, actsTo_puts (N := fun q => if q < (stateF d).1.at' + needs r.length then sectorOf (stateF d).1.epoch s (stateF d).1.last r (needs r.length) (q - (stateF d).1.at') else N' q) (fun i hi => by rw [if_pos (by omega), show (stateF d).1.at' + i - (stateF d).1.at' = i by omega])]
            exact .cons (i2.congr (fun q q1 q2 => by have q1 : (stateF d).1.at' + needs r.length ≤ q := q1; rw [if_neg (by omega)]))
        · cases (Prod.mk.inj h).2
/-- what a disk is while records are added: P sectors written, the first S of them for sure -/
structure Inv (d : Disk) (N : Nat → Bs) (a e : Nat) (x : Disk) (P S : Nat) : Prop where
  ck : checkF x = 0
  ct : x.count = d.count
  wt : ∀ p ∈ x.waits, ∃ q, a ≤ q ∧ q < e ∧ p.sector = ((17 + q : Nat) : Int) ∧ p.data = N q
  dt : ∀ q, q < 63 → secOf x.data (17 + q) = sec d q ∨ (a ≤ q ∧ q < e ∧ secOf x.data (17 + q) = N q)
  sr : ∀ q, a ≤ q → q < a + S → secOf x.data (17 + q) = N q
  hd : secOf x.data 16 = readF d 16
  rd : ∀ q, a ≤ q → q < a + P → sec x q = N q
  sp : S ≤ P
  pe : a + P ≤ e
  wl : x.waits.length ≤ P
section
variable {d x : Disk} {N : Nat → Bs} {a e P S : Nat}
theorem Inv.start (hck : checkF d = 0) (hw : d.waits = []) (hae : a ≤ e) : Inv d N a e d 0 0 := by
  have hr : ∀ n : Nat, readF d (n : Int) = secOf d.data n := fun n => by unfold readF; rw [hw]; rfl
  exact ⟨hck, rfl, fun p hp => (by rw [hw] at hp; cases hp), fun q _ => .inl (hr (17 + q)).symm, fun q q1 q2 => (by omega), (hr 16).symm, fun q q1 q2 => (by omega), Nat.le_refl _, by omega, by rw [hw]; exact Nat.le_refl _⟩
theorem Inv.put (h : Inv d N a e x P S) (hP : a + P < e) (he : e ≤ 63) (hct : 80 ≤ d.count) (hN : (N (a + P)).length = 128) : ∃ x', doF x [⟨false, ⟨((17 + (a + P) : Nat) : Int), N (a + P)⟩⟩] = (x', 0) ∧ Inv d N a e x' (P + 1) S := by
  have hwl := h.wl
  have hc := h.ct
  have hp := do_put (x := x) (n := ((17 + (a + P) : Nat) : Int)) (b := N (a + P)) h.ck (by omega) (by omega) hN (by omega)
  refine ⟨_, hp, ⟨check_put h.ck (by omega) ⟨by show 0 ≤ ((17 + (a + P) : Nat) : Int); omega, by show ((17 + (a + P) : Nat) : Int) < x.count; omega, hN⟩, h.ct, fun p hp => ?_, h.dt, h.sr, h.hd, fun q q1 q2 => ?_, by have := h.sp; omega, by omega, by show (x.waits ++ [_]).length ≤ P + 1; simp; omega⟩⟩
  · rcases List.mem_append.1 hp with h1 | h1
    · exact h.wt p h1
    · rw [List.mem_singleton] at h1
      subst h1
      exact ⟨a + P, by omega, hP, rfl, rfl⟩
  · unfold sec
    by_cases hq : q = a + P
    · subst hq; rw [readF_put_same]
    · rw [readF_put_other (by omega)]; exact h.rd q q1 (by omega)
theorem Inv.last (h : Inv d N a e x P S) (keep : Nat → Bool) (he : e ≤ 63) (q : Nat) (k : Nat) : lastK x keep (17 + q) k = secOf x.data (17 + q) ∨ (a ≤ q ∧ q < e ∧ lastK x keep (17 + q) k = N q) := by
  rcases lastK_or x keep (17 + q) k with h1 | ⟨i, p, h1, h2, h3⟩
  · exact .inl h1
  · obtain ⟨q', q1, q2, q3, q4⟩ := h.wt p (List.mem_of_getElem? h1)
    obtain rfl : q' = q := by rw [h2] at q3; omega
    exact .inr ⟨q1, q2, by rw [← h3, q4]⟩
theorem Inv.head (h : Inv d N a e x P S) (keep : Nat → Bool) (k : Nat) : lastK x keep 16 k = readF d 16 := by
  rcases lastK_or x keep 16 k with h1 | ⟨i, p, h1, h2, h3⟩
  · rw [h1, h.hd]
  · obtain ⟨q', q1, q2, q3, q4⟩ := h.wt p (List.mem_of_getElem? h1)
    rw [h2] at q3
    exfalso; omega
theorem Inv.settle (h : Inv d N a e x P S) (he : e ≤ 63) (hct : 80 ≤ d.count) (keep : Nat → Bool) : (∀ q, q < 63 → secOf (settleD x keep).data (17 + q) = sec d q ∨ (a ≤ q ∧ q < e ∧ secOf (settleD x keep).data (17 + q) = N q)) ∧ (∀ q, a ≤ q → q < a + S → secOf (settleD x keep).data (17 + q) = N q) ∧ secOf (settleD x keep).data 16 = readF d 16 := by
  have hs : ∀ n : Nat, (n : Int) < x.count → secOf (settleD x keep).data n = lastK x keep n x.waits.length := fun n hn => settled_sec h.ck keep hn x.waits.length
  have hc := h.ct
  refine ⟨fun q hq => ?_, fun q q1 q2 => ?_, ?_⟩
  · rw [hs _ (by omega)]
    rcases h.last keep he q x.waits.length with h1 | h1
    · rw [h1]; exact h.dt q hq
    · exact .inr h1
  · have := h.sp
    have := h.pe
    rw [hs _ (by omega)]
    rcases h.last keep he q x.waits.length with h1 | h1
    · rw [h1]; exact h.sr q q1 q2
    · exact h1.2.2
  · rw [hs 16 (by omega)]
    exact h.head keep _
theorem Inv.flush (h : Inv d N a e x P S) (he : e ≤ 63) (hct : 80 ≤ d.count) : ∃ x', doF x [flushAct] = (x', 0) ∧ Inv d N a e x' P P := by
  obtain ⟨s1, s2, s3⟩ := h.settle he hct (fun _ => true)
  have hc := h.ct
  have hr : ∀ q, q < 63 → sec (settleD x (fun _ => true)) q = sec x q := fun q hq => by unfold sec; rw [readF_settle]; exact flush_read h.ck (by omega) (by omega)
  have hpe := h.pe
  refine ⟨_, flush_ok h.ck, ⟨check_settle h.ck _, h.ct, fun p hp => (by cases hp), s1, fun q q1 q2 => ?_, s3, fun q q1 q2 => (by rw [hr q (by omega)]; exact h.rd q q1 q2), Nat.le_refl _, h.pe, Nat.zero_le _⟩⟩
  have := h.rd q q1 q2
  rw [← hr q (by omega)] at this
  exact this
end
/-- heads so far, heads that are sure -/
def cnt (c : Nat × Nat) (b : disk.Act) : Nat × Nat := if b.flush = true then (c.1, c.1) else if (b.put.data.getD 12 0) = 0 then (c.1 + 1, c.2) else c
theorem adds_len {f N : Nat → Bs} {E p : UInt32} {a : Nat} {l : List Bs} (h : Adds f E N p a l) : ∀ q, a ≤ q → q < a + tot l → (N q).length = 128 := by
  induction h with
  | nil => intro q h1 h2; simp [tot] at h2; omega
  | @cons p a r s rs hv _ _ ih =>
    intro q h1 h2
    rcases Nat.lt_or_ge q (a + needs r.length) with h3 | h3
    · have := hv.at' (q - a) (by omega)
      rw [show a + (q - a) = q by omega] at this
      rw [this, sectorOf_length]
    · exact ih q h3 (by simp only [tot] at h2; omega)
theorem tot_append (l m : List Bs) : tot (l ++ m) = tot l + tot m := by
  induction l with
  | nil => simp [tot]
  | cons r l ih => simp only [List.cons_append, tot, ih]; omega
theorem run_puts {d : Disk} {N : Nat → Bs} {a e b P S : Nat} {x : Disk} {E p s : UInt32} {r : Bs} (hI : Inv d N a e x P S) (hb : b = a + P) (hv : V N E p b r s) (hfit : b + needs r.length ≤ e) (he : e ≤ 63) (hct : 80 ≤ d.count) (c : Nat × Nat) : ∀ i, i ≤ needs r.length →
    ∃ x', doF x (putsOf N b i) = (x', 0) ∧ Inv d N a e x' (P + i) S ∧ (putsOf N b i).foldl cnt c = (if i = 0 then c.1 else c.1 + 1, c.2)
  | 0, _ => ⟨x, by unfold doF putsOf; rw [if_neg (by simp [hI.ck])]; rfl, hI, rfl⟩
  | i + 1, hi => by
    obtain ⟨x1, e1, e2, e3⟩ := run_puts hI hb hv hfit he hct c i (by omega)
    have hn := needs_bd hv.hr
    have hat := hv.at' i (by omega)
    subst hb
    obtain ⟨x2, f1, f2⟩ := e2.put (by omega) he hct (by rw [show a + (P + i) = a + P + i by omega, hat, sectorOf_length])
    rw [show a + (P + i) = a + P + i by omega] at f1
    refine ⟨x2, by rw [putsOf_succ, do_snoc e1]; exact f1, f2, ?_⟩
    rw [putsOf_succ, List.foldl_append, e3]
    rw [List.foldl_cons, List.foldl_nil]
    unfold cnt
    rw [if_neg (show ¬ false = true by decide)]
    show (if (N (a + P + i)).getD 12 0 = 0 then _ else _) = _
    rw [hat, sector_12]
    cases i with
    | zero => rfl
    | succ i =>
      rw [if_neg (fun hh => by have := congrArg UInt8.toNat hh; rw [UInt8.toNat_ofNat'] at this; have h0 : (0 : UInt8).toNat = 0 := rfl; rw [h0] at this; omega), if_neg (by omega), if_neg (by omega)]
theorem run {d : Disk} {N f : Nat → Bs} {a e : Nat} {L : List Bs} (he : e ≤ 63) (hct : 80 ≤ d.count) (hE : e = a + tot L) {E : UInt32} : ∀ {l : List (Bs × Bool)} {b : Nat} {acts : List disk.Act} {p : UInt32} {x : Disk} {P S h : Nat} {L0 : List Bs}, Str N b l acts → Adds f E N p b (l.map (·.1)) → L = L0 ++ l.map (·.1) → tot L0 = P → b = a + P → Inv d N a e x P S → h ≤ L0.length → tot (L.take h) ≤ S → ∀ n, n ≤ acts.length →
    ∃ x' P' S', doF x (acts.take n) = (x', 0) ∧ Inv d N a e x' P' S' ∧ ((acts.take n).foldl cnt (L0.length, h)).2 ≤ L.length ∧ tot (L.take ((acts.take n).foldl cnt (L0.length, h)).2) ≤ S' := by
  intro l b acts p x P S h L0 hs
  induction hs generalizing p x P S h L0 with
  | nil =>
    intro hA hL hP hb hI hh hS n hn
    refine ⟨x, P, S, by simp [doF, hI.ck, doN], hI, ?_, ?_⟩
    · simp; rw [hL]; simp; omega
    · simpa using hS
  | @cons b r fl l acts hs ih =>
    intro hA hL hP hb hI hh hS n hn
    cases hA with
    | @cons _ _ _ s _ hv hold hA' =>
      have hv : V N E p b r s := hv
      have hA' : Adds f E N s (b + needs r.length) (l.map (·.1)) := hA'
      have hfit : b + needs r.length ≤ e := by
        rw [hE, hL, tot_append, List.map_cons, tot]
        show b + needs r.length ≤ a + (tot L0 + (needs r.length + tot (l.map (·.1))))
        omega
      have hlen : L0.length + 1 ≤ L.length := by rw [hL]; simp
      rcases Nat.lt_or_ge n (needs r.length + 1) with h1 | h1
      · -- within the record
        obtain ⟨x1, e1, e2, e3⟩ := run_puts hI hb hv hfit he hct (L0.length, h) n (by omega)
        have et : (putsOf N b (needs r.length) ++ (if fl = true then [flushAct] else []) ++ acts).take n = putsOf N b n := by
          rw [List.append_assoc, List.take_append_of_le_length (by rw [putsOf_length]; omega), putsOf_take _ _ (by omega)]
        rw [et]
        exact ⟨x1, _, _, e1, e2, by rw [e3]; show h ≤ _; omega, by rw [e3]; exact hS⟩
      · obtain ⟨x1, e1, e2, e3⟩ := run_puts hI hb hv hfit he hct (L0.length, h) (needs r.length) (Nat.le_refl _)
        have hn0 := needs_pos r.length
        rw [if_neg (by omega)] at e3
        have hL' : L = (L0 ++ [r]) ++ l.map (·.1) := by rw [hL]; simp
        have hP' : tot (L0 ++ [r]) = P + needs r.length := by rw [tot_append, hP]; simp [tot]
        have hl' : (L0 ++ [r]).length = L0.length + 1 := by simp
        cases fl with
        | false =>
          have et : (putsOf N b (needs r.length) ++ (if false = true then [flushAct] else []) ++ acts).take n = putsOf N b (needs r.length) ++ acts.take (n - needs r.length) := by
            rw [if_neg (by decide), List.append_nil, List.take_append, putsOf_length, List.take_of_length_le (by rw [putsOf_length]; omega)]
          have hn' : n - needs r.length ≤ acts.length := by simp [putsOf_length] at hn; omega
          obtain ⟨x2, P2, S2, f1, f2, f3, f4⟩ := ih (h := h) hA' hL' hP' (by omega) e2 (by rw [hl']; omega) hS (n - needs r.length) hn'
          rw [et, List.foldl_append, e3]
          rw [hl'] at f3 f4
          exact ⟨x2, P2, S2, by rw [doF_first_ok e1]; exact f1, f2, f3, f4⟩
        | true =>
          obtain ⟨x3, k1, k2⟩ := e2.flush he hct
          have et : (putsOf N b (needs r.length) ++ (if true = true then [flushAct] else []) ++ acts).take n = (putsOf N b (needs r.length) ++ [flushAct]) ++ acts.take (n - (needs r.length + 1)) := by
            rw [if_pos rfl, List.take_append, List.length_append, putsOf_length, List.take_of_length_le (by rw [List.length_append, putsOf_length]; show needs r.length + 1 ≤ n; omega)]
            rfl
          have hn' : n - (needs r.length + 1) ≤ acts.length := by simp [putsOf_length] at hn; omega
          have htk : L.take (L0.length + 1) = L0 ++ [r] := by rw [hL', ← hl', List.take_left' rfl]
          obtain ⟨x2, P2, S2, f1, f2, f3, f4⟩ := ih (h := L0.length + 1) hA' hL' hP' (by omega) k2 (by rw [hl']; exact Nat.le_refl _) (by rw [htk, hP']; exact Nat.le_refl _) (n - (needs r.length + 1)) hn'
          rw [et, List.foldl_append, List.foldl_append, e3]
          have ef : [flushAct].foldl cnt (L0.length + 1, h) = (L0.length + 1, L0.length + 1) := rfl
          rw [show (((L0.length, h) : Nat × Nat).1 + 1, ((L0.length, h) : Nat × Nat).2) = (L0.length + 1, h) from rfl, ef]
          rw [hl'] at f3 f4
          exact ⟨x2, P2, S2, by rw [doF_first_ok (do_snoc e1 flushAct |>.trans k1)]; exact f1, f2, f3, f4⟩
theorem parts_of {y : Disk} {E lst : UInt32} {R : List Bs} {at0 : Nat} (hs : stateF y = (⟨E, lst, R, at0⟩, 0)) : (stateF y).2 = 0 ∧ (stateF y).1.recs = R := by rw [hs]; exact ⟨rfl, rfl⟩
/-- wherever the power is lost -/
theorem lost {d : Disk} {l : List (Bs × Bool)} {acts : List disk.Act} (hst : (stateF d).2 = 0) (hA : addL d l = (acts, true)) (hw : d.waits = []) (hl : l.length ≤ 12) {n : Nat} (hn : n ≤ acts.length) (ks : List Bool) :
    ∃ x y m, doF d (acts.take n) = (x, 0) ∧ crashF x ks = (y, 0) ∧ y.waits = [] ∧ (stateF y).2 = 0 ∧ m ≤ l.length ∧ (stateF y).1.recs = (stateF d).1.recs ++ (l.map (·.1)).take m ∧ ((acts.take n).foldl cnt (0, 0)).2 ≤ m := by
  obtain ⟨N, hAd, hStr⟩ := adds_of hst hA (by rw [hw]; simp; omega)
  obtain ⟨hth, hh, hep, hch, hsp, h63⟩ := state_chain hst
  obtain ⟨hck, hct⟩ := there_ok hth
  have hfit := adds_fit hAd h63
  obtain ⟨x, P, S, e1, e2, e3, e4⟩ := run (d := d) (a := (stateF d).1.at') (b := (stateF d).1.at') (L := l.map (·.1)) (L0 := []) (h := 0) (P := 0) (S := 0) hfit hct rfl hStr hAd rfl rfl rfl (Inv.start hck hw (Nat.le_add_right _ _)) (Nat.le_refl _) (Nat.zero_le _) n hn
  obtain ⟨s1, s2, s3⟩ := e2.settle hfit hct (fun i => ks.getD i false)
  have hcx := e2.ct
  have hrd : ∀ m : Nat, readF (settleD x (fun i => ks.getD i false)) (m : Int) = secOf (settleD x (fun i => ks.getD i false)).data m := fun m => rfl
  have hhd : headF (settleD x (fun i => ks.getD i false)) = headF d := headF_congr ((hrd 16).trans s3)
  obtain ⟨m, p', a', t1, t2, t3, t4, t5⟩ := torn (g := sec (settleD x (fun i => ks.getD i false))) hAd (fun q q1 q2 => (s1 q q2).elim .inl (fun h => .inr h.2)) (.inl (by rw [hep]; exact hsp))
  have hc0 : Chain (sec (settleD x (fun i => ks.getD i false))) (headF d) 0 0 (stateF d).1.recs (stateF d).1.last (stateF d).1.at' :=
    hch.congr (fun q _ h2 => (s1 q (by omega)).elim id (fun h => by omega))
  rw [hep] at t2 t3
  have hs := state_of (d := settleD x (fun i => ks.getD i false)) (there_of (check_settle e2.ck _) (by show 80 ≤ x.count; rw [hcx]; exact hct)) (by rw [hhd]; exact hh) (by rw [hhd]; exact hc0.append t2) (by rw [hhd]; exact t3)
  obtain ⟨q1, q2⟩ := parts_of hs
  refine ⟨x, settleD x (fun i => ks.getD i false), m, e1, by unfold crashF; rw [if_neg (by simp [e2.ck])], rfl, q1, by simpa using t1, q2, ?_⟩
  refine t4 _ e3 (fun q q1 q2 => s2 q q1 ?_)
  have e4' : tot ((l.map (·.1)).take ((acts.take n).foldl cnt (0, 0)).2) ≤ S := e4
  have q2' : q < (stateF d).1.at' + tot ((l.map (·.1)).take ((acts.take n).foldl cnt (0, 0)).2) := q2
  omega
end log
end Go.Proofs.Ytapdacjpmmjlhaa
