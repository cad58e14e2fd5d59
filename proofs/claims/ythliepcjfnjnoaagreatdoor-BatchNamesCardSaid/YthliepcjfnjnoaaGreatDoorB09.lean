import Derived.Test.YthliepcjfnjnoaaGreatDoorB08
set_option linter.unusedVariables false
set_option linter.unusedSimpArgs false
set_option maxRecDepth 20000
namespace Go.Proofs.YthliepcjfnjnoaaGreatDoor
open Go
namespace room
theorem covB_false {q : List Piece} {k : Nat} (h : ∀ p ∈ q, ¬ (p.fr ≤ (k : Int) ∧ (k : Int) < p.fr + p.ct)) : covB q k = false := by
  cases hc : covB q k
  · rfl
  · obtain ⟨p, hp, h2⟩ := cov_iff.1 hc
    exact absurd h2 (h p hp)
theorem rises_get {q : List Piece} (hr : Rises q) {i j : Nat} (hij : i < j) (hj : j < q.length) : (q[i]'(by omega)).fr + (q[i]'(by omega)).ct ≤ q[j].fr := List.pairwise_iff_getElem.1 hr i j (by omega) hj hij
structure Wk (f : Nat → Bool) (first : Nat) (q : List Piece) (i : Nat) (at_ : Nat) (out : List Piece) : Prop where
  le : first ≤ at_
  eq : out = runsTo f first (at_ - first)
  edge : i < q.length → at_ = first ∨ covB q (at_ - 1) = true
  ends : ∀ p ∈ q.take i, p.fr + p.ct ≤ (at_ : Int)
section
variable {first i at_ : Nat} {q out : List Piece}
theorem Wk.gap {f : Nat → Bool} (W : Wk f first q i at_ out) (hr : Rises q) (hc0 : ∀ p ∈ q, 0 ≤ p.ct) (hi : i < q.length) {k : Nat} (h1 : at_ ≤ k) (h2 : (k : Int) < q[i].fr) : covB q k = false := by
  refine covB_false (fun x hx hh => ?_)
  obtain ⟨j, hj, rfl⟩ := List.getElem_of_mem hx
  rcases Nat.lt_trichotomy j i with hji | hji | hji
  · have := W.ends q[j] (List.mem_take_iff_getElem.2 ⟨j, by omega, rfl⟩)
    omega
  · subst hji; omega
  · have := rises_get hr hji hj
    have := hc0 q[i] (List.getElem_mem hi)
    omega
theorem Wk.begin (f : Nat → Bool) (first : Nat) (q : List Piece) : Wk f first q 0 first [] := ⟨Nat.le_refl _, by rw [Nat.sub_self]; rfl, fun _ => .inl rfl, fun p hp => by cases hp⟩
theorem Wk.free (W : Wk (fun k => !covB q k) first q i at_ out) (hr : Rises q) (hc0 : ∀ p ∈ q, 0 ≤ p.ct) (hct : ∀ j (h : j + 1 < q.length), 1 ≤ q[j].ct) (hi : i < q.length) :
    Wk (fun k => !covB q k) first q (i + 1) (max (at_ : Int) (q[i].fr + q[i].ct)).toNat (if (at_ : Int) < q[i].fr then out ++ [⟨(at_ : Int), q[i].fr - at_⟩] else out) := by
  have hc := hc0 q[i] (List.getElem_mem hi)
  have hle := W.le
  have hm : ((max (at_ : Int) (q[i].fr + q[i].ct)).toNat : Int) = max (at_ : Int) (q[i].fr + q[i].ct) := Int.toNat_of_nonneg (by omega)
  have hin : ∀ k : Nat, q[i].fr ≤ (k : Int) → (k : Int) < q[i].fr + q[i].ct → covB q k = true := fun k h1 h2 => cov_iff.2 ⟨q[i], List.getElem_mem hi, h1, h2⟩
  refine ⟨by omega, ?_, fun h => ?_, fun p hp => ?_⟩
  · by_cases hg : (at_ : Int) < q[i].fr
    · rw [if_pos hg, W.eq]
      obtain ⟨m, hm2⟩ : ∃ m : Nat, q[i].fr = (at_ : Int) + ((m + 1 : Nat) : Int) := ⟨(q[i].fr - at_).toNat - 1, by omega⟩
      have e1 : (max (at_ : Int) (q[i].fr + q[i].ct)).toNat - first = (at_ - first + (m + 1)) + q[i].ct.toNat := by omega
      have hgap : ∀ k, at_ - first ≤ k → k < at_ - first + (m + 1) → (fun k => !covB q k) (first + k) = true := fun k h1 h2 => by
        show (!covB q (first + k)) = true
        rw [W.gap hr hc0 hi (k := first + k) (by omega) (by omega)]; rfl
      have hskip : ∀ k, (at_ - first + (m + 1)) ≤ k → k < (at_ - first + (m + 1)) + q[i].ct.toNat → (fun k => !covB q k) (first + k) = false := fun k h1 h2 => by
        show (!covB q (first + k)) = false
        rw [hin (first + k) (by omega) (by omega)]; rfl
      rw [e1, runs_skip hskip, runs_more ?_ hgap]
      · have e3 : ((first + (at_ - first) : Nat) : Int) = (at_ : Int) := by omega
        rw [e3, show q[i].fr - (at_ : Int) = ((m + 1 : Nat) : Int) by omega]
      · intro p hp
        have R := runs_ok (fun k => !covB q k) first (at_ - first)
        obtain ⟨p1, p2, p3⟩ := R.pos p hp
        rcases W.edge hi with he | he
        · omega
        · rcases Int.lt_or_eq_of_le p3 with h | h
          · exact h
          · have hk := R.cov (at_ - 1)
            rw [cov_iff.2 ⟨p, hp, by omega, by omega⟩, he] at hk
            simp at hk
    · rw [if_neg hg, W.eq]
      by_cases hc : (at_ : Int) < q[i].fr + q[i].ct
      · have e1 : (max (at_ : Int) (q[i].fr + q[i].ct)).toNat - first = (at_ - first) + ((q[i].fr + q[i].ct).toNat - at_) := by omega
        have hskip : ∀ k, (at_ - first) ≤ k → k < (at_ - first) + ((q[i].fr + q[i].ct).toNat - at_) → (fun k => !covB q k) (first + k) = false := fun k h1 h2 => by
          show (!covB q (first + k)) = false
          rw [hin (first + k) (by omega) (by omega)]; rfl
        rw [e1, runs_skip hskip]
      · rw [show (max (at_ : Int) (q[i].fr + q[i].ct)).toNat = at_ by omega]
  · by_cases hc : (at_ : Int) < q[i].fr + q[i].ct
    · have h1 := hct i h
      refine .inr (hin _ (by omega) (by omega))
    · rw [show (max (at_ : Int) (q[i].fr + q[i].ct)).toNat = at_ by omega]
      exact W.edge hi
  · rw [List.take_succ_eq_append_getElem hi] at hp
    rcases List.mem_append.1 hp with hp | hp
    · have := W.ends p hp; omega
    · rw [List.mem_singleton] at hp; subst hp; omega
end
def totalF : List Piece → Int
  | [] => 0
  | p :: l => p.ct + totalF l
theorem total_append (a b : List Piece) : totalF (a ++ b) = totalF a + totalF b := by
  induction a with
  | nil => simp [totalF]
  | cons p a ih => simp only [List.cons_append, totalF, ih]; omega
theorem total_take {l : List Piece} {i : Nat} (h : i < l.length) : totalF (l.take (i + 1)) = totalF (l.take i) + l[i].ct := by
  rw [List.take_succ_eq_append_getElem h, total_append]
  simp [totalF]
theorem total_bd {M : Int} (hM : 0 ≤ M) : ∀ {l : List Piece}, (∀ p ∈ l, 0 ≤ p.ct ∧ p.ct ≤ M) → 0 ≤ totalF l ∧ totalF l ≤ l.length * M
  | [], _ => by simp [totalF]
  | p :: l, h => by
    have ih := total_bd hM (l := l) (fun q hq => h q (List.mem_cons_of_mem _ hq))
    have h0 := h p (by simp)
    simp only [totalF, List.length_cons]
    have e : ((l.length + 1 : Nat) : Int) * M = l.length * M + M := by rw [Int.natCast_add, Int.add_mul]; simp
    rw [e]
    omega
theorem total_pos : ∀ {l : List Piece}, (∀ p ∈ l, 1 ≤ p.ct) → 0 ≤ totalF l
  | [], _ => Int.le_refl _
  | p :: l, h => by
    have h0 := h p (by simp)
    have := total_pos (l := l) (fun q hq => h q (List.mem_cons_of_mem _ hq))
    simp only [totalF]
    omega
def takeF : List Piece → Int → List Piece
  | [], _ => []
  | p :: l, m => if m = 0 then [] else ⟨p.fr, min p.ct m⟩ :: takeF l (m - min p.ct m)
end room
end Go.Proofs.YthliepcjfnjnoaaGreatDoor
namespace Go.Proofs.YthliepcjfnjnoaaGreatDoor
open Go room
theorem Sl.isNoneP {α : Type} {t : Ty α} {P : Nat → Prop} {w : World} {a : Option Addr} {n cap : Nat} {xs : List α} (h : (Sl t).rep P w (.slice a n cap) xs) (ha : a.isNone = true) : xs = [] := by
  obtain ⟨_, a', cap', e, _, ⟨rfl, _⟩ | ⟨b, o, us, rfl, _⟩⟩ := h
  · rfl
  · cases e; cases ha
namespace room
theorem check_8 {count : Int} {l : List Piece} (h1 : ¬ (count < 0 ∨ 4096 < count)) (h2 : ¬ 4096 < l.length) (h3 : ¬ mayP count l) : checkR count l = 8 := by unfold checkR; rw [if_neg h1, if_neg h2, if_neg h3]
theorem check_0 {count : Int} {l : List Piece} (h1 : ¬ (count < 0 ∨ 4096 < count)) (h2 : ¬ 4096 < l.length) (h3 : mayP count l) : checkR count l = 0 := by unfold checkR; rw [if_neg h1, if_neg h2, if_pos h3]
end room
theorem piecesClone_fn {w : World} {v : Value} {l : List Piece} (h : (Sl tPiece).rep All w v l) (hl : l.length ≤ 100000) : Fn Tryz.prog 205 [v] w (fun r w2 => OwnO tPiece (fun _ => False) 151 w2 r l (fun k => w.heap.size ≤ k) ∧ Ext (fun _ => False) w w2) := by
  obtain ⟨a, cap, rfl, hcap⟩ := Sl.val h
  refine Fn.enter (fun w => Tryz.call205 _ w) Tryz.func205 rfl ?_
  refine .seq (.region ?_)
  refine .p rfl rfl (.as rfl) ?_
  refine .nil (.code (.seq (.seq (.keep [(0, _)] ⟨rfl, trivial⟩ (.region ?_)))))
  refine .p rfl rfl (.mv rfl) ?_
  refine .p rfl rfl (.eqNil rfl rfl rfl) ?_
  refine .nil (.code (.keep [(4, _), (0, _)] ⟨rfl, rfl, trivial⟩ ?_))
  refine .cond rfl (fun c4 => ?_) (fun c4 => ?_)
  · refine .seq (.keep [] trivial (.region ?_))
    refine .p rfl rfl (.as rfl) ?_
    refine .nil (.code ?_)
    refine .ret _ rfl ?_
    rw [Sl.isNoneP h c4]
    exact ⟨OwnO.nil, .refl _⟩
  · refine .skip (.code (.seq (.keep [(0, _)] ⟨rfl, trivial⟩ (.region ?_))))
    refine .v rfl rfl (.lits rfl rfl (fun _ => by kernel_rfl)) ?_
    rintro _ w5 ⟨rfl, N5⟩
    refine .p rfl rfl (.mv rfl) ?_
    refine .v rfl rfl (.append (t := tPiece) (Q := fun _ => False) (eb := 16) rfl (Own.ofNew (us := []) N5 .nil (by decide) rfl rfl) rfl (Sl.holds ((Sl tPiece).ext0 h N5.ext) (fun _ _ h => h)) rfl rfl rfl rfl rfl rfl rfl (by simp; omega) (by simp [Lim]; omega) (fun _ h _ => h.elim)) ?_
    rintro v7 w7 ⟨b7, O7, X7, hb7⟩
    have O7 := O7.mono (Q' := fun _ => False) (fun _ h _ => h.1)
    have Z7 := N5.ext.then X7 (by rintro k rfl _; omega)
    have hz5 := N5.size
    refine .p rfl rfl (.as rfl) ?_
    refine .nil (.code ?_)
    refine .ret _ rfl ?_
    exact ⟨OwnO.of O7 (by show w.heap.size ≤ b7; omega), Z7⟩
theorem rising_fn {w : World} {v : Value} {l : List Piece} {count : Int} (h : (Sl tPiece).rep All w v l) : Fn Tryz.prog 168 [i64 count, v] w (fun r w2 => ∃ v' s, r = .tuple #[v', i64 (checkR count l)] ∧ (checkR count l = 0 → s.Perm l ∧ Rises s) ∧ (¬ checkR count l = 0 → s = []) ∧ OwnO tPiece (fun _ => False) 151 w2 v' s (fun k => w.heap.size ≤ k) ∧ Ext (fun _ => False) w w2) := by
  obtain ⟨a, cap, rfl, hcap⟩ := Sl.val h
  have hlim := Sl.lim h
  simp only [Lim] at hlim
  refine Fn.enter (fun w => Tryz.call168 _ w) Tryz.func168 rfl ?_
  refine .seq (.region ?_)
  refine .p rfl rfl (.as rfl) ?_
  refine .p rfl rfl (.as rfl) ?_
  refine .nil (.code (.seq (.seq (.keep [(0, _), (1, _)] ⟨rfl, rfl, trivial⟩ (.region ?_)))))
  refine .p rfl rfl (.mv rfl) ?_
  refine .p rfl rfl (.lt rfl rfl) ?_
  refine .p rfl rfl (.mv rfl) ?_
  refine .caseD 11 rfl (fun c11 => ?_) (fun c11 => ?_)
  · refine .skip rfl rfl ?_
    refine .skip rfl rfl ?_
    refine .p rfl rfl (.pickT rfl rfl) ?_
    refine .nil (.code (.keep [(14, _), (0, _), (1, _)] ⟨rfl, rfl, rfl, trivial⟩ (.condT rfl (.seq (.keep [] trivial (.region ?_))))))
    refine .p rfl rfl (.as rfl) ?_
    refine .p rfl rfl (.as rfl) ?_
    refine .nil (.code ?_)
    refine .ret _ rfl ?_
    have e : checkR count l = 2 := by unfold checkR; rw [if_pos (by omega)]
    rw [e]
    exact ⟨_, [], rfl, fun hz => absurd hz (by decide), fun _ => rfl, OwnO.nil, .refl _⟩
  · refine .p rfl rfl (.mv rfl) ?_
    refine .p rfl rfl (.gt rfl rfl) ?_
    refine .p rfl rfl (.pickF rfl rfl) ?_
    refine .nil (.code (.keep [(14, _), (0, _), (1, _)] ⟨rfl, rfl, rfl, trivial⟩ ?_))
    refine .condD rfl (fun c14 => ?_) (fun c14 => ?_)
    · refine .seq (.keep [] trivial (.region ?_))
      refine .p rfl rfl (.as rfl) ?_
      refine .p rfl rfl (.as rfl) ?_
      refine .nil (.code ?_)
      refine .ret _ rfl ?_
      have e : checkR count l = 2 := by unfold checkR; rw [if_pos (by omega)]
      rw [e]
      exact ⟨_, [], rfl, fun hz => absurd hz (by decide), fun _ => rfl, OwnO.nil, .refl _⟩
    · refine .skip (.code (.seq (.seq (.keep [(0, _), (1, _)] ⟨rfl, rfl, trivial⟩ (.region ?_)))))
      refine .p rfl rfl (.mv rfl) ?_
      refine .p rfl rfl (.len rfl rfl) ?_
      refine .p rfl rfl (.gt rfl rfl) ?_
      refine .nil (.code (.keep [(17, _), (0, _), (1, _)] ⟨rfl, rfl, rfl, trivial⟩ ?_))
      refine .condD rfl (fun c17 => ?_) (fun c17 => ?_)
      · refine .seq (.keep [] trivial (.region ?_))
        refine .p rfl rfl (.as rfl) ?_
        refine .p rfl rfl (.as rfl) ?_
        refine .nil (.code ?_)
        refine .ret _ rfl ?_
        have e : checkR count l = 4 := by unfold checkR; rw [if_neg (by omega), if_pos (by omega)]
        rw [e]
        exact ⟨_, [], rfl, fun hz => absurd hz (by decide), fun _ => rfl, OwnO.nil, .refl _⟩
      · refine .skip (.code (.seq (.seq (.keep [(0, _), (1, _)] ⟨rfl, rfl, trivial⟩ (.region ?_)))))
        refine .p rfl rfl (.mv rfl) ?_
        refine .p rfl rfl (.len rfl rfl) ?_
        refine .p rfl rfl (.mv rfl) ?_
        refine .nil (.code (.block ?_))
        refine .loop (S := Nat × World) (fun s => [(0, i64 count), (1, .slice a l.length cap), (18, .slice a l.length cap), (19, i64 l.length), (20, i64 s.1)]) (fun s => s.2) (fun s => s.1 ≤ l.length ∧ Ext (fun _ => False) w s.2 ∧ ∀ p ∈ l.take s.1, okP count p) (fun s => l.length - s.1) (0, w) ⟨rfl, rfl, rfl, rfl, rfl, trivial⟩ rfl ⟨Nat.zero_le _, .refl _, fun p hp => by cases hp⟩ ?_
        rintro ⟨i, wi⟩ J ⟨hi', hX, hok⟩ again
        simp only at hi' hX hok
        change G _ [(0, i64 count), (1, .slice a l.length cap), (18, .slice a l.length cap), (19, i64 l.length), (20, i64 i)] _ _ wi
        refine .seq (.region ?_)
        refine .p rfl rfl (.lt rfl rfl) ?_
        refine .nil (.code (.seq ?_))
        refine .condD rfl (fun c21 => ?_) (fun c21 => ?_)
        · have hi : i < l.length := by omega
          obtain ⟨b1, o1, q1, ue, e, _, hcs, hre⟩ := Sl.at h (List.getElem?_eq_getElem hi)
          cases e
          obtain ⟨rfl, hr1, hr2⟩ := tPiece.val hre
          refine .skip (.code (.seq (.block (.seq (.keep [(0, _), (1, _), (18, _), (19, _), (20, _)] ⟨rfl, rfl, rfl, rfl, rfl, trivial⟩ (.region ?_))))))
          refine .p rfl rfl (.indexAddr (s := 2) rfl rfl rfl rfl (by omega)) ?_
          refine .p rfl rfl (.loadA (n := 2) rfl rfl rfl rfl rfl (hcs.ext hX (fun x => x))) ?_
          refine .v rfl rfl (.alloc rfl rfl) ?_
          rintro _ w7a ⟨rfl, N7⟩
          refine .s rfl (.storeAll (n := 2) rfl rfl rfl rfl rfl N7.blk rfl) ?_
          intro w7 P7
          have X7 := N7.ext.then P7.ext (by rintro k rfl _; exact Nat.le_refl _)
          have B7 := P7.blk
          refine .nil (.code (.seq (.keep [(7, _), (0, _), (1, _), (18, _), (19, _), (20, _)] ⟨rfl, rfl, rfl, rfl, rfl, rfl, trivial⟩ (.region ?_))))
          refine .p rfl rfl (.fieldAddr rfl rfl rfl rfl) ?_
          refine .p rfl rfl (.load rfl rfl rfl (B7.cell 1)) ?_
          refine .p rfl rfl (.lt rfl rfl) ?_
          refine .p rfl rfl (.mv rfl) ?_
          refine .caseD 27 rfl (fun c27 => ?_) (fun c27 => ?_)
          · refine .skip rfl rfl ?_
            refine .skip rfl rfl ?_
            refine .skip rfl rfl ?_
            refine .p rfl rfl (.pickT rfl rfl) ?_
            refine .p rfl rfl (.mv rfl) ?_
            refine .skip rfl rfl ?_
            refine .skip rfl rfl ?_
            refine .skip rfl rfl ?_
            refine .skip rfl rfl ?_
            refine .p rfl rfl (.pickT rfl rfl) ?_
            refine .p rfl rfl (.mv rfl) ?_
            refine .skip rfl rfl ?_
            refine .skip rfl rfl ?_
            refine .skip rfl rfl ?_
            refine .skip rfl rfl ?_
            refine .skip rfl rfl ?_
            refine .skip rfl rfl ?_
            refine .skip rfl rfl ?_
            refine .p rfl rfl (.pickT rfl rfl) ?_
            refine .nil (.code (.keep [(46, _), (0, _), (1, _), (18, _), (19, _), (20, _)] ⟨rfl, rfl, rfl, rfl, rfl, rfl, trivial⟩ (.condT rfl (.seq (.keep [] trivial (.region ?_))))))
            refine .p rfl rfl (.as rfl) ?_
            refine .p rfl rfl (.as rfl) ?_
            refine .nil (.code ?_)
            refine .ret _ rfl ?_
            have hno : ¬ okP count l[i] := by unfold okP; omega
            rw [check_8 (by omega) (by omega) (fun hm => hno (hm.1 _ (List.getElem_mem hi)))]
            exact ⟨_, [], rfl, fun hz => absurd hz (by decide), fun _ => rfl, OwnO.nil, hX.trans X7⟩
          · refine .p rfl rfl (.fieldAddr rfl rfl rfl rfl) ?_
            refine .p rfl rfl (.load rfl rfl rfl (B7.cell 0)) ?_
            refine .p rfl rfl (.lt rfl rfl) ?_
            refine .p rfl rfl (.pickF rfl rfl) ?_
            refine .p rfl rfl (.mv rfl) ?_
            refine .caseD 32 rfl (fun c32 => ?_) (fun c32 => ?_)
            · refine .skip rfl rfl ?_
              refine .skip rfl rfl ?_
              refine .skip rfl rfl ?_
              refine .skip rfl rfl ?_
              refine .p rfl rfl (.pickT rfl rfl) ?_
              refine .p rfl rfl (.mv rfl) ?_
              refine .skip rfl rfl ?_
              refine .skip rfl rfl ?_
              refine .skip rfl rfl ?_
              refine .skip rfl rfl ?_
              refine .skip rfl rfl ?_
              refine .skip rfl rfl ?_
              refine .skip rfl rfl ?_
              refine .p rfl rfl (.pickT rfl rfl) ?_
              refine .nil (.code (.keep [(46, _), (0, _), (1, _), (18, _), (19, _), (20, _)] ⟨rfl, rfl, rfl, rfl, rfl, rfl, trivial⟩ (.condT rfl (.seq (.keep [] trivial (.region ?_))))))
              refine .p rfl rfl (.as rfl) ?_
              refine .p rfl rfl (.as rfl) ?_
              refine .nil (.code ?_)
              refine .ret _ rfl ?_
              have hno : ¬ okP count l[i] := by unfold okP; omega
              rw [check_8 (by omega) (by omega) (fun hm => hno (hm.1 _ (List.getElem_mem hi)))]
              exact ⟨_, [], rfl, fun hz => absurd hz (by decide), fun _ => rfl, OwnO.nil, hX.trans X7⟩
            · refine .p rfl rfl (.fieldAddr rfl rfl rfl rfl) ?_
              refine .p rfl rfl (.load rfl rfl rfl (B7.cell 0)) ?_
              refine .p rfl rfl (.mv rfl) ?_
              refine .p rfl rfl (.ge rfl rfl) ?_
              refine .p rfl rfl (.pickF rfl rfl) ?_
              refine .p rfl rfl (.mv rfl) ?_
              refine .caseD 38 rfl (fun c38 => ?_) (fun c38 => ?_)
              · refine .skip rfl rfl ?_
                refine .skip rfl rfl ?_
                refine .skip rfl rfl ?_
                refine .skip rfl rfl ?_
                refine .skip rfl rfl ?_
                refine .skip rfl rfl ?_
                refine .skip rfl rfl ?_
                refine .p rfl rfl (.pickT rfl rfl) ?_
                refine .nil (.code (.keep [(46, _), (0, _), (1, _), (18, _), (19, _), (20, _)] ⟨rfl, rfl, rfl, rfl, rfl, rfl, trivial⟩ (.condT rfl (.seq (.keep [] trivial (.region ?_))))))
                refine .p rfl rfl (.as rfl) ?_
                refine .p rfl rfl (.as rfl) ?_
                refine .nil (.code ?_)
                refine .ret _ rfl ?_
                have hno : ¬ okP count l[i] := by unfold okP; omega
                rw [check_8 (by omega) (by omega) (fun hm => hno (hm.1 _ (List.getElem_mem hi)))]
                exact ⟨_, [], rfl, fun hz => absurd hz (by decide), fun _ => rfl, OwnO.nil, hX.trans X7⟩
              · refine .p rfl rfl (.fieldAddr rfl rfl rfl rfl) ?_
                refine .p rfl rfl (.load rfl rfl rfl (B7.cell 1)) ?_
                refine .p rfl rfl (.mv rfl) ?_
                refine .p rfl rfl (.fieldAddr rfl rfl rfl rfl) ?_
                refine .p rfl rfl (.load rfl rfl rfl (B7.cell 0)) ?_
                refine .p rfl rfl (.sub rfl rfl (by omega)) ?_
                refine .p rfl rfl (.gt rfl rfl) ?_
                refine .p rfl rfl (.pickF rfl rfl) ?_
                refine .nil (.code (.keep [(46, _), (0, _), (1, _), (18, _), (19, _), (20, _)] ⟨rfl, rfl, rfl, rfl, rfl, rfl, trivial⟩ ?_))
                refine .condD rfl (fun c46 => ?_) (fun c46 => ?_)
                · refine .seq (.keep [] trivial (.region ?_))
                  refine .p rfl rfl (.as rfl) ?_
                  refine .p rfl rfl (.as rfl) ?_
                  refine .nil (.code ?_)
                  refine .ret _ rfl ?_
                  have hno : ¬ okP count l[i] := by unfold okP; omega
                  rw [check_8 (by omega) (by omega) (fun hm => hno (hm.1 _ (List.getElem_mem hi)))]
                  exact ⟨_, [], rfl, fun hz => absurd hz (by decide), fun _ => rfl, OwnO.nil, hX.trans X7⟩
                · refine .skip (.blk (.code (.keep [(0, _), (1, _), (18, _), (19, _), (20, _)] ⟨rfl, rfl, rfl, rfl, rfl, trivial⟩ (.region ?_))))
                  refine .p rfl rfl (.add rfl rfl (by omega)) ?_
                  refine .p rfl rfl (.mv rfl) ?_
                  refine .nil ?_
                  refine (again (i + 1, w7) ⟨by show i + 1 ≤ _; omega, hX.trans X7, fun p hp => ?_⟩ (by show _ - (i + 1) < _ - i; omega)).of ⟨rfl, rfl, rfl, rfl, rfl, trivial⟩
                  have hp : p ∈ l.take (i + 1) := hp
                  rw [List.take_succ_eq_append_getElem hi] at hp
                  rcases List.mem_append.1 hp with hp | hp
                  · exact hok p hp
                  · rw [List.mem_singleton] at hp
                    subst hp
                    unfold okP; omega
        · obtain rfl : i = l.length := by omega
          rw [List.take_length] at hok
          refine .exit rfl (.code (.seq (.keep [(1, _)] ⟨rfl, trivial⟩ (.region ?_))))
          refine .p rfl rfl (.mv rfl) ?_
          refine .call (first := []) (captured := []) rfl rfl rfl rfl (piecesClone_fn ((Sl tPiece).ext0 h hX) (by omega)) ?_
          rintro r49 w49 ⟨O49, X49⟩
          refine .p rfl rfl (.as rfl) ?_
          refine .nil (.code (.seq (.keep [(1, _)] ⟨rfl, trivial⟩ (.region ?_))))
          refine .p rfl rfl (.mv rfl) ?_
          refine .call (first := []) (captured := []) rfl rfl rfl rfl (SortFunc_fn O49) ?_
          rintro _ w51 ⟨rfl, ps, hp, hso, O51, X51⟩
          have Z51 : Ext (fun _ => False) w w51 := (hX.trans X49).then X51 (fun k hk _ => Nat.le_trans hX.size hk)
          have R51 := OwnO.rep O51 (R := All) (fun _ _ _ => trivial) (fun _ h _ => h.elim)
          obtain ⟨a51, c51, rfl, hc51⟩ := Sl.val R51
          have hsl : ps.length = l.length := hp.length_eq
          have hoks : ∀ p ∈ ps, okP count p := fun p h => hok p (hp.mem_iff.1 h)
          refine .nil (.code (.seq (.seq (.keep [(1, _)] ⟨rfl, trivial⟩ (.region ?_)))))
          refine .p rfl rfl (.as rfl) ?_
          refine .nil (.code (.block ?_))
          refine .loop (S := Nat) (fun s => [(1, .slice a51 ps.length c51), (8, i64 s)]) (fun s => w51) (fun s => 1 ≤ s ∧ ∀ j (hj : j + 1 < ps.length), j + 1 < s → ps[j].fr + ps[j].ct ≤ ps[j + 1].fr) (fun s => ps.length - s) 1 ⟨rfl, rfl, trivial⟩ rfl ⟨Nat.le_refl _, fun j hj h1 => by omega⟩ ?_
          rintro j J ⟨hj1, hcon⟩ again
          refine .seq (.seq (.region ?_))
          refine .p rfl rfl (.mv rfl) ?_
          refine .p rfl rfl (.mv rfl) ?_
          refine .p rfl rfl (.len rfl rfl) ?_
          refine .p rfl rfl (.lt rfl rfl) ?_
          refine .nil (.code (.keep [(55, _), (1, _), (8, _)] ⟨rfl, rfl, rfl, trivial⟩ ?_))
          refine .condD rfl (fun c55 => ?_) (fun c55 => ?_)
          · have hj : j < ps.length := by omega
            obtain ⟨b2, o2, q2, ue2, e2, _, hcp, hrp⟩ := Sl.at R51 (i := j - 1) (List.getElem?_eq_getElem (by omega))
            cases e2
            obtain ⟨rfl, hp1, hp2⟩ := tPiece.val hrp
            obtain ⟨b3, o3, q3, ue3, e3, _, hcq, hrq⟩ := Sl.at R51 (i := j) (List.getElem?_eq_getElem hj)
            cases e3
            obtain ⟨rfl, hq1, hq2⟩ := tPiece.val hrq
            have ej : ((j : Int) - 1).toNat = j - 1 := by omega
            have hkp := hoks ps[j - 1] (List.getElem_mem (by omega))
            unfold okP at hkp
            refine .skip (.code (.seq (.block (.seq (.keep [(1, _), (8, _)] ⟨rfl, rfl, trivial⟩ (.draws (by kernel_rfl) (by kernel_rfl) ?_))))))
            refine .p rfl rfl (.mv rfl) ?_
            refine .p rfl rfl (.mv rfl) ?_
            refine .p rfl rfl (.sub rfl rfl (by omega)) ?_
            refine .p rfl rfl (.indexAddr (s := 2) rfl rfl rfl rfl (by omega)) ?_
            refine .p rfl rfl (.fieldAddr rfl rfl rfl rfl) ?_
            refine .p rfl rfl (.load rfl rfl rfl (by rw [ej]; exact hcp 0 _ rfl)) ?_
            refine .p rfl rfl (.mv rfl) ?_
            refine .p rfl rfl (.mv rfl) ?_
            refine .p rfl rfl (.sub rfl rfl (by omega)) ?_
            refine .p rfl rfl (.indexAddr (s := 2) rfl rfl rfl rfl (by omega)) ?_
            refine .p rfl rfl (.fieldAddr rfl rfl rfl rfl) ?_
            refine .p rfl rfl (.load rfl rfl rfl (by rw [ej]; exact hcp 1 _ rfl)) ?_
            refine .p rfl rfl (.add rfl rfl (by omega)) ?_
            refine .p rfl rfl (.mv rfl) ?_
            refine .p rfl rfl (.mv rfl) ?_
            refine .p rfl rfl (.indexAddr (s := 2) rfl rfl rfl rfl (by omega)) ?_
            refine .p rfl rfl (.fieldAddr rfl rfl rfl rfl) ?_
            refine .p rfl rfl (.load rfl rfl rfl (hcq 0 _ rfl)) ?_
            refine .p rfl rfl (.gt rfl rfl) ?_
            refine .nil (.code (.keep [(76, _), (1, _), (8, _)] ⟨rfl, rfl, rfl, trivial⟩ ?_))
            refine .condD rfl (fun c76 => ?_) (fun c76 => ?_)
            · refine .seq (.keep [] trivial (.region ?_))
              refine .p rfl rfl (.as rfl) ?_
              refine .p rfl rfl (.as rfl) ?_
              refine .nil (.code ?_)
              refine .ret _ rfl ?_
              have hno : ¬ mayP count l := fun hm => by
                have hr := List.pairwise_iff_getElem.1 (rises_of_may hp hm hso) (j - 1) j (by omega) hj (by omega)
                omega
              rw [check_8 (by omega) (by omega) hno]
              exact ⟨_, [], rfl, fun hz => absurd hz (by decide), fun _ => rfl, OwnO.nil, Z51⟩
            · refine .skip (.blk (.code (.keep [(1, _), (8, _)] ⟨rfl, rfl, trivial⟩ (.region ?_))))
              refine .p rfl rfl (.mv rfl) ?_
              refine .p rfl rfl (.add rfl rfl (by omega)) ?_
              refine .p rfl rfl (.as rfl) ?_
              refine .nil ?_
              refine (again (j + 1) ⟨by omega, fun k hk h1 => ?_⟩ (by omega)).of ⟨rfl, rfl, trivial⟩
              rcases Nat.lt_or_ge (k + 1) j with h2 | h2
              · exact hcon k hk h2
              · have ek : k = j - 1 := by omega
                subst ek
                have e2 : ps[j - 1 + 1] = ps[j] := by congr 1; omega
                rw [e2]
                omega
          · refine .exit rfl (.code (.seq (.keep [(1, _)] ⟨rfl, trivial⟩ (.region ?_))))
            refine .p rfl rfl (.mv rfl) ?_
            refine .p rfl rfl (.as rfl) ?_
            refine .p rfl rfl (.as rfl) ?_
            refine .nil (.code ?_)
            refine .ret _ rfl ?_
            have hr : Rises ps := rises_of (fun p hp => by have := hoks p hp; unfold okP at this; omega) (fun k hk => hcon k hk (by omega))
            rw [check_0 (by omega) (by omega) (may_of_rises hp hok hr)]
            exact ⟨_, ps, rfl, fun _ => ⟨hp, hr⟩, fun hz => absurd rfl hz, OwnO.mono O51 (fun _ h _ => h) (fun k hk _ => Nat.le_trans hX.size hk), Z51⟩
theorem RoomCheck_fn {w : World} {v : Value} {l : List Piece} {count : Int} (h : (Sl tPiece).rep All w v l) : Fn Tryz.prog 115 [i64 count, v] w (fun r w2 => r = i64 (checkR count l) ∧ Ext (fun _ => False) w w2) := by
  refine Fn.enter (fun w => Tryz.call115 _ w) Tryz.func115 rfl ?_
  refine .seq (.region ?_)
  refine .p rfl rfl (.as rfl) ?_
  refine .nil (.code (.seq (.keep [(0, _), (1, _)] ⟨rfl, rfl, trivial⟩ (.region ?_))))
  refine .p rfl rfl (.mv rfl) ?_
  refine .p rfl rfl (.mv rfl) ?_
  refine .call (first := []) (captured := []) rfl rfl rfl rfl (rising_fn h) ?_
  rintro _ w10 ⟨v10, ps, rfl, hs1, hs2, O10, X10⟩
  refine .p rfl rfl (.mv rfl) ?_
  refine .p rfl rfl (.extract rfl rfl) ?_
  refine .p rfl rfl (.extract rfl rfl) ?_
  refine .p rfl rfl (.as rfl) ?_
  refine .p rfl rfl (.as rfl) ?_
  refine .nil (.code (.seq (.keep [(6, _)] ⟨rfl, trivial⟩ (.region ?_))))
  refine .p rfl rfl (.mv rfl) ?_
  refine .p rfl rfl (.as rfl) ?_
  refine .nil (.code ?_)
  refine .ret _ rfl ?_
  exact ⟨rfl, X10⟩
theorem total_fn {w : World} {v : Value} {l : List Piece} (h : (Sl tPiece).rep All w v l) (hb : ∀ p ∈ l, 0 ≤ p.ct ∧ p.ct ≤ 4096) : Fn Tryz.prog 170 [v] w (fun r w2 => r = i64 (totalF l) ∧ Ext (fun _ => False) w w2) := by
  obtain ⟨a, cap, rfl, hcap⟩ := Sl.val h
  have hlim := Sl.lim h
  simp only [Lim] at hlim
  refine Fn.enter (fun w => Tryz.call170 _ w) Tryz.func170 rfl ?_
  refine .seq (.region ?_)
  refine .p rfl rfl (.as rfl) ?_
  refine .nil (.code (.seq (.seq (.region ?_))))
  refine .p rfl rfl (.mv rfl) ?_
  refine .p rfl rfl (.len rfl rfl) ?_
  refine .p rfl rfl (.mv rfl) ?_
  refine .nil (.code (.block (.keep [(7, _), (6, _), (5, _), (2, _)] ⟨rfl, rfl, rfl, rfl, trivial⟩ ?_)))
  refine .loop (S := Nat × World) (fun s => [(2, i64 (totalF (l.take s.1))), (5, .slice a l.length cap), (6, i64 l.length), (7, i64 s.1)]) (fun s => s.2) (fun s => s.1 ≤ l.length ∧ Ext (fun _ => False) w s.2) (fun s => l.length - s.1) (0, w) ⟨rfl, rfl, rfl, rfl, trivial⟩ rfl ⟨Nat.zero_le _, .refl _⟩ ?_
  rintro ⟨i, wi⟩ J ⟨hi', hX⟩ again
  simp only at hi' hX
  change G _ [(2, i64 (totalF (l.take i))), (5, .slice a l.length cap), (6, i64 l.length), (7, i64 i)] _ _ wi
  refine .seq (.region ?_)
  refine .p rfl rfl (.lt rfl rfl) ?_
  refine .nil (.code (.seq ?_))
  refine .condD rfl (fun c8 => ?_) (fun c8 => ?_)
  · have hi : i < l.length := by omega
    obtain ⟨b1, o1, q1, ue, e, _, hcs, hre⟩ := Sl.at h (List.getElem?_eq_getElem hi)
    cases e
    obtain ⟨rfl, hr1, hr2⟩ := tPiece.val hre
    have ht := total_bd (M := 4096) (by decide) (l := l.take i) (fun p hp => hb p (List.mem_of_mem_take hp))
    have hl0 := hb l[i] (List.getElem_mem hi)
    have hle : (l.take i).length ≤ l.length := by rw [List.length_take]; omega
    refine .skip (.code (.seq (.block (.seq (.keep [(2, _), (5, _), (6, _), (7, _)] ⟨rfl, rfl, rfl, rfl, trivial⟩ (.region ?_))))))
    refine .p rfl rfl (.indexAddr (s := 2) rfl rfl rfl rfl (by omega)) ?_
    refine .p rfl rfl (.loadA (n := 2) rfl rfl rfl rfl rfl (hcs.ext hX (fun x => x))) ?_
    refine .v rfl rfl (.alloc rfl rfl) ?_
    rintro _ w7a ⟨rfl, N7⟩
    refine .s rfl (.storeAll (n := 2) rfl rfl rfl rfl rfl N7.blk rfl) ?_
    intro w7 P7
    have X7 := N7.ext.then P7.ext (by rintro k rfl _; exact Nat.le_refl _)
    have B7 := P7.blk
    refine .nil (.code (.keep [(4, _), (2, _), (5, _), (6, _), (7, _)] ⟨rfl, rfl, rfl, rfl, rfl, trivial⟩ (.region ?_)))
    refine .p rfl rfl (.mv rfl) ?_
    refine .p rfl rfl (.fieldAddr rfl rfl rfl rfl) ?_
    refine .p rfl rfl (.load rfl rfl rfl (B7.cell 1)) ?_
    refine .p rfl rfl (.cast (.add rfl rfl (by omega)) (show i64 (totalF (l.take i) + l[i].ct) = i64 (totalF (l.take (i + 1))) by rw [total_take hi])) ?_
    refine .p rfl rfl (.as rfl) ?_
    refine .nil (.blk (.code (.keep [(2, _), (5, _), (6, _), (7, _)] ⟨rfl, rfl, rfl, rfl, trivial⟩ (.region ?_))))
    refine .p rfl rfl (.add rfl rfl (by omega)) ?_
    refine .p rfl rfl (.mv rfl) ?_
    refine .nil ?_
    exact (again (i + 1, w7) ⟨by show i + 1 ≤ _; omega, hX.trans X7⟩ (by show _ - (i + 1) < _ - i; omega)).of ⟨rfl, rfl, rfl, rfl, trivial⟩
  · obtain rfl : i = l.length := by omega
    rw [List.take_length]
    refine .exit rfl (.code (.seq (.keep [(2, _)] ⟨rfl, trivial⟩ (.region ?_))))
    refine .p rfl rfl (.mv rfl) ?_
    refine .p rfl rfl (.as rfl) ?_
    refine .nil (.code ?_)
    refine .ret _ rfl ?_
    exact ⟨rfl, hX⟩
end Go.Proofs.YthliepcjfnjnoaaGreatDoor
namespace Go.Proofs.YthliepcjfnjnoaaGreatDoor
open Go room
namespace room
def freeL (first count : Int) (l : List Piece) : List Piece := if freeE first count l = 0 then freeF first.toNat count.toNat l else []
end room
end Go.Proofs.YthliepcjfnjnoaaGreatDoor
namespace Go.Proofs.YthliepcjfnjnoaaGreatDoor
open Go room
namespace room
def takeE (first count : Int) (l : List Piece) (many : Int) : Int := if many < 0 ∨ 4096 < many then 2 else if ¬ freeE first count l = 0 then freeE first count l else if totalF (freeL first count l) < many then 30 else 0
def takeL (first count : Int) (l : List Piece) (many : Int) : List Piece := if takeE first count l many = 0 then takeF (freeL first count l) many else []
theorem take_length : ∀ (F : List Piece) (m : Int), (takeF F m).length ≤ F.length
  | [], _ => Nat.le_refl _
  | p :: F, m => by
    rw [takeF]
    split
    · exact Nat.zero_le _
    · have := take_length F (m - min p.ct m)
      simp; omega
def oneF (p : Piece) (n : Nat) : List Int := (List.range n).map (fun k => p.fr + ((k : Nat) : Int))
def sectF (l : List Piece) : List Int := l.flatMap (fun p => oneF p p.ct.toNat)
theorem one_length (p : Piece) (n : Nat) : (oneF p n).length = n := by simp [oneF]
end room
theorem RoomMany_fn {w : World} {v : Value} {l : List Piece} (h : (Sl tPiece).rep All w v l) : Fn Tryz.prog 118 [v] w (fun r w2 => r = .tuple #[i64 (if checkR 4096 l = 0 then totalF l else 0), i64 (checkR 4096 l)] ∧ Ext (fun _ => False) w w2) := by
  refine Fn.enter (fun w => Tryz.call118 _ w) Tryz.func118 rfl ?_
  refine .seq (.region ?_)
  refine .p rfl rfl (.as rfl) ?_
  refine .p rfl rfl (.as rfl) ?_
  refine .nil (.code (.seq (.seq (.keep [(0, _)] ⟨rfl, trivial⟩ (.region ?_)))))
  refine .p rfl rfl (.mv rfl) ?_
  refine .call (first := []) (captured := []) rfl rfl rfl rfl (RoomCheck_fn h) ?_
  rintro _ w6 ⟨rfl, X6⟩
  refine .p rfl rfl (.as rfl) ?_
  refine .nil (.code (.seq (.keep [(4, _), (0, _)] ⟨rfl, rfl, trivial⟩ (.region ?_))))
  refine .p rfl rfl (.mv rfl) ?_
  refine .p rfl rfl (.ne rfl rfl) ?_
  refine .nil (.code (.keep [(8, _), (4, _), (0, _)] ⟨rfl, rfl, rfl, trivial⟩ ?_))
  refine .condD rfl (fun c8 => ?_) (fun c8 => ?_)
  · refine .seq (.keep [(4, _)] ⟨rfl, trivial⟩ (.region ?_))
    refine .p rfl rfl (.mv rfl) ?_
    refine .p rfl rfl (.as rfl) ?_
    refine .p rfl rfl (.as rfl) ?_
    refine .nil (.code ?_)
    refine .ret _ rfl ?_
    rw [if_neg c8]
    exact ⟨rfl, X6⟩
  · have hz : checkR 4096 l = 0 := Decidable.not_not.1 c8
    refine .skip (.code (.seq (.keep [(0, _)] ⟨rfl, trivial⟩ (.region ?_))))
    refine .p rfl rfl (.mv rfl) ?_
    refine .call (first := []) (captured := []) rfl rfl rfl rfl (total_fn ((Sl tPiece).ext0 h X6) (fun p hp => by have := (check_ok hz).2.2.2.1 p hp; unfold okP at this; omega)) ?_
    rintro _ w11 ⟨rfl, X11⟩
    refine .p rfl rfl (.as rfl) ?_
    refine .p rfl rfl (.as rfl) ?_
    refine .nil (.code ?_)
    refine .ret _ rfl ?_
    rw [if_pos hz, hz]
    exact ⟨rfl, X6.trans X11⟩
end Go.Proofs.YthliepcjfnjnoaaGreatDoor
namespace Go.Proofs.YthliepcjfnjnoaaGreatDoor
open Go
namespace files
open room
theorem sumF_eq : ∀ l : List Piece, totalF l = (l.map (·.ct)).sum
  | [] => rfl
  | p :: l => by show p.ct + totalF l = _; rw [sumF_eq l]; rfl
theorem manyF_eq (l : List Piece) : manyF l = if checkR 4096 l = 0 then totalF l else 0 := by unfold manyF; rw [sumF_eq]
theorem allP_split (l : List File) (i : Nat) : allP l = (l.take i).flatMap (·.ps) ++ (l.drop i).flatMap (·.ps) := by unfold allP; rw [← List.flatMap_append, List.take_append_drop]
theorem allP_le (l : List File) (i : Nat) : ((l.take i).flatMap (·.ps)).length ≤ (allP l).length := by
  have := congrArg List.length (allP_split l i)
  rw [List.length_append] at this
  omega
theorem allP_step {l : List File} {i : Nat} (h : i < l.length) : ((l.take i).flatMap (·.ps)).length + l[i].ps.length ≤ (allP l).length := by
  have h1 := allP_le l (i + 1)
  rw [files_step h, List.length_append] at h1
  exact h1
theorem bad_at {x : Dir} {i : Nat} (hl : ¬ 32 < x.fs.length) (hi : i < x.fs.length) (h : ¬ okAt x.fs i hi) : checkD x = 8 := checkD_8 hl (fun hm => h (hm.2.2.2 i hi))
end files
theorem Ev.geS {P : Program} {e : Env} {w : World} {x y : Operand} {T T' : TypeId} {a b : Bs} (hx : look e x = some (str a)) (hy : look e y = some (str b)) : Ev P e (.binOp .geq T x y T') w (.bool (!Op.bytesLess a b)) :=
  fun w' _ ρ hρ o ho => by
    have h1 : (bs a).toList = a := bs_toList a
    have h2 : (bs b).toList = b := bs_toList b
    simp [execOp, ho, hρ _ _ hx, hρ _ _ hy, eqGuard, binOp, Op.stringOp, h1, h2]
open room files
attribute [local irreducible] checkR nameF
theorem pieces_fn {w : World} {v : Value} {x : Dir} (h : tDir.rep All w v x) (hp : (allP x.fs).length ≤ 1000000) : Fn Tryz.prog 114 [v] w (fun r w2 => OwnO tPiece (fun _ => False) 151 w2 r (allP x.fs) (fun k => w.heap.size ≤ k) ∧ Ext (fun _ => False) w w2) := by
  obtain ⟨a, cap, rfl, hf, hg⟩ := tDir.val h
  have hlim := Sl.lim hf
  simp only [Lim] at hlim
  refine Fn.enter (fun w => Tryz.call114 _ w) Tryz.func114 rfl ?_
  refine .seq (.region ?_)
  refine .v rfl rfl (.box rfl) ?_
  rintro _ w1 ⟨rfl, N1⟩
  refine .p rfl rfl (.as rfl) ?_
  refine .nil (.code (.seq (.keep [(1, _)] ⟨rfl, trivial⟩ (.region ?_))))
  refine .p rfl rfl (.as rfl) ?_
  refine .nil (.code (.seq (.seq (.region ?_))))
  refine .p rfl rfl (.fieldAddr rfl rfl rfl rfl) ?_
  refine .p rfl rfl (.load rfl rfl rfl (N1.blk.cell 1)) ?_
  refine .p rfl rfl (.len rfl rfl) ?_
  refine .p rfl rfl (.mv rfl) ?_
  refine .nil (.code (.block (.keep [(9, _), (8, _), (7, _), (3, _)] ⟨rfl, rfl, rfl, rfl, trivial⟩ ?_)))
  refine .loop (S := Nat × List Piece × Value × World) (fun s => [(3, s.2.2.1), (7, .slice a x.fs.length cap), (8, i64 x.fs.length), (9, i64 s.1)]) (fun s => s.2.2.2) (fun s => s.1 ≤ x.fs.length ∧ s.2.1 = (x.fs.take s.1).flatMap (·.ps) ∧ OwnO tPiece (fun _ => False) 151 s.2.2.2 s.2.2.1 s.2.1 (fun k => w.heap.size ≤ k) ∧ Ext (fun _ => False) w s.2.2.2) (fun s => x.fs.length - s.1) (0, [], .slice none 0 0, w1) ⟨rfl, rfl, rfl, rfl, trivial⟩ rfl ⟨Nat.zero_le _, rfl, OwnO.nil, N1.ext⟩ ?_
  rintro ⟨i, acc, vi, wi⟩ J ⟨hi', ha, hO, hX⟩ again
  simp only at hi' ha hO hX
  have zi := hX.size
  change G _ [(3, vi), (7, .slice a x.fs.length cap), (8, i64 x.fs.length), (9, i64 i)] _ _ wi
  refine .seq (.region ?_)
  refine .p rfl rfl (.lt rfl rfl) ?_
  refine .nil (.code (.seq ?_))
  refine .condD rfl (fun c10 => ?_) (fun c10 => ?_)
  · have hi : i < x.fs.length := by omega
    obtain ⟨b1, o1, q1, ue1, e1, _, hcs1, hre1⟩ := Sl.at hf (List.getElem?_eq_getElem hi)
    cases e1
    obtain ⟨fa1, fc1, rfl, hps1, hnm1, hsz1⟩ := tFile.val hre1
    have hst := allP_step hi
    rw [← ha] at hst
    refine .skip (.code (.seq (.block (.seq (.keep [(3, _), (7, _), (8, _), (9, _)] ⟨rfl, rfl, rfl, rfl, trivial⟩ (.region ?_))))))
    refine .p rfl rfl (.indexAddr (s := 3) rfl rfl rfl rfl (by omega)) ?_
    refine .p rfl rfl (.loadA (n := 3) rfl rfl rfl rfl rfl (hcs1.ext hX (fun x => x))) ?_
    refine .v rfl rfl (.alloc rfl rfl) ?_
    rintro _ w5 ⟨rfl, N5⟩
    refine .s rfl (.storeAll (n := 3) rfl rfl rfl rfl rfl N5.blk rfl) ?_
    intro w4 P4
    have X4 := hX.trans (N5.ext.then P4.ext (by rintro k rfl _; exact Nat.le_refl _))
    have z4 := X4.size
    have y4 := (N5.ext.then P4.ext (by rintro k rfl _; exact Nat.le_refl _))
    have B4 := P4.blk
    refine .nil (.code (.keep [(5, _), (3, _), (7, _), (8, _), (9, _)] ⟨rfl, rfl, rfl, rfl, rfl, trivial⟩ (.region ?_)))
    refine .p rfl rfl (.mv rfl) ?_
    refine .p rfl rfl (.fieldAddr rfl rfl rfl rfl) ?_
    refine .p rfl rfl (.load rfl rfl rfl (B4.cell 2)) ?_
    refine .v rfl rfl (.appendLo (t := tPiece) (eb := 16) rfl (OwnO.ext0 hO y4) (fun k hk => by omega) rfl (Sl.holds ((Sl tPiece).ext0 hps1 X4) (fun _ _ h => h)) rfl rfl rfl rfl rfl rfl rfl (by omega) (by simp only [Lim]; omega) (fun _ h _ => h.elim)) ?_
    rintro v16 w16 ⟨O16, X16⟩
    have Z16 : Ext (fun _ => False) w w16 := X4.then X16 (fun k hk _ => hk)
    refine .p rfl rfl (.as rfl) ?_
    refine .nil (.blk (.code (.keep [(3, _), (7, _), (8, _), (9, _)] ⟨rfl, rfl, rfl, rfl, trivial⟩ (.region ?_))))
    refine .p rfl rfl (.add rfl rfl (by omega)) ?_
    refine .p rfl rfl (.mv rfl) ?_
    refine .nil ?_
    exact (again (i + 1, acc ++ x.fs[i].ps, v16, w16) ⟨by show i + 1 ≤ _; omega, by show acc ++ x.fs[i].ps = _; rw [files_step hi, ha], O16, Z16⟩ (by show _ - (i + 1) < _ - i; omega)).of ⟨rfl, rfl, rfl, rfl, trivial⟩
  · obtain rfl : i = x.fs.length := by omega
    rw [List.take_length] at ha
    refine .exit rfl (.code (.seq (.keep [(3, _)] ⟨rfl, trivial⟩ (.region ?_))))
    refine .p rfl rfl (.mv rfl) ?_
    refine .p rfl rfl (.as rfl) ?_
    refine .nil (.code ?_)
    refine .ret _ rfl ?_
    rw [ha] at hO
    exact ⟨hO, hX⟩
theorem check1_fn {w : World} {p : Piece} : Fn Tryz.prog 117 [.agg #[i64 p.fr, i64 p.ct]] w (fun r w2 => r = .bool (decide (p.fr < 80)) ∧ Ext (fun _ => False) w w2) := by
  refine Fn.enter (fun w => Tryz.call117 _ w) Tryz.func117 rfl ?_
  refine .seq (.region ?_)
  refine .v rfl rfl (.box rfl) ?_
  rintro _ w1 ⟨rfl, N1⟩
  refine .p rfl rfl (.as rfl) ?_
  refine .nil (.code (.seq (.keep [(1, _)] ⟨rfl, trivial⟩ (.region ?_))))
  refine .p rfl rfl (.fieldAddr rfl rfl rfl rfl) ?_
  refine .p rfl rfl (.load rfl rfl rfl (N1.blk.cell 0)) ?_
  refine .p rfl rfl (.lt rfl rfl) ?_
  refine .p rfl rfl (.as rfl) ?_
  refine .nil (.code ?_)
  refine .ret _ rfl ?_
  exact ⟨rfl, N1.ext⟩
theorem IndexLow_fn {w : World} {v : Value} {l : List Piece} (h : (Sl tPiece).rep All w v l) : Fn Tryz.prog 169 [v, .func (.func 117) #[] #[]] w (fun r w2 => ∃ n : Int, r = i64 n ∧ (0 ≤ n ↔ ∃ p ∈ l, p.fr < 80) ∧ Ext (fun _ => False) w w2) := by
  obtain ⟨a, cap, rfl, hcap⟩ := Sl.val h
  have hlim := Sl.lim h
  simp only [Lim] at hlim
  refine Fn.enter (fun w => Tryz.call169 _ w) Tryz.func169 rfl ?_
  refine .seq (.region ?_)
  refine .p rfl rfl (.as rfl) ?_
  refine .nil (.code (.seq (.seq (.keep [(0, _), (1, _)] ⟨rfl, rfl, trivial⟩ (.region ?_)))))
  refine .p rfl rfl (.mv rfl) ?_
  refine .p rfl rfl (.len rfl rfl) ?_
  refine .p rfl rfl (.mv rfl) ?_
  refine .nil (.code (.block (.keep [(8, _), (7, _), (0, _), (1, _)] ⟨rfl, rfl, rfl, rfl, trivial⟩ ?_)))
  refine .loop (S := Nat × World) (fun s => [(0, .slice a l.length cap), (1, .func (.func 117) #[] #[]), (7, i64 l.length), (8, i64 s.1)]) (fun s => s.2) (fun s => s.1 ≤ l.length ∧ (∀ j (h : j < l.length), j < s.1 → ¬ l[j].fr < 80) ∧ Ext (fun _ => False) w s.2) (fun s => l.length - s.1) (0, w) ⟨rfl, rfl, rfl, rfl, trivial⟩ rfl ⟨Nat.zero_le _, fun j _ h => absurd h (Nat.not_lt_zero _), .refl _⟩ ?_
  rintro ⟨i, wi⟩ J ⟨hi', hn, hX⟩ again
  simp only at hi' hn hX
  change G _ [(0, .slice a l.length cap), (1, .func (.func 117) #[] #[]), (7, i64 l.length), (8, i64 i)] _ _ wi
  refine .seq (.region ?_)
  refine .p rfl rfl (.lt rfl rfl) ?_
  refine .nil (.code (.seq ?_))
  refine .condD rfl (fun c9 => ?_) (fun c9 => ?_)
  · have hi : i < l.length := by omega
    obtain ⟨b1, o1, q1, ue, e, _, hcs, hre⟩ := Sl.at h (List.getElem?_eq_getElem hi)
    cases e
    obtain ⟨rfl, hr1, hr2⟩ := tPiece.val hre
    refine .skip (.code (.seq (.block (.seq (.keep [(0, _), (1, _), (7, _), (8, _)] ⟨rfl, rfl, rfl, rfl, trivial⟩ (.region ?_))))))
    refine .p rfl rfl (.mv rfl) ?_
    refine .p rfl rfl (.as rfl) ?_
    refine .nil (.code (.seq (.keep [(5, _), (0, _), (1, _), (7, _), (8, _)] ⟨rfl, rfl, rfl, rfl, rfl, trivial⟩ (.region ?_))))
    refine .p rfl rfl (.mv rfl) ?_
    refine .p rfl rfl (.mv rfl) ?_
    refine .p rfl rfl (.mv rfl) ?_
    refine .p rfl rfl (.indexAddr (s := 2) rfl rfl rfl rfl (by omega)) ?_
    refine .p rfl rfl (.loadA (n := 2) rfl rfl rfl rfl rfl (hcs.ext hX (fun x => x))) ?_
    refine .call (first := []) (captured := []) rfl rfl rfl rfl (check1_fn (p := l[i])) ?_
    rintro _ w16 ⟨rfl, X16⟩
    refine .nil (.code (.keep [(16, _), (5, _), (0, _), (1, _), (7, _), (8, _)] ⟨rfl, rfl, rfl, rfl, rfl, rfl, trivial⟩ ?_))
    refine .condD rfl (fun c16 => ?_) (fun c16 => ?_)
    · refine .seq (.keep [(5, _)] ⟨rfl, trivial⟩ (.region ?_))
      refine .p rfl rfl (.mv rfl) ?_
      refine .p rfl rfl (.as rfl) ?_
      refine .nil (.code ?_)
      refine .ret _ rfl ?_
      exact ⟨_, rfl, ⟨fun _ => ⟨l[i], List.getElem_mem hi, c16⟩, fun _ => by omega⟩, hX.trans X16⟩
    · refine .skip (.blk (.code (.keep [(0, _), (1, _), (7, _), (8, _)] ⟨rfl, rfl, rfl, rfl, trivial⟩ (.region ?_))))
      refine .p rfl rfl (.add rfl rfl (by omega)) ?_
      refine .p rfl rfl (.mv rfl) ?_
      refine .nil ?_
      refine (again (i + 1, w16) ⟨by show i + 1 ≤ _; omega, fun j hj h1 => ?_, hX.trans X16⟩ (by show _ - (i + 1) < _ - i; omega)).of ⟨rfl, rfl, rfl, rfl, trivial⟩
      rcases Nat.lt_or_ge j i with h2 | h2
      · exact hn j hj h2
      · have h1 : j < i + 1 := h1
        obtain rfl : j = i := by omega
        exact c16
  · obtain rfl : i = l.length := by omega
    refine .exit rfl (.code (.seq (.keep [] trivial (.region ?_))))
    refine .p rfl rfl (.as rfl) ?_
    refine .nil (.code ?_)
    refine .ret _ rfl ?_
    refine ⟨_, rfl, ⟨fun h => absurd h (by decide), fun ⟨p, hp, h1⟩ => ?_⟩, hX⟩
    obtain ⟨j, hj, rfl⟩ := List.getElem_of_mem hp
    exact absurd h1 (hn j hj hj)
theorem ContainsLow_fn {w : World} {v : Value} {l : List Piece} (h : (Sl tPiece).rep All w v l) : Fn Tryz.prog 116 [v, .func (.func 117) #[] #[]] w (fun r w2 => (∃ t : Bool, r = .bool t ∧ (t = true ↔ ∃ p ∈ l, p.fr < 80)) ∧ Ext (fun _ => False) w w2) := by
  refine Fn.enter (fun w => Tryz.call116 _ w) Tryz.func116 rfl ?_
  refine .seq (.region ?_)
  refine .p rfl rfl (.as rfl) ?_
  refine .nil (.code (.seq (.keep [(0, _), (1, _)] ⟨rfl, rfl, trivial⟩ (.region ?_))))
  refine .p rfl rfl (.mv rfl) ?_
  refine .p rfl rfl (.mv rfl) ?_
  refine .call (first := []) (captured := []) rfl rfl rfl rfl (IndexLow_fn h) ?_
  rintro _ w7 ⟨n, rfl, hn, X7⟩
  refine .p rfl rfl (.ge rfl rfl) ?_
  refine .p rfl rfl (.as rfl) ?_
  refine .nil (.code ?_)
  refine .ret _ rfl ?_
  exact ⟨⟨_, rfl, by rw [decide_eq_true_iff]; exact hn⟩, X7⟩
theorem check_fn {w : World} {v : Value} {x : Dir} (h : tDir.rep All w v x) (hp : (allP x.fs).length ≤ 1000000) : Fn Tryz.prog 76 [v] w (fun r w2 => ErrV w.heap.size w2 r (checkD x) ∧ Ext (fun _ => False) w w2) := by
  obtain ⟨a, cap, rfl, hf, hg⟩ := tDir.val h
  have hlim := Sl.lim hf
  simp only [Lim] at hlim
  refine Fn.enter (fun w => Tryz.call76 _ w) Tryz.func76 rfl ?_
  refine .seq (.region ?_)
  refine .v rfl rfl (.box rfl) ?_
  rintro _ w1 ⟨rfl, N1⟩
  refine .p rfl rfl (.as rfl) ?_
  refine .nil (.code (.seq (.seq (.keep [(1, _)] ⟨rfl, trivial⟩ (.region ?_)))))
  refine .p rfl rfl (.fieldAddr rfl rfl rfl rfl) ?_
  refine .p rfl rfl (.load rfl rfl rfl (N1.blk.cell 1)) ?_
  refine .p rfl rfl (.len rfl rfl) ?_
  refine .p rfl rfl (.gt rfl rfl) ?_
  refine .nil (.code (.keep [(11, _), (1, _)] ⟨rfl, rfl, trivial⟩ ?_))
  refine .condD rfl (fun c11 => ?_) (fun c11 => ?_)
  · refine .seq (.keep [] trivial (.region ?_))
    refine .call (first := []) (captured := []) rfl rfl rfl rfl (fail_fn (e := 42) (by decide)) ?_
    rintro r12 w12 ⟨G12, X12⟩
    refine .p rfl rfl (.as rfl) ?_
    refine .nil (.code ?_)
    refine .ret _ rfl ?_
    rw [checkD_42 (by omega)]
    exact ⟨G12.low N1.ext.size, N1.ext.trans X12⟩
  · have hl : ¬ 32 < x.fs.length := by omega
    refine .skip (.code (.seq (.keep [(1, _)] ⟨rfl, trivial⟩ (.region ?_))))
    refine .p rfl rfl (.loadA (n := 2) rfl rfl rfl rfl rfl N1.blk.cells) ?_
    refine .call (first := []) (captured := []) rfl rfl rfl rfl (pieces_fn (tDir.ext0 h N1.ext) hp) ?_
    rintro r14 w14 ⟨O14, X14⟩
    have B14 := N1.blk.ext X14 (fun x => x)
    have R14 := OwnO.rep O14 (R := All) (fun _ _ _ => trivial) (fun _ h _ => h.elim)
    refine .p rfl rfl (.as rfl) ?_
    refine .nil (.code (.seq (.seq (.keep [(3, _), (1, _)] ⟨rfl, rfl, trivial⟩ (.region ?_)))))
    refine .p rfl rfl (.fieldAddr rfl rfl rfl rfl) ?_
    refine .p rfl rfl (.load rfl rfl rfl (B14.cell 0)) ?_
    refine .p rfl rfl (.lt rfl rfl) ?_
    refine .p rfl rfl (.mv rfl) ?_
    refine .caseD 18 rfl (fun c18 => ?_) (fun c18 => ?_)
    · refine .skip rfl rfl ?_
      refine .skip rfl rfl ?_
      refine .skip rfl rfl ?_
      refine .p rfl rfl (.pickT rfl rfl) ?_
      refine .p rfl rfl (.mv rfl) ?_
      refine .skip rfl rfl ?_
      refine .skip rfl rfl ?_
      refine .skip rfl rfl ?_
      refine .p rfl rfl (.pickT rfl rfl) ?_
      refine .nil (.code (.keep [(27, _), (3, _), (1, _)] ⟨rfl, rfl, rfl, trivial⟩ (.condT rfl (.seq (.keep [] trivial (.region ?_))))))
      refine .call (first := []) (captured := []) rfl rfl rfl rfl (fail_fn (e := 8) (by decide)) ?_
      rintro r28 w28 ⟨G28, X28⟩
      refine .p rfl rfl (.as rfl) ?_
      refine .nil (.code ?_)
      refine .ret _ rfl ?_
      rw [checkD_8 hl (fun hm => by have := hm.1.1; omega)]
      exact ⟨G28.low (N1.ext.trans X14).size, N1.ext.trans (X14.trans X28)⟩
    · refine .p rfl rfl (.fieldAddr rfl rfl rfl rfl) ?_
      refine .p rfl rfl (.load rfl rfl rfl (B14.cell 0)) ?_
      refine .p rfl rfl (.ge rfl rfl) ?_
      refine .p rfl rfl (.pickF rfl rfl) ?_
      refine .p rfl rfl (.mv rfl) ?_
      refine .caseD 23 rfl (fun c23 => ?_) (fun c23 => ?_)
      · refine .skip rfl rfl ?_
        refine .skip rfl rfl ?_
        refine .skip rfl rfl ?_
        refine .p rfl rfl (.pickT rfl rfl) ?_
        refine .nil (.code (.keep [(27, _), (3, _), (1, _)] ⟨rfl, rfl, rfl, trivial⟩ (.condT rfl (.seq (.keep [] trivial (.region ?_))))))
        refine .call (first := []) (captured := []) rfl rfl rfl rfl (fail_fn (e := 8) (by decide)) ?_
        rintro r28 w28 ⟨G28, X28⟩
        refine .p rfl rfl (.as rfl) ?_
        refine .nil (.code ?_)
        refine .ret _ rfl ?_
        rw [checkD_8 hl (fun hm => by have := hm.1.2; omega)]
        exact ⟨G28.low (N1.ext.trans X14).size, N1.ext.trans (X14.trans X28)⟩
      · refine .p rfl rfl (.mv rfl) ?_
        refine .call (first := []) (captured := []) rfl rfl rfl rfl (RoomCheck_fn R14) ?_
        rintro _ w25 ⟨rfl, X25⟩
        refine .p rfl rfl (.ne rfl rfl) ?_
        refine .p rfl rfl (.pickF rfl rfl) ?_
        refine .nil (.code (.keep [(27, _), (3, _), (1, _)] ⟨rfl, rfl, rfl, trivial⟩ ?_))
        refine .condD rfl (fun c27 => ?_) (fun c27 => ?_)
        · refine .seq (.keep [] trivial (.region ?_))
          refine .call (first := []) (captured := []) rfl rfl rfl rfl (fail_fn (e := 8) (by decide)) ?_
          rintro r28 w28 ⟨G28, X28⟩
          refine .p rfl rfl (.as rfl) ?_
          refine .nil (.code ?_)
          refine .ret _ rfl ?_
          rw [checkD_8 hl (fun hm => c27 hm.2.1)]
          exact ⟨G28.low (N1.ext.trans (X14.trans X25)).size, N1.ext.trans (X14.trans (X25.trans X28))⟩
        · refine .skip (.code (.seq (.seq (.keep [(3, _), (1, _)] ⟨rfl, rfl, trivial⟩ (.region ?_)))))
          refine .p rfl rfl (.mv rfl) ?_
          refine .call (first := []) (captured := []) rfl rfl rfl rfl (ContainsLow_fn ((Sl tPiece).ext0 R14 X25)) ?_
          rintro _ w30 ⟨⟨t30, rfl, ht30⟩, X30⟩
          refine .nil (.code (.keep [(30, _), (1, _)] ⟨rfl, rfl, trivial⟩ ?_))
          refine .cond rfl (fun c30 => ?_) (fun c30 => ?_)
          · refine .seq (.keep [] trivial (.region ?_))
            refine .call (first := []) (captured := []) rfl rfl rfl rfl (fail_fn (e := 8) (by decide)) ?_
            rintro r31 w31 ⟨G31, X31⟩
            refine .p rfl rfl (.as rfl) ?_
            refine .nil (.code ?_)
            refine .ret _ rfl ?_
            obtain ⟨p, hpm, hlow⟩ := ht30.1 c30
            rw [checkD_8 hl (fun hm => by have := hm.2.2.1 p hpm; omega)]
            exact ⟨G31.low (N1.ext.trans (X14.trans (X25.trans X30))).size, N1.ext.trans (X14.trans (X25.trans (X30.trans X31)))⟩
          · refine .skip (.code (.seq (.seq (.keep [(1, _)] ⟨rfl, trivial⟩ (.region ?_)))))
            refine .p rfl rfl (.fieldAddr rfl rfl rfl rfl) ?_
            refine .p rfl rfl (.load rfl rfl rfl (((B14.ext X25 (fun x => x)).ext X30 (fun x => x)).cell 1)) ?_
            refine .p rfl rfl (.len rfl rfl) ?_
            refine .p rfl rfl (.mv rfl) ?_
            refine .nil (.code (.block (.keep [(35, _), (34, _), (33, _), (1, _)] ⟨rfl, rfl, rfl, rfl, trivial⟩ ?_)))
            refine .loop (S := Nat × World) (fun s => [(1, .pointer (some ⟨w.heap.size, 0, none⟩)), (33, .slice a x.fs.length cap), (34, i64 x.fs.length), (35, i64 s.1)]) (fun s => s.2) (fun s => s.1 ≤ x.fs.length ∧ (∀ j (h : j < x.fs.length), j < s.1 → okAt x.fs j h) ∧ Ext (fun _ => False) w1 s.2) (fun s => x.fs.length - s.1) (0, w30) ⟨rfl, rfl, rfl, rfl, trivial⟩ rfl ⟨Nat.zero_le _, fun j _ h => absurd h (Nat.not_lt_zero _), X14.trans (X25.trans X30)⟩ ?_
            rintro ⟨i, wi⟩ J ⟨hi', hok, hX1⟩ again
            simp only at hi' hok hX1
            have hX := N1.ext.trans hX1
            change G _ [(1, .pointer (some ⟨w.heap.size, 0, none⟩)), (33, .slice a x.fs.length cap), (34, i64 x.fs.length), (35, i64 i)] _ _ wi
            refine .seq (.region ?_)
            refine .p rfl rfl (.lt rfl rfl) ?_
            refine .nil (.code (.seq ?_))
            refine .condD rfl (fun c36 => ?_) (fun c36 => ?_)
            · have hi : i < x.fs.length := by omega
              obtain ⟨b1, o1, q1, ue1, e1, _, hcs1, hre1⟩ := Sl.at hf (List.getElem?_eq_getElem hi)
              cases e1
              obtain ⟨fa1, fc1, rfl, hps1, hnm1, hsz1⟩ := tFile.val hre1
              refine .skip (.code (.seq (.block (.seq (.keep [(1, _), (33, _), (34, _), (35, _)] ⟨rfl, rfl, rfl, rfl, trivial⟩ (.region ?_))))))
              refine .p rfl rfl (.mv rfl) ?_
              refine .p rfl rfl (.indexAddr (s := 3) rfl rfl rfl rfl (by omega)) ?_
              refine .p rfl rfl (.loadA (n := 3) rfl rfl rfl rfl rfl (hcs1.ext hX (fun x => x))) ?_
              refine .v rfl rfl (.alloc rfl rfl) ?_
              rintro _ w5 ⟨rfl, N5⟩
              refine .p rfl rfl (.as rfl) ?_
              refine .s rfl (.storeAll (n := 3) rfl rfl rfl rfl rfl N5.blk rfl) ?_
              intro w10 P10
              have Y10 := hX1.trans (N5.ext.then P10.ext (by rintro k rfl _; exact Nat.le_refl _))
              have X10 := N1.ext.trans Y10
              have B10 := P10.blk
              refine .nil (.code (.seq (.seq (.keep [(4, _), (5, _), (1, _), (33, _), (34, _), (35, _)] ⟨rfl, rfl, rfl, rfl, rfl, rfl, trivial⟩ (.mix (fun _ => False) [2] (by kernel_rfl) (by kernel_rfl) (by kernel_rfl) ?_)))))
              refine .p rfl rfl rfl (fun wx hx => .fieldAddr rfl rfl rfl rfl) ?_
              refine .p rfl rfl rfl (fun wx hx => .load rfl rfl rfl ((B10.ext hx (fun x => x)).cell 0)) ?_
              refine .call (first := []) (captured := []) rfl rfl rfl rfl rfl (name_fn hnm1) (by rintro _ _ ⟨_, hx⟩; exact hx) ?_
              rintro _ w42 ⟨rfl, X42⟩
              have Z42 := X10.trans X42
              refine .p rfl rfl rfl (fun wx hx => .not rfl) ?_
              refine .p rfl rfl rfl (fun wx hx => .mv rfl) ?_
              refine .case 44 rfl (fun c44 => ?_) (fun c44 => ?_)
              · refine .skip rfl rfl ?_
                refine .skip rfl rfl ?_
                refine .skip rfl rfl ?_
                refine .skip rfl rfl ?_
                refine .skip rfl rfl ?_
                refine .skip rfl rfl ?_
                refine .skip rfl rfl ?_
                refine .skip rfl rfl ?_
                refine .skip rfl rfl ?_
                refine .skip rfl rfl ?_
                refine .skip rfl rfl ?_
                refine .skip rfl rfl ?_
                refine .skip rfl rfl ?_
                refine .skip rfl rfl ?_
                refine .p rfl rfl rfl (fun wx hx => .pickT rfl rfl) ?_
                refine .p rfl rfl rfl (fun wx hx => .mv rfl) ?_
                refine .skip rfl rfl ?_
                refine .skip rfl rfl ?_
                refine .skip rfl rfl ?_
                refine .p rfl rfl rfl (fun wx hx => .pickT rfl rfl) ?_
                refine .p rfl rfl rfl (fun wx hx => .mv rfl) ?_
                refine .skip rfl rfl ?_
                refine .skip rfl rfl ?_
                refine .skip rfl rfl ?_
                refine .p rfl rfl rfl (fun wx hx => .pickT rfl rfl) ?_
                refine .nil (.code (.keep [(69, _), (5, _), (1, _), (33, _), (34, _), (35, _)] ⟨rfl, rfl, rfl, rfl, rfl, rfl, trivial⟩ (.condT rfl (.seq (.keep [] trivial (.region ?_))))))
                refine .call (first := []) (captured := []) rfl rfl rfl rfl (fail_fn (e := 8) (by decide)) ?_
                rintro r70 w70 ⟨G70, X70⟩
                refine .p rfl rfl (.as rfl) ?_
                refine .nil (.code ?_)
                refine .ret _ rfl ?_
                rw [bad_at hl hi (fun ho => by simp [ho.1] at c44)]
                exact ⟨G70.low (Z42).size, (Z42.trans X70)⟩
              · refine .p rfl rfl rfl (fun wx hx => .mv rfl) ?_
                refine .p rfl rfl rfl (fun wx hx => .gt rfl rfl) ?_
                refine .p rfl rfl rfl (fun wx hx => .mv rfl) ?_
                refine .caseD 47 rfl (fun c47 => ?_) (fun c47 => ?_)
                · have hpos : 0 < i := by omega
                  obtain ⟨b2, o2, q2, ue2, e2, _, hcs2, hre2⟩ := Sl.at hf (i := i - 1) (List.getElem?_eq_getElem (by omega))
                  cases e2
                  obtain ⟨fa2, fc2, rfl, hps2, hnm2, hsz2⟩ := tFile.val hre2
                  have ej : ((i : Int) - 1).toNat = i - 1 := by omega
                  refine .p rfl rfl rfl (fun wx hx => .fieldAddr rfl rfl rfl rfl) ?_
                  refine .p rfl rfl rfl (fun wx hx => .load rfl rfl rfl ((N1.blk.ext (Y10.trans hx) (fun x => x)).cell 1)) ?_
                  refine .p rfl rfl rfl (fun wx hx => .mv rfl) ?_
                  refine .p rfl rfl rfl (fun wx hx => .sub rfl rfl (by omega)) ?_
                  refine .p rfl rfl rfl (fun wx hx => .indexAddr (s := 3) rfl rfl rfl rfl (by omega)) ?_
                  refine .p rfl rfl rfl (fun wx hx => .fieldAddr rfl rfl rfl rfl) ?_
                  refine .p rfl rfl rfl (fun wx hx => .load rfl rfl rfl (by rw [ej]; exact (hcs2.ext (X10.trans hx) (fun x => x)) 0 _ rfl)) ?_
                  refine .p rfl rfl rfl (fun wx hx => .fieldAddr rfl rfl rfl rfl) ?_
                  refine .p rfl rfl rfl (fun wx hx => .load rfl rfl rfl ((B10.ext hx (fun x => x)).cell 0)) ?_
                  refine .p rfl rfl rfl (fun wx hx => .geS rfl rfl) ?_
                  refine .p rfl rfl rfl (fun wx hx => .pickT rfl rfl) ?_
                  refine .p rfl rfl rfl (fun wx hx => .pickF rfl rfl) ?_
                  refine .p rfl rfl rfl (fun wx hx => .mv rfl) ?_
                  refine .case 60 rfl (fun c60 => ?_) (fun c60 => ?_)
                  · refine .skip rfl rfl ?_
                    refine .skip rfl rfl ?_
                    refine .skip rfl rfl ?_
                    refine .p rfl rfl rfl (fun wx hx => .pickT rfl rfl) ?_
                    refine .p rfl rfl rfl (fun wx hx => .mv rfl) ?_
                    refine .skip rfl rfl ?_
                    refine .skip rfl rfl ?_
                    refine .skip rfl rfl ?_
                    refine .p rfl rfl rfl (fun wx hx => .pickT rfl rfl) ?_
                    refine .nil (.code (.keep [(69, _), (5, _), (1, _), (33, _), (34, _), (35, _)] ⟨rfl, rfl, rfl, rfl, rfl, rfl, trivial⟩ (.condT rfl (.seq (.keep [] trivial (.region ?_))))))
                    refine .call (first := []) (captured := []) rfl rfl rfl rfl (fail_fn (e := 8) (by decide)) ?_
                    rintro r70 w70 ⟨G70, X70⟩
                    refine .p rfl rfl (.as rfl) ?_
                    refine .nil (.code ?_)
                    refine .ret _ rfl ?_
                    rw [bad_at hl hi (fun ho => by simp [ho.2.1 hpos] at c60)]
                    exact ⟨G70.low (Z42).size, (Z42.trans X70)⟩
                  · refine .p rfl rfl rfl (fun wx hx => .fieldAddr rfl rfl rfl rfl) ?_
                    refine .p rfl rfl rfl (fun wx hx => .load rfl rfl rfl ((B10.ext hx (fun x => x)).cell 1)) ?_
                    refine .p rfl rfl rfl (fun wx hx => .lt rfl rfl) ?_
                    refine .p rfl rfl rfl (fun wx hx => .pickF rfl rfl) ?_
                    refine .p rfl rfl rfl (fun wx hx => .mv rfl) ?_
                    refine .caseD 65 rfl (fun c65 => ?_) (fun c65 => ?_)
                    · refine .skip rfl rfl ?_
                      refine .skip rfl rfl ?_
                      refine .skip rfl rfl ?_
                      refine .p rfl rfl rfl (fun wx hx => .pickT rfl rfl) ?_
                      refine .nil (.code (.keep [(69, _), (5, _), (1, _), (33, _), (34, _), (35, _)] ⟨rfl, rfl, rfl, rfl, rfl, rfl, trivial⟩ (.condT rfl (.seq (.keep [] trivial (.region ?_))))))
                      refine .call (first := []) (captured := []) rfl rfl rfl rfl (fail_fn (e := 8) (by decide)) ?_
                      rintro r70 w70 ⟨G70, X70⟩
                      refine .p rfl rfl (.as rfl) ?_
                      refine .nil (.code ?_)
                      refine .ret _ rfl ?_
                      rw [bad_at hl hi (fun ho => by have := ho.2.2.1; omega)]
                      exact ⟨G70.low (Z42).size, (Z42.trans X70)⟩
                    · refine .p rfl rfl rfl (fun wx hx => .fieldAddr rfl rfl rfl rfl) ?_
                      refine .p rfl rfl rfl (fun wx hx => .load rfl rfl rfl ((B10.ext hx (fun x => x)).cell 1)) ?_
                      refine .p rfl rfl rfl (fun wx hx => .gt rfl rfl) ?_
                      refine .p rfl rfl rfl (fun wx hx => .pickF rfl rfl) ?_
                      refine .nil (.code (.keep [(69, _), (5, _), (1, _), (33, _), (34, _), (35, _)] ⟨rfl, rfl, rfl, rfl, rfl, rfl, trivial⟩ ?_))
                      refine .condD rfl (fun c69 => ?_) (fun c69 => ?_)
                      · refine .seq (.keep [] trivial (.region ?_))
                        refine .call (first := []) (captured := []) rfl rfl rfl rfl (fail_fn (e := 8) (by decide)) ?_
                        rintro r70 w70 ⟨G70, X70⟩
                        refine .p rfl rfl (.as rfl) ?_
                        refine .nil (.code ?_)
                        refine .ret _ rfl ?_
                        rw [bad_at hl hi (fun ho => by have := ho.2.2.2.1; omega)]
                        exact ⟨G70.low (Z42).size, (Z42.trans X70)⟩
                      · refine .skip (.code (.seq (.keep [(5, _), (1, _), (33, _), (34, _), (35, _)] ⟨rfl, rfl, rfl, rfl, rfl, trivial⟩ (.region ?_))))
                        refine .p rfl rfl (.fieldAddr rfl rfl rfl rfl) ?_
                        refine .p rfl rfl (.load rfl rfl rfl ((B10.ext X42 (fun x => x)).cell 2)) ?_
                        refine .call (first := []) (captured := []) rfl rfl rfl rfl (RoomMany_fn (allOf ((Sl tPiece).ext0 hps1 Z42))) ?_
                        rintro _ w74 ⟨rfl, X74⟩
                        refine .p rfl rfl (.mv rfl) ?_
                        refine .p rfl rfl (.extract rfl rfl) ?_
                        refine .p rfl rfl (.extract rfl rfl) ?_
                        refine .p rfl rfl (.as rfl) ?_
                        refine .p rfl rfl (.as rfl) ?_
                        refine .nil (.code (.seq (.keep [(6, _), (5, _), (1, _), (33, _), (34, _), (35, _)] ⟨rfl, rfl, rfl, rfl, rfl, rfl, trivial⟩ (.region ?_))))
                        refine .p rfl rfl (.mv rfl) ?_
                        refine .p rfl rfl (.fieldAddr rfl rfl rfl rfl) ?_
                        refine .p rfl rfl (.load rfl rfl rfl (((B10.ext X42 (fun x => x)).ext X74 (fun x => x)).cell 1)) ?_
                        refine .call (first := []) (captured := []) rfl rfl rfl rfl (fsec_fn (by omega)) ?_
                        rintro _ wz ⟨rfl, hz⟩
                        subst wz
                        refine .p rfl rfl (.ne rfl rfl) ?_
                        refine .nil (.code (.keep [(81, _), (1, _), (33, _), (34, _), (35, _)] ⟨rfl, rfl, rfl, rfl, rfl, trivial⟩ ?_))
                        refine .condD rfl (fun c81 => ?_) (fun c81 => ?_)
                        · refine .seq (.keep [] trivial (.region ?_))
                          refine .call (first := []) (captured := []) rfl rfl rfl rfl (fail_fn (e := 8) (by decide)) ?_
                          rintro r82 w82 ⟨G82, X82⟩
                          refine .p rfl rfl (.as rfl) ?_
                          refine .nil (.code ?_)
                          refine .ret _ rfl ?_
                          rw [bad_at hl hi (fun ho => c81 (by rw [← manyF_eq]; exact ho.2.2.2.2))]
                          exact ⟨G82.low (Z42.trans X74).size, (Z42.trans (X74.trans X82))⟩
                        · refine .skip (.blk (.code (.keep [(1, _), (33, _), (34, _), (35, _)] ⟨rfl, rfl, rfl, rfl, trivial⟩ (.region ?_))))
                          refine .p rfl rfl (.add rfl rfl (by omega)) ?_
                          refine .p rfl rfl (.mv rfl) ?_
                          refine .nil ?_
                          refine (again (i + 1, w74) ⟨by show i + 1 ≤ _; omega, fun j hj h1 => ?_, Y10.trans (X42.trans X74)⟩ (by show _ - (i + 1) < _ - i; omega)).of ⟨rfl, rfl, rfl, rfl, trivial⟩
                          rcases Nat.lt_or_ge j i with h2 | h2
                          · exact hok j hj h2
                          · have h1 : j < i + 1 := h1
                            obtain rfl : j = i := by omega
                            exact ⟨by simpa using c44, fun _ => by simpa using c60, by omega, by omega, by rw [manyF_eq]; exact Classical.not_not.1 c81⟩
                · refine .skip rfl rfl ?_
                  refine .skip rfl rfl ?_
                  refine .skip rfl rfl ?_
                  refine .skip rfl rfl ?_
                  refine .skip rfl rfl ?_
                  refine .skip rfl rfl ?_
                  refine .skip rfl rfl ?_
                  refine .skip rfl rfl ?_
                  refine .skip rfl rfl ?_
                  refine .skip rfl rfl ?_
                  refine .p rfl rfl rfl (fun wx hx => .pickF rfl rfl) ?_
                  refine .p rfl rfl rfl (fun wx hx => .pickF rfl rfl) ?_
                  refine .p rfl rfl rfl (fun wx hx => .mv rfl) ?_
                  refine .p rfl rfl rfl (fun wx hx => .fieldAddr rfl rfl rfl rfl) ?_
                  refine .p rfl rfl rfl (fun wx hx => .load rfl rfl rfl ((B10.ext hx (fun x => x)).cell 1)) ?_
                  refine .p rfl rfl rfl (fun wx hx => .lt rfl rfl) ?_
                  refine .p rfl rfl rfl (fun wx hx => .pickF rfl rfl) ?_
                  refine .p rfl rfl rfl (fun wx hx => .mv rfl) ?_
                  refine .caseD 65 rfl (fun c65 => ?_) (fun c65 => ?_)
                  · refine .skip rfl rfl ?_
                    refine .skip rfl rfl ?_
                    refine .skip rfl rfl ?_
                    refine .p rfl rfl rfl (fun wx hx => .pickT rfl rfl) ?_
                    refine .nil (.code (.keep [(69, _), (5, _), (1, _), (33, _), (34, _), (35, _)] ⟨rfl, rfl, rfl, rfl, rfl, rfl, trivial⟩ (.condT rfl (.seq (.keep [] trivial (.region ?_))))))
                    refine .call (first := []) (captured := []) rfl rfl rfl rfl (fail_fn (e := 8) (by decide)) ?_
                    rintro r70 w70 ⟨G70, X70⟩
                    refine .p rfl rfl (.as rfl) ?_
                    refine .nil (.code ?_)
                    refine .ret _ rfl ?_
                    rw [bad_at hl hi (fun ho => by have := ho.2.2.1; omega)]
                    exact ⟨G70.low (Z42).size, (Z42.trans X70)⟩
                  · refine .p rfl rfl rfl (fun wx hx => .fieldAddr rfl rfl rfl rfl) ?_
                    refine .p rfl rfl rfl (fun wx hx => .load rfl rfl rfl ((B10.ext hx (fun x => x)).cell 1)) ?_
                    refine .p rfl rfl rfl (fun wx hx => .gt rfl rfl) ?_
                    refine .p rfl rfl rfl (fun wx hx => .pickF rfl rfl) ?_
                    refine .nil (.code (.keep [(69, _), (5, _), (1, _), (33, _), (34, _), (35, _)] ⟨rfl, rfl, rfl, rfl, rfl, rfl, trivial⟩ ?_))
                    refine .condD rfl (fun c69 => ?_) (fun c69 => ?_)
                    · refine .seq (.keep [] trivial (.region ?_))
                      refine .call (first := []) (captured := []) rfl rfl rfl rfl (fail_fn (e := 8) (by decide)) ?_
                      rintro r70 w70 ⟨G70, X70⟩
                      refine .p rfl rfl (.as rfl) ?_
                      refine .nil (.code ?_)
                      refine .ret _ rfl ?_
                      rw [bad_at hl hi (fun ho => by have := ho.2.2.2.1; omega)]
                      exact ⟨G70.low (Z42).size, (Z42.trans X70)⟩
                    · refine .skip (.code (.seq (.keep [(5, _), (1, _), (33, _), (34, _), (35, _)] ⟨rfl, rfl, rfl, rfl, rfl, trivial⟩ (.region ?_))))
                      refine .p rfl rfl (.fieldAddr rfl rfl rfl rfl) ?_
                      refine .p rfl rfl (.load rfl rfl rfl ((B10.ext X42 (fun x => x)).cell 2)) ?_
                      refine .call (first := []) (captured := []) rfl rfl rfl rfl (RoomMany_fn (allOf ((Sl tPiece).ext0 hps1 Z42))) ?_
                      rintro _ w74 ⟨rfl, X74⟩
                      refine .p rfl rfl (.mv rfl) ?_
                      refine .p rfl rfl (.extract rfl rfl) ?_
                      refine .p rfl rfl (.extract rfl rfl) ?_
                      refine .p rfl rfl (.as rfl) ?_
                      refine .p rfl rfl (.as rfl) ?_
                      refine .nil (.code (.seq (.keep [(6, _), (5, _), (1, _), (33, _), (34, _), (35, _)] ⟨rfl, rfl, rfl, rfl, rfl, rfl, trivial⟩ (.region ?_))))
                      refine .p rfl rfl (.mv rfl) ?_
                      refine .p rfl rfl (.fieldAddr rfl rfl rfl rfl) ?_
                      refine .p rfl rfl (.load rfl rfl rfl (((B10.ext X42 (fun x => x)).ext X74 (fun x => x)).cell 1)) ?_
                      refine .call (first := []) (captured := []) rfl rfl rfl rfl (fsec_fn (by omega)) ?_
                      rintro _ wz ⟨rfl, hz⟩
                      subst wz
                      refine .p rfl rfl (.ne rfl rfl) ?_
                      refine .nil (.code (.keep [(81, _), (1, _), (33, _), (34, _), (35, _)] ⟨rfl, rfl, rfl, rfl, rfl, trivial⟩ ?_))
                      refine .condD rfl (fun c81 => ?_) (fun c81 => ?_)
                      · refine .seq (.keep [] trivial (.region ?_))
                        refine .call (first := []) (captured := []) rfl rfl rfl rfl (fail_fn (e := 8) (by decide)) ?_
                        rintro r82 w82 ⟨G82, X82⟩
                        refine .p rfl rfl (.as rfl) ?_
                        refine .nil (.code ?_)
                        refine .ret _ rfl ?_
                        rw [bad_at hl hi (fun ho => c81 (by rw [← manyF_eq]; exact ho.2.2.2.2))]
                        exact ⟨G82.low (Z42.trans X74).size, (Z42.trans (X74.trans X82))⟩
                      · refine .skip (.blk (.code (.keep [(1, _), (33, _), (34, _), (35, _)] ⟨rfl, rfl, rfl, rfl, trivial⟩ (.region ?_))))
                        refine .p rfl rfl (.add rfl rfl (by omega)) ?_
                        refine .p rfl rfl (.mv rfl) ?_
                        refine .nil ?_
                        refine (again (i + 1, w74) ⟨by show i + 1 ≤ _; omega, fun j hj h1 => ?_, Y10.trans (X42.trans X74)⟩ (by show _ - (i + 1) < _ - i; omega)).of ⟨rfl, rfl, rfl, rfl, trivial⟩
                        rcases Nat.lt_or_ge j i with h2 | h2
                        · exact hok j hj h2
                        · have h1 : j < i + 1 := h1
                          obtain rfl : j = i := by omega
                          exact ⟨by simpa using c44, fun h0 => absurd h0 (by omega), by omega, by omega, by rw [manyF_eq]; exact Classical.not_not.1 c81⟩
            · obtain rfl : i = x.fs.length := by omega
              refine .exit rfl (.code (.seq (.keep [] trivial (.region ?_))))
              refine .p rfl rfl (.as rfl) ?_
              refine .nil (.code ?_)
              refine .ret _ rfl ?_
              refine ⟨.inl ⟨checkD_0 hl ⟨by omega, Classical.not_not.1 c27, fun p hpm => Int.not_lt.1 (fun hlt => ?_), fun i hi => hok i hi hi⟩, rfl⟩, hX⟩
              have := ht30.2 ⟨p, hpm, hlt⟩
              rw [c30] at this
              cases this
end Go.Proofs.YthliepcjfnjnoaaGreatDoor
