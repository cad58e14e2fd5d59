
/-
  Package room: free sectors told and taken.
-/
import Derived.Test.YtagjfplipknlkaaRoom1
set_option linter.unusedVariables false
set_option linter.unusedSimpArgs false
set_option maxRecDepth 20000
namespace Go.Proofs.Ytagjfplipknlkaa
open Go room
namespace room
def freeL (first count : Int) (l : List Piece) : List Piece := if freeE first count l = 0 then freeF first.toNat count.toNat l else []
theorem freeE_2 {first count : Int} {l : List Piece} (h : count < 0 ∨ 4096 < count ∨ first < 0 ∨ count < first) : freeE first count l = 2 := if_pos h
theorem freeE_c {first count : Int} {l : List Piece} (h : ¬ (count < 0 ∨ 4096 < count ∨ first < 0 ∨ count < first)) : freeE first count l = checkR count l := if_neg h
theorem freeL_bad {first count : Int} {l : List Piece} (h : ¬ freeE first count l = 0) : freeL first count l = [] := if_neg h
theorem freeL_ok {first count : Int} {l : List Piece} (h : freeE first count l = 0) : freeL first count l = freeF first.toNat count.toNat l := if_pos h
/-- the pieces with one more at the end, that has nothing -/
theorem ended {n : Nat} {l s : List Piece} (hp : s.Perm l) (hr : Rises s) (hok : ∀ p ∈ l, okP (n : Int) p) :
    Rises (s ++ [(⟨(n : Int), 0⟩ : Piece)]) ∧ (∀ p ∈ s ++ [(⟨(n : Int), 0⟩ : Piece)], 0 ≤ p.fr ∧ 0 ≤ p.ct ∧ p.fr + p.ct ≤ n) ∧ (∀ j (h : j + 1 < (s ++ [(⟨(n : Int), 0⟩ : Piece)]).length), 1 ≤ ((s ++ [(⟨(n : Int), 0⟩ : Piece)])[j]'(by omega)).ct) ∧ (fun k => !covB (s ++ [(⟨(n : Int), 0⟩ : Piece)]) k) = fun k => !covB l k := by
  have hs : ∀ p ∈ s, okP (n : Int) p := fun p h => hok p (hp.mem_iff.1 h)
  refine ⟨List.pairwise_append.2 ⟨hr, List.pairwise_singleton _ _, fun x hx y hy => ?_⟩, fun p hp => ?_, fun j hj => ?_, ?_⟩
  · rw [List.mem_singleton] at hy; subst hy
    have := hs x hx; unfold okP at this; show x.fr + x.ct ≤ (n : Int); omega
  · rcases List.mem_append.1 hp with h | h
    · have := hs p h; unfold okP at this; omega
    · rw [List.mem_singleton] at h; subst h; exact ⟨by show (0 : Int) ≤ n; omega, by show (0 : Int) ≤ 0; omega, by show (n : Int) + 0 ≤ n; omega⟩
  · rw [List.length_append] at hj
    simp only [List.length_singleton] at hj
    have h1 : j < s.length := by omega
    rw [List.getElem_append_left h1]
    have := hs s[j] (List.getElem_mem h1); unfold okP at this; omega
  · funext k
    rw [cov_append, cov_perm hp, cov_one, decide_eq_false (by show ¬ ((n : Int) ≤ k ∧ (k : Int) < n + 0); omega), Bool.or_false]
theorem ended' {n : Nat} {l s : List Piece} (hp : s.Perm l) (hr : Rises s) (hok : ∀ p ∈ l, okP (n : Int) p) :
    ∃ q : List Piece, s ++ [(⟨(n : Int), 0⟩ : Piece)] = q ∧ Rises q ∧ (∀ p ∈ q, 0 ≤ p.fr ∧ 0 ≤ p.ct ∧ p.fr + p.ct ≤ n) ∧ (∀ j (h : j + 1 < q.length), 1 ≤ (q[j]'(by omega)).ct) ∧ ((fun k => !covB q k) = fun k => !covB l k) ∧ q.length = s.length + 1 ∧ (⟨(n : Int), 0⟩ : Piece) ∈ q :=
  let ⟨h1, h2, h3, h4⟩ := ended hp hr hok
  ⟨_, rfl, h1, h2, h3, h4, by simp, by simp⟩
theorem freeF_eq {n a f : Nat} {l : List Piece} {out : List Piece} {q : List Piece} (W : Wk (fun k => !covB q k) f q q.length a out) (hf : (fun k => !covB q k) = fun k => !covB l k) (ha : a = n) : out = freeF f n l := by
  rw [W.eq, hf, ha]; rfl
end room
theorem Free_fn {w : World} {v : Value} {l : List Piece} {first count : Int} (h : (Sl tPiece).rep All w v l) : Fn Try.prog 10 [i64 first, i64 count, v] w (fun r w2 => ∃ v', r = .tuple #[v', i64 (freeE first count l)] ∧ OwnO tPiece (fun _ => False) 30 w2 v' (freeL first count l) (fun k => w.heap.size ≤ k) ∧ Ext (fun _ => False) w w2) := by
  refine Fn.enter (fun w => Try.call10 _ w) Try.func10 rfl ?_
  refine .seq (.region ?_)
  refine .p rfl rfl (.as rfl) ?_
  refine .p rfl rfl (.as rfl) ?_
  refine .nil (.code (.seq (.seq (.keep [(0, _), (1, _), (2, _)] ⟨rfl, rfl, rfl, trivial⟩ (.region ?_)))))
  refine .p rfl rfl (.mv rfl) ?_
  refine .p rfl rfl (.lt rfl rfl) ?_
  refine .p rfl rfl (.mv rfl) ?_
  refine .caseD 15 rfl (fun c15 => ?_) (fun c15 => ?_)
  · refine .skip rfl rfl ?_
    refine .skip rfl rfl ?_
    refine .p rfl rfl (.pickT rfl rfl) ?_
    refine .p rfl rfl (.mv rfl) ?_
    refine .skip rfl rfl ?_
    refine .skip rfl rfl ?_
    refine .p rfl rfl (.pickT rfl rfl) ?_
    refine .p rfl rfl (.mv rfl) ?_
    refine .skip rfl rfl ?_
    refine .skip rfl rfl ?_
    refine .skip rfl rfl ?_
    refine .p rfl rfl (.pickT rfl rfl) ?_
    refine .nil (.code (.keep [(27, _), (0, _), (1, _), (2, _)] ⟨rfl, rfl, rfl, rfl, trivial⟩ (.condT rfl (.seq (.keep [] trivial (.region ?_))))))
    refine .p rfl rfl (.as rfl) ?_
    refine .p rfl rfl (.as rfl) ?_
    refine .nil (.code ?_)
    refine .ret _ rfl ?_
    rw [freeL_bad (by rw [freeE_2 (by omega)]; decide), freeE_2 (by omega)]
    exact ⟨_, rfl, OwnO.nil, .refl _⟩
  · refine .p rfl rfl (.mv rfl) ?_
    refine .p rfl rfl (.gt rfl rfl) ?_
    refine .p rfl rfl (.pickF rfl rfl) ?_
    refine .p rfl rfl (.mv rfl) ?_
    refine .caseD 19 rfl (fun c19 => ?_) (fun c19 => ?_)
    · refine .skip rfl rfl ?_
      refine .skip rfl rfl ?_
      refine .p rfl rfl (.pickT rfl rfl) ?_
      refine .p rfl rfl (.mv rfl) ?_
      refine .skip rfl rfl ?_
      refine .skip rfl rfl ?_
      refine .skip rfl rfl ?_
      refine .p rfl rfl (.pickT rfl rfl) ?_
      refine .nil (.code (.keep [(27, _), (0, _), (1, _), (2, _)] ⟨rfl, rfl, rfl, rfl, trivial⟩ (.condT rfl (.seq (.keep [] trivial (.region ?_))))))
      refine .p rfl rfl (.as rfl) ?_
      refine .p rfl rfl (.as rfl) ?_
      refine .nil (.code ?_)
      refine .ret _ rfl ?_
      rw [freeL_bad (by rw [freeE_2 (by omega)]; decide), freeE_2 (by omega)]
      exact ⟨_, rfl, OwnO.nil, .refl _⟩
    · refine .p rfl rfl (.mv rfl) ?_
      refine .p rfl rfl (.lt rfl rfl) ?_
      refine .p rfl rfl (.pickF rfl rfl) ?_
      refine .p rfl rfl (.mv rfl) ?_
      refine .caseD 23 rfl (fun c23 => ?_) (fun c23 => ?_)
      · refine .skip rfl rfl ?_
        refine .skip rfl rfl ?_
        refine .skip rfl rfl ?_
        refine .p rfl rfl (.pickT rfl rfl) ?_
        refine .nil (.code (.keep [(27, _), (0, _), (1, _), (2, _)] ⟨rfl, rfl, rfl, rfl, trivial⟩ (.condT rfl (.seq (.keep [] trivial (.region ?_))))))
        refine .p rfl rfl (.as rfl) ?_
        refine .p rfl rfl (.as rfl) ?_
        refine .nil (.code ?_)
        refine .ret _ rfl ?_
        rw [freeL_bad (by rw [freeE_2 (by omega)]; decide), freeE_2 (by omega)]
        exact ⟨_, rfl, OwnO.nil, .refl _⟩
      · refine .p rfl rfl (.mv rfl) ?_
        refine .p rfl rfl (.mv rfl) ?_
        refine .p rfl rfl (.gt rfl rfl) ?_
        refine .p rfl rfl (.pickF rfl rfl) ?_
        refine .nil (.code (.keep [(27, _), (0, _), (1, _), (2, _)] ⟨rfl, rfl, rfl, rfl, trivial⟩ ?_))
        refine .condD rfl (fun c27 => ?_) (fun c27 => ?_)
        · refine .seq (.keep [] trivial (.region ?_))
          refine .p rfl rfl (.as rfl) ?_
          refine .p rfl rfl (.as rfl) ?_
          refine .nil (.code ?_)
          refine .ret _ rfl ?_
          rw [freeL_bad (by rw [freeE_2 (by omega)]; decide), freeE_2 (by omega)]
          exact ⟨_, rfl, OwnO.nil, .refl _⟩
        · refine .skip (.code (.seq (.keep [(0, _), (1, _), (2, _)] ⟨rfl, rfl, rfl, trivial⟩ (.region ?_))))
          refine .p rfl rfl (.mv rfl) ?_
          refine .p rfl rfl (.mv rfl) ?_
          obtain ⟨f0, rfl⟩ := Int.eq_ofNat_of_zero_le (show 0 ≤ first by omega)
          obtain ⟨n0, rfl⟩ := Int.eq_ofNat_of_zero_le (show 0 ≤ count by omega)
          have hfe : freeE (f0 : Int) (n0 : Int) l = checkR (n0 : Int) l := freeE_c (by omega)
          refine .call (first := []) (captured := []) rfl rfl rfl rfl (rising_fn h) ?_
          rintro _ w31 ⟨v31, ps, rfl, hs1, hs2, O31, X31⟩
          refine .p rfl rfl (.mv rfl) ?_
          refine .p rfl rfl (.extract rfl rfl) ?_
          refine .p rfl rfl (.extract rfl rfl) ?_
          refine .p rfl rfl (.as rfl) ?_
          refine .p rfl rfl (.as rfl) ?_
          refine .nil (.code (.seq (.seq (.keep [(8, _), (2, _), (0, _), (1, _)] ⟨rfl, rfl, rfl, rfl, trivial⟩ (.region ?_)))))
          refine .p rfl rfl (.mv rfl) ?_
          refine .p rfl rfl (.ne rfl rfl) ?_
          refine .nil (.code (.keep [(35, _), (8, _), (2, _), (0, _), (1, _)] ⟨rfl, rfl, rfl, rfl, rfl, trivial⟩ ?_))
          refine .condD rfl (fun c35 => ?_) (fun c35 => ?_)
          · refine .seq (.keep [(8, _)] ⟨rfl, trivial⟩ (.region ?_))
            refine .p rfl rfl (.mv rfl) ?_
            refine .p rfl rfl (.as rfl) ?_
            refine .p rfl rfl (.as rfl) ?_
            refine .nil (.code ?_)
            refine .ret _ rfl ?_
            rw [freeL_bad (by rw [hfe]; exact c35), hfe]
            exact ⟨_, rfl, OwnO.nil, X31⟩
          · have hz : checkR (n0 : Int) l = 0 := Decidable.not_not.1 c35
            obtain ⟨hpm, hri⟩ := hs1 hz
            obtain ⟨_, _, hll, hmay⟩ := check_ok hz
            have hpl : ps.length = l.length := hpm.length_eq
            refine .skip (.code (.seq (.keep [(2, _), (0, _), (1, _)] ⟨rfl, rfl, rfl, trivial⟩ (.region ?_))))
            refine .p rfl rfl (.as rfl) ?_
            refine .nil (.code (.seq (.region ?_)))
            refine .p rfl rfl (.mv rfl) ?_
            refine .p rfl rfl (.as rfl) ?_
            refine .nil (.code (.seq (.seq (.keep [(10, _), (9, _), (2, _), (1, _)] ⟨rfl, rfl, rfl, rfl, trivial⟩ (.region ?_)))))
            refine .p rfl rfl (.mv rfl) ?_
            refine .p rfl rfl (.mv rfl) ?_
            refine .p rfl rfl (.build (cs := [i64 (n0 : Int), i64 0]) rfl (fun _ => by kernel_rfl)) ?_
            refine .v rfl rfl (.lits rfl rfl (fun _ => by kernel_rfl)) ?_
            rintro _ w41 ⟨rfl, N41⟩
            have z31 := X31.size
            have z41 := N41.size
            refine .v rfl rfl (.appendLo (t := tPiece) (Q := fun _ => False) (B := fun k => w.heap.size ≤ k) (eb := 16) rfl (OwnO.ext0 O31 N41.ext) (fun k hk => by show w.heap.size ≤ k; omega) rfl (.inr (New.holds (t := tPiece) (xs := [⟨(n0 : Int), 0⟩]) N41 (.cons (tPiece.mk (P := fun _ => False) (p := ⟨(n0 : Int), 0⟩) (by show -9223372036854775808 ≤ (n0 : Int) ∧ (n0 : Int) ≤ 9223372036854775807; omega) (by show (-9223372036854775808 : Int) ≤ 0 ∧ (0 : Int) ≤ 9223372036854775807; decide)) .nil) rfl)) rfl rfl rfl rfl rfl rfl rfl (by simp; omega) (by simp [Lim]; omega) (fun _ h _ => h.elim)) ?_
            rintro r42 w42 ⟨O42, X42⟩
            have Z42 : Ext (fun _ => False) w w42 := (X31.trans N41.ext).then X42 (fun k hk _ => hk)
            obtain ⟨q, hqe, hqr, hqb, hqc, hqf, hql, hqlast⟩ := ended' hpm hri hmay.1
            rw [hqe] at O42
            have R42 := OwnO.rep O42 (R := fun k => k < w42.heap.size) (fun k _ h2 => h2) (fun _ h _ => h.elim)
            obtain ⟨a42, c42, rfl, hc42⟩ := Sl.val R42
            refine .p rfl rfl (.len rfl rfl) ?_
            refine .p rfl rfl (.mv rfl) ?_
            refine .nil (.code (.block (.keep [(44, _), (43, _), (42, _), (10, _), (9, _)] ⟨rfl, rfl, rfl, rfl, rfl, trivial⟩ ?_)))
            refine .loop (S := Nat × World × Value × Nat × List Piece) (fun s => [(9, s.2.2.1), (10, i64 (s.2.2.2.1 : Nat)), (42, .slice a42 q.length c42), (43, i64 q.length), (44, i64 s.1)]) (fun s => s.2.1) (fun s => s.1 ≤ q.length ∧ OwnO tPiece (fun _ => False) 30 s.2.1 s.2.2.1 s.2.2.2.2 (fun k => w42.heap.size ≤ k) ∧ Ext (fun k => w42.heap.size ≤ k) w42 s.2.1 ∧ Wk (fun k => !covB q k) f0 q s.1 s.2.2.2.1 s.2.2.2.2 ∧ s.2.2.2.1 ≤ n0 ∧ s.2.2.2.2.length ≤ s.1) (fun s => q.length - s.1) (0, w42, .slice none 0 0, f0, []) ⟨rfl, rfl, rfl, rfl, rfl, trivial⟩ rfl ⟨Nat.zero_le _, OwnO.nil, .refl _, Wk.begin _ _ _, by show f0 ≤ n0; omega, Nat.le_refl _⟩ ?_
            rintro ⟨i, wi, vo, at_, out⟩ J ⟨hi', hO, hX, hW, hat, hlen⟩ again
            simp only at hi' hO hX hW hat hlen
            change G _ [(9, vo), (10, i64 (at_ : Nat)), (42, .slice a42 q.length c42), (43, i64 q.length), (44, i64 i)] _ _ wi
            refine .seq (.region ?_)
            refine .p rfl rfl (.lt rfl rfl) ?_
            refine .nil (.code (.seq ?_))
            refine .condD rfl (fun c45 => ?_) (fun c45 => ?_)
            · have hi : i < q.length := by omega
              obtain ⟨b1, o1, q1, ue, e, _, hcs, hre⟩ := Sl.at ((Sl tPiece).ext R42 hX (fun k h1 _ h2 => by have h1 : k < w42.heap.size := h1; have h2 : w42.heap.size ≤ k := h2; omega)) (List.getElem?_eq_getElem hi)
              cases e
              obtain ⟨rfl, hr1, hr2⟩ := tPiece.val hre
              obtain ⟨hqi1, hqi2, hqi3⟩ := hqb q[i] (List.getElem_mem hi)
              have zi := hX.size
              have hW' := hW.free hqr (fun p hp => (hqb p hp).2.1) hqc hi
              have hol : out.length ≤ 4096 := by have := hlen; omega
              refine .skip (.code (.seq (.block (.seq (.keep [(9, _), (10, _), (42, _), (43, _), (44, _)] ⟨rfl, rfl, rfl, rfl, rfl, trivial⟩ (.region ?_))))))
              refine .p rfl rfl (.indexAddr (s := 2) rfl rfl rfl rfl (by omega)) ?_
              refine .p rfl rfl (.loadA (n := 2) rfl rfl rfl rfl rfl hcs) ?_
              refine .v rfl rfl (.alloc rfl rfl) ?_
              rintro _ w7a ⟨rfl, N7⟩
              refine .s rfl (.storeAll (n := 2) rfl rfl rfl rfl rfl N7.blk rfl) ?_
              intro w7 P7
              have X7 := N7.ext.then P7.ext (by rintro k rfl _; exact Nat.le_refl _)
              have B7 := P7.blk
              have hO := OwnO.ext0 (OwnO.mono (B' := fun k => w42.heap.size ≤ k ∧ k ≠ wi.heap.size) hO (fun _ h _ => h) (fun k h1 h2 => ⟨h1, Nat.ne_of_lt h2⟩)) X7
              have hX := hX.trans (X7.mono (fun _ _ h => h.elim))
              have zz := X7.size
              have hp0 : ¬ w7.heap.size ≤ wi.heap.size := by have := N7.size; have := P7.ext.size; omega
              refine .nil (.code (.seq (.seq (.keep [(12, _), (9, _), (10, _), (42, _), (43, _), (44, _)] ⟨rfl, rfl, rfl, rfl, rfl, rfl, trivial⟩ (.region ?_)))))
              refine .p rfl rfl (.fieldAddr rfl rfl rfl rfl) ?_
              refine .p rfl rfl (.load rfl rfl rfl (B7.cell 0)) ?_
              refine .p rfl rfl (.mv rfl) ?_
              refine .p rfl rfl (.gt rfl rfl) ?_
              refine .nil (.code (.keep [(51, _), (12, _), (9, _), (10, _), (42, _), (43, _), (44, _)] ⟨rfl, rfl, rfl, rfl, rfl, rfl, rfl, trivial⟩ ?_))
              refine .condD rfl (fun c51 => ?_) (fun c51 => ?_)
              · refine .keep [(12, _), (9, _), (10, _), (42, _), (43, _), (44, _)] ⟨rfl, rfl, rfl, rfl, rfl, rfl, trivial⟩ (.region ?_)
                refine .p rfl rfl (.mv rfl) ?_
                refine .p rfl rfl (.mv rfl) ?_
                refine .p rfl rfl (.fieldAddr rfl rfl rfl rfl) ?_
                refine .p rfl rfl (.load rfl rfl rfl (B7.cell 0)) ?_
                refine .p rfl rfl (.mv rfl) ?_
                refine .p rfl rfl (.sub rfl rfl (by omega)) ?_
                refine .p rfl rfl (.build (cs := [i64 (at_ : Int), i64 (q[i].fr - (at_ : Int))]) rfl (fun _ => by kernel_rfl)) ?_
                refine .v rfl rfl (.lits rfl rfl (fun _ => by kernel_rfl)) ?_
                rintro _ w59 ⟨rfl, N59⟩
                refine .v rfl rfl (.appendLo (t := tPiece) (xs := out) (ys := [⟨(at_ : Int), q[i].fr - (at_ : Int)⟩]) (Q := fun _ => False) (B := fun k => w42.heap.size ≤ k ∧ k ≠ wi.heap.size) (eb := 16) rfl (OwnO.ext0 hO N59.ext) (fun k hk => by have := N59.size; exact ⟨by omega, by omega⟩) rfl (.inr (New.holds (t := tPiece) (xs := [⟨(at_ : Int), q[i].fr - (at_ : Int)⟩]) N59 (.cons (tPiece.mk (P := fun _ => False) (p := ⟨(at_ : Int), q[i].fr - (at_ : Int)⟩) (by show -9223372036854775808 ≤ (at_ : Int) ∧ (at_ : Int) ≤ 9223372036854775807; omega) (by show -9223372036854775808 ≤ q[i].fr - (at_ : Int) ∧ q[i].fr - (at_ : Int) ≤ 9223372036854775807; omega)) .nil) rfl)) rfl rfl rfl rfl rfl rfl rfl (by simp; omega) (by simp [Lim]; omega) (fun _ h _ => h.elim)) ?_
                rintro r60 w60 ⟨O60, X60⟩
                have B7 := (B7.ext N59.ext (fun x => x)).ext X60 (fun h => h.2 rfl)
                have hX := (hX.trans (N59.ext.mono (fun _ _ h => h.elim))).trans (X60.mono (fun _ _ h => h.1))
                refine .p rfl rfl (.as rfl) ?_
                refine .nil (.code (.keep [(9, _), (12, _), (10, _), (42, _), (43, _), (44, _)] ⟨rfl, rfl, rfl, rfl, rfl, rfl, trivial⟩ (.region ?_)))
                refine .p rfl rfl (.mv rfl) ?_
                refine .p rfl rfl (.fieldAddr rfl rfl rfl rfl) ?_
                refine .p rfl rfl (.load rfl rfl rfl (B7.cell 0)) ?_
                refine .p rfl rfl (.fieldAddr rfl rfl rfl rfl) ?_
                refine .p rfl rfl (.load rfl rfl rfl (B7.cell 1)) ?_
                refine .p rfl rfl (.add rfl rfl (by omega)) ?_
                refine .p rfl rfl (.cast (.max2 rfl rfl) (show _ = i64 ((max (at_ : Int) (q[i].fr + q[i].ct)).toNat : Nat) by rw [Int.toNat_of_nonneg (by omega)])) ?_
                refine .p rfl rfl (.as rfl) ?_
                refine .nil (.blk (.code (.keep [(10, _), (9, _), (42, _), (43, _), (44, _)] ⟨rfl, rfl, rfl, rfl, rfl, trivial⟩ (.region ?_))))
                refine .p rfl rfl (.add rfl rfl (by omega)) ?_
                refine .p rfl rfl (.mv rfl) ?_
                refine .nil ?_
                rw [if_pos (by omega)] at hW'
                exact (again (i + 1, w60, _, (max (at_ : Int) (q[i].fr + q[i].ct)).toNat, _) ⟨by show i + 1 ≤ _; omega, OwnO.mono O60 (fun _ h _ => h) (fun k h _ => h.1), hX, hW', by show (max (at_ : Int) (q[i].fr + q[i].ct)).toNat ≤ n0; omega, by show (out ++ [_]).length ≤ _; simp; omega⟩ (by show _ - (i + 1) < _ - i; omega)).of ⟨rfl, rfl, rfl, rfl, rfl, trivial⟩
              · refine .skip (.code (.keep [(12, _), (9, _), (10, _), (42, _), (43, _), (44, _)] ⟨rfl, rfl, rfl, rfl, rfl, rfl, trivial⟩ (.region ?_)))
                refine .p rfl rfl (.mv rfl) ?_
                refine .p rfl rfl (.fieldAddr rfl rfl rfl rfl) ?_
                refine .p rfl rfl (.load rfl rfl rfl (B7.cell 0)) ?_
                refine .p rfl rfl (.fieldAddr rfl rfl rfl rfl) ?_
                refine .p rfl rfl (.load rfl rfl rfl (B7.cell 1)) ?_
                refine .p rfl rfl (.add rfl rfl (by omega)) ?_
                refine .p rfl rfl (.cast (.max2 rfl rfl) (show _ = i64 ((max (at_ : Int) (q[i].fr + q[i].ct)).toNat : Nat) by rw [Int.toNat_of_nonneg (by omega)])) ?_
                refine .p rfl rfl (.as rfl) ?_
                refine .nil (.blk (.code (.keep [(10, _), (9, _), (42, _), (43, _), (44, _)] ⟨rfl, rfl, rfl, rfl, rfl, trivial⟩ (.region ?_))))
                refine .p rfl rfl (.add rfl rfl (by omega)) ?_
                refine .p rfl rfl (.mv rfl) ?_
                refine .nil ?_
                rw [if_neg (by omega)] at hW'
                exact (again (i + 1, w7, _, (max (at_ : Int) (q[i].fr + q[i].ct)).toNat, _) ⟨by show i + 1 ≤ _; omega, OwnO.mono hO (fun _ h _ => h) (fun k h _ => h.1), hX, hW', by show (max (at_ : Int) (q[i].fr + q[i].ct)).toNat ≤ n0; omega, by show out.length ≤ _; omega⟩ (by show _ - (i + 1) < _ - i; omega)).of ⟨rfl, rfl, rfl, rfl, rfl, trivial⟩
            · obtain rfl : i = q.length := by omega
              refine .exit rfl (.code (.seq (.keep [(9, _)] ⟨rfl, trivial⟩ (.region ?_))))
              refine .p rfl rfl (.mv rfl) ?_
              refine .p rfl rfl (.as rfl) ?_
              refine .p rfl rfl (.as rfl) ?_
              refine .nil (.code ?_)
              refine .ret _ rfl ?_
              have hend := hW.ends _ (by rw [List.take_length]; exact hqlast)
              have hend : (n0 : Int) + 0 ≤ (at_ : Int) := hend
              have e0 : freeL (f0 : Int) (n0 : Int) l = out := (freeL_ok (by rw [hfe]; exact hz)).trans (freeF_eq (f := f0) (n := n0) hW hqf (by omega)).symm
              rw [e0, hfe, hz]
              exact ⟨_, rfl, OwnO.mono hO (fun _ h _ => h) (fun k hk _ => Nat.le_trans Z42.size hk), Z42.then hX (fun k hk _ => Nat.le_trans Z42.size hk)⟩
end Go.Proofs.Ytagjfplipknlkaa
