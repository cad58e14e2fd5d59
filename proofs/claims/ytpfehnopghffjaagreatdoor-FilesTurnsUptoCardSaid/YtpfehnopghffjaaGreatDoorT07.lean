import Derived.Test.YtpfehnopghffjaaGreatDoorT06
import Derived.Test.YtpfehnopghffjaaGreatDoorT05
set_option linter.unusedVariables false
set_option linter.unusedSimpArgs false
set_option maxRecDepth 20000
namespace Go.Proofs.YtpfehnopghffjaaGreatDoor
open Go room
namespace room
def freeL (first count : Int) (l : List Piece) : List Piece := if freeE first count l = 0 then freeF first.toNat count.toNat l else []
theorem freeE_2 {first count : Int} {l : List Piece} (h : count < 0 ∨ 4096 < count ∨ first < 0 ∨ count < first) : freeE first count l = 2 := if_pos h
theorem freeE_c {first count : Int} {l : List Piece} (h : ¬ (count < 0 ∨ 4096 < count ∨ first < 0 ∨ count < first)) : freeE first count l = checkR count l := if_neg h
theorem freeL_bad {first count : Int} {l : List Piece} (h : ¬ freeE first count l = 0) : freeL first count l = [] := if_neg h
theorem freeL_ok {first count : Int} {l : List Piece} (h : freeE first count l = 0) : freeL first count l = freeF first.toNat count.toNat l := if_pos h
theorem ended {n : Nat} {l s : List Piece} (hp : s.Perm l) (hr : Rises s) (hok : ∀ p ∈ l, okP (n : Int) p) :
  Rises (s ++ [(⟨(n : Int), 0⟩ : Piece)]) ∧ (∀ p ∈ s ++ [(⟨(n : Int), 0⟩ : Piece)], 0 ≤ p.fr ∧ 0 ≤ p.ct ∧ p.fr + p.ct ≤ n) ∧ (∀ j (h : j + 1 < (s ++ [(⟨(n : Int), 0⟩ : Piece)]).length), 1 ≤ ((s ++ [(⟨(n : Int), 0⟩ : Piece)])[j]'(by omega)).ct) ∧ (fun k => !covB (s ++ [(⟨(n : Int), 0⟩ : Piece)]) k) = fun k => !covB l k := by
 have hs : ∀ p ∈ s, okP (n : Int) p := fun p h => hok p (hp.mem_iff.1 h)
 refine ⟨List.pairwise_append.2 ⟨hr, List.pairwise_singleton _ _, fun x hx y hy => ?_⟩, fun p hp => ?_, fun j hj => ?_, ?_⟩
 ·rw [List.mem_singleton] at hy; subst hy
  have := hs x hx; unfold okP at this; show x.fr + x.ct ≤ (n : Int); omega
 ·rcases List.mem_append.1 hp with h | h
  ·have := hs p h; unfold okP at this; omega
  ·rw [List.mem_singleton] at h; subst h; exact ⟨by show (0 : Int) ≤ n; omega, by show (0 : Int) ≤ 0; omega, by show (n : Int) + 0 ≤ n; omega⟩
 ·rw [List.length_append] at hj
  simp only [List.length_singleton] at hj
  have h1 : j < s.length := by omega
  rw [List.getElem_append_left h1]
  have := hs s[j] (List.getElem_mem h1); unfold okP at this; omega
 ·funext k
  rw [cov_append, cov_perm hp, cov_one, decide_eq_false (by show ¬ ((n : Int) ≤ k ∧ (k : Int) < n + 0); omega), Bool.or_false]
theorem ended' {n : Nat} {l s : List Piece} (hp : s.Perm l) (hr : Rises s) (hok : ∀ p ∈ l, okP (n : Int) p) :
  ∃ q : List Piece, s ++ [(⟨(n : Int), 0⟩ : Piece)] = q ∧ Rises q ∧ (∀ p ∈ q, 0 ≤ p.fr ∧ 0 ≤ p.ct ∧ p.fr + p.ct ≤ n) ∧ (∀ j (h : j + 1 < q.length), 1 ≤ (q[j]'(by omega)).ct) ∧ ((fun k => !covB q k) = fun k => !covB l k) ∧ q.length = s.length + 1 ∧ (⟨(n : Int), 0⟩ : Piece) ∈ q :=
 let ⟨h1, h2, h3, h4⟩ := ended hp hr hok
 ⟨_, rfl, h1, h2, h3, h4, by simp, by simp⟩
theorem freeF_eq {n a f : Nat} {l : List Piece} {out : List Piece} {q : List Piece} (W : Wk (fun k => !covB q k) f q q.length a out) (hf : (fun k => !covB q k) = fun k => !covB l k) (ha : a = n) : out = freeF f n l := by
 rw [W.eq, hf, ha]; rfl
end room
theorem Free_fn {w : World} {v : Value} {l : List Piece} {first count : Int} (h : (Sl tPiece).rep All w v l) : Fn Tryz.prog 73 [i64 first, i64 count, v] w (fun r w2 => ∃ v', r = .tuple #[v', i64 (freeE first count l)] ∧ OwnO tPiece (fun _ => False) 40 w2 v' (freeL first count l) (fun k => w.heap.size ≤ k) ∧ Ext (fun _ => False) w w2) := by
 refine Fn.enter (fun w => Tryz.call73 _ w) Tryz.func73 rfl ?_
 refine .seq (.region ?_)
 refine .p rfl rfl (.as rfl) (.p rfl rfl (.as rfl) (.nil (.code (.seq (.seq (.keep [(0, _), (1, _), (2, _)] ⟨rfl, rfl, rfl, trivial⟩ (.region ?_)))))))
 refine .p rfl rfl (.mv rfl) (.p rfl rfl (.lt rfl rfl) (.p rfl rfl (.mv rfl) ?_))
 refine .caseD 15 rfl (fun c15 => ?_) (fun c15 => ?_)
 ·refine .skip rfl rfl (.skip rfl rfl (.p rfl rfl (.pickT rfl rfl) (.p rfl rfl (.mv rfl) (.skip rfl rfl (.skip rfl rfl (.p rfl rfl (.pickT rfl rfl) (.p rfl rfl (.mv rfl) (.skip rfl rfl (.skip rfl rfl (.skip rfl rfl (.p rfl rfl (.pickT rfl rfl) (.nil (.code (.keep [(27, _), (0, _), (1, _), (2, _)] ⟨rfl, rfl, rfl, rfl, trivial⟩ (.condT rfl (.seq (.keep [] trivial (.region ?_))))))))))))))))))
  refine .p rfl rfl (.as rfl) (.p rfl rfl (.as rfl) (.nil (.code ?_)))
  refine .ret _ rfl ?_
  rw [freeL_bad (by rw [freeE_2 (by omega)]; decide), freeE_2 (by omega)]
  exact ⟨_, rfl, OwnO.nil, .refl _⟩
 ·refine .p rfl rfl (.mv rfl) (.p rfl rfl (.gt rfl rfl) (.p rfl rfl (.pickF rfl rfl) (.p rfl rfl (.mv rfl) ?_)))
  refine .caseD 19 rfl (fun c19 => ?_) (fun c19 => ?_)
  ·refine .skip rfl rfl (.skip rfl rfl (.p rfl rfl (.pickT rfl rfl) (.p rfl rfl (.mv rfl) (.skip rfl rfl (.skip rfl rfl (.skip rfl rfl (.p rfl rfl (.pickT rfl rfl) (.nil (.code (.keep [(27, _), (0, _), (1, _), (2, _)] ⟨rfl, rfl, rfl, rfl, trivial⟩ (.condT rfl (.seq (.keep [] trivial (.region ?_))))))))))))))
   refine .p rfl rfl (.as rfl) (.p rfl rfl (.as rfl) (.nil (.code ?_)))
   refine .ret _ rfl ?_
   rw [freeL_bad (by rw [freeE_2 (by omega)]; decide), freeE_2 (by omega)]
   exact ⟨_, rfl, OwnO.nil, .refl _⟩
  ·refine .p rfl rfl (.mv rfl) (.p rfl rfl (.lt rfl rfl) (.p rfl rfl (.pickF rfl rfl) (.p rfl rfl (.mv rfl) ?_)))
   refine .caseD 23 rfl (fun c23 => ?_) (fun c23 => ?_)
   ·refine .skip rfl rfl (.skip rfl rfl (.skip rfl rfl (.p rfl rfl (.pickT rfl rfl) (.nil (.code (.keep [(27, _), (0, _), (1, _), (2, _)] ⟨rfl, rfl, rfl, rfl, trivial⟩ (.condT rfl (.seq (.keep [] trivial (.region ?_))))))))))
    refine .p rfl rfl (.as rfl) (.p rfl rfl (.as rfl) (.nil (.code ?_)))
    refine .ret _ rfl ?_
    rw [freeL_bad (by rw [freeE_2 (by omega)]; decide), freeE_2 (by omega)]
    exact ⟨_, rfl, OwnO.nil, .refl _⟩
   ·refine .p rfl rfl (.mv rfl) (.p rfl rfl (.mv rfl) (.p rfl rfl (.gt rfl rfl) (.p rfl rfl (.pickF rfl rfl) (.nil (.code (.keep [(27, _), (0, _), (1, _), (2, _)] ⟨rfl, rfl, rfl, rfl, trivial⟩ ?_))))))
    refine .condD rfl (fun c27 => ?_) (fun c27 => ?_)
    ·refine .seq (.keep [] trivial (.region ?_))
     refine .p rfl rfl (.as rfl) (.p rfl rfl (.as rfl) (.nil (.code ?_)))
     refine .ret _ rfl ?_
     rw [freeL_bad (by rw [freeE_2 (by omega)]; decide), freeE_2 (by omega)]
     exact ⟨_, rfl, OwnO.nil, .refl _⟩
    ·refine .skip (.code (.seq (.keep [(0, _), (1, _), (2, _)] ⟨rfl, rfl, rfl, trivial⟩ (.region ?_))))
     refine .p rfl rfl (.mv rfl) (.p rfl rfl (.mv rfl) ?_)
     obtain ⟨f0, rfl⟩ := Int.eq_ofNat_of_zero_le (show 0 ≤ first by omega)
     obtain ⟨n0, rfl⟩ := Int.eq_ofNat_of_zero_le (show 0 ≤ count by omega)
     have hfe : freeE (f0 : Int) (n0 : Int) l = checkR (n0 : Int) l := freeE_c (by omega)
     refine .call (first := []) (captured := []) rfl rfl rfl rfl (rising_fn h) ?_
     rintro _ w31 ⟨v31, ps, rfl, hs1, hs2, O31, X31⟩
     refine .p rfl rfl (.mv rfl) (.p rfl rfl (.extract rfl rfl) (.p rfl rfl (.extract rfl rfl) (.p rfl rfl (.as rfl) (.p rfl rfl (.as rfl) (.nil (.code (.seq (.seq (.keep [(8, _), (2, _), (0, _), (1, _)] ⟨rfl, rfl, rfl, rfl, trivial⟩ (.region ?_))))))))))
     refine .p rfl rfl (.mv rfl) (.p rfl rfl (.ne rfl rfl) (.nil (.code (.keep [(35, _), (8, _), (2, _), (0, _), (1, _)] ⟨rfl, rfl, rfl, rfl, rfl, trivial⟩ ?_))))
     refine .condD rfl (fun c35 => ?_) (fun c35 => ?_)
     ·refine .seq (.keep [(8, _)] ⟨rfl, trivial⟩ (.region ?_))
      refine .p rfl rfl (.mv rfl) (.p rfl rfl (.as rfl) (.p rfl rfl (.as rfl) (.nil (.code ?_))))
      refine .ret _ rfl ?_
      rw [freeL_bad (by rw [hfe]; exact c35), hfe]
      exact ⟨_, rfl, OwnO.nil, X31⟩
     ·have hz : checkR (n0 : Int) l = 0 := Decidable.not_not.1 c35
      obtain ⟨hpm, hri⟩ := hs1 hz
      obtain ⟨_, _, hll, hmay⟩ := check_ok hz
      have hpl : ps.length = l.length := hpm.length_eq
      refine .skip (.code (.seq (.keep [(2, _), (0, _), (1, _)] ⟨rfl, rfl, rfl, trivial⟩ (.region ?_))))
      refine .p rfl rfl (.as rfl) (.nil (.code (.seq (.region ?_))))
      refine .p rfl rfl (.mv rfl) (.p rfl rfl (.as rfl) (.nil (.code (.seq (.seq (.keep [(10, _), (9, _), (2, _), (1, _)] ⟨rfl, rfl, rfl, rfl, trivial⟩ (.region ?_)))))))
      refine .p rfl rfl (.mv rfl) (.p rfl rfl (.mv rfl) (.p rfl rfl (.build (cs := [i64 (n0 : Int), i64 0]) rfl (fun _ => by kernel_rfl)) (.v rfl rfl (.lits rfl rfl (fun _ => by kernel_rfl)) ?_)))
      rintro _ w41 ⟨rfl, N41⟩
      have z31 := X31.size
      have z41 := N41.size
      refine .v rfl rfl (.appendLo (t := tPiece) (Q := fun _ => False) (B := fun k => w.heap.size ≤ k) (eb := 16) rfl (OwnO.ext0 O31 N41.ext) (fun k hk => by show w.heap.size ≤ k; omega) rfl (.inr (New.holds (t := tPiece) (xs := [⟨(n0 : Int), 0⟩]) N41 (.cons (tPiece.mk (P := fun _ => False) (p := ⟨(n0 : Int), 0⟩) (by show -9223372036854775808 ≤ (n0 : Int) ∧ (n0 : Int) ≤ 9223372036854775807; omega) (by show (-9223372036854775808 : Int) ≤ 0 ∧ (0 : Int) ≤ 9223372036854775807; decide)) .nil) rfl)) rfl rfl rfl rfl rfl rfl rfl (by simp; omega) (by simp [Lim]; omega) (fun _ h _ => h.elim)) ?_
      rintro r42 w42 ⟨O42, X42⟩
      have Z42 : Ext (fun _ => False) w w42 := (X31.trans N41.ext).then X42 (fun k hk _ => hk)
      obtain ⟨q, hqe, hqr, hqb, hqc, hqf, hql, hqlast⟩ := ended' hpm hri hmay.1
      rw [hqe] at O42
      have R42 := OwnO.rep O42 (R := fun k => k < w42.heap.size) (fun k _ h2 => h2) (fun _ h _ => h.elim)
      obtain ⟨a42, c42, rfl, hc42⟩ := Sl.val R42
      refine .p rfl rfl (.len rfl rfl) (.p rfl rfl (.mv rfl) (.nil (.code (.block (.keep [(44, _), (43, _), (42, _), (10, _), (9, _)] ⟨rfl, rfl, rfl, rfl, rfl, trivial⟩ ?_)))))
      refine .loop (S := Nat × World × Value × Nat × List Piece) (fun s => [(9, s.2.2.1), (10, i64 (s.2.2.2.1 : Nat)), (42, .slice a42 q.length c42), (43, i64 q.length), (44, i64 s.1)]) (fun s => s.2.1) (fun s => s.1 ≤ q.length ∧ OwnO tPiece (fun _ => False) 40 s.2.1 s.2.2.1 s.2.2.2.2 (fun k => w42.heap.size ≤ k) ∧ Ext (fun k => w42.heap.size ≤ k) w42 s.2.1 ∧ Wk (fun k => !covB q k) f0 q s.1 s.2.2.2.1 s.2.2.2.2 ∧ s.2.2.2.1 ≤ n0 ∧ s.2.2.2.2.length ≤ s.1) (fun s => q.length - s.1) (0, w42, .slice none 0 0, f0, []) ⟨rfl, rfl, rfl, rfl, rfl, trivial⟩ rfl ⟨Nat.zero_le _, OwnO.nil, .refl _, Wk.begin _ _ _, by show f0 ≤ n0; omega, Nat.le_refl _⟩ ?_
      rintro ⟨i, wi, vo, at_, out⟩ J ⟨hi', hO, hX, hW, hat, hlen⟩ again
      simp only at hi' hO hX hW hat hlen
      change G _ [(9, vo), (10, i64 (at_ : Nat)), (42, .slice a42 q.length c42), (43, i64 q.length), (44, i64 i)] _ _ wi
      refine .seq (.region ?_)
      refine .p rfl rfl (.lt rfl rfl) (.nil (.code (.seq ?_)))
      refine .condD rfl (fun c45 => ?_) (fun c45 => ?_)
      ·have hi : i < q.length := by omega
       obtain ⟨b1, o1, q1, ue, e, _, hcs, hre⟩ := Sl.at ((Sl tPiece).ext R42 hX (fun k h1 _ h2 => by have h1 : k < w42.heap.size := h1; have h2 : w42.heap.size ≤ k := h2; omega)) (List.getElem?_eq_getElem hi)
       cases e
       obtain ⟨rfl, hr1, hr2⟩ := tPiece.val hre
       obtain ⟨hqi1, hqi2, hqi3⟩ := hqb q[i] (List.getElem_mem hi)
       have zi := hX.size
       have hW' := hW.free hqr (fun p hp => (hqb p hp).2.1) hqc hi
       have hol : out.length ≤ 4096 := by have := hlen; omega
       refine .skip (.code (.seq (.block (.seq (.keep [(9, _), (10, _), (42, _), (43, _), (44, _)] ⟨rfl, rfl, rfl, rfl, rfl, trivial⟩ (.region ?_))))))
       refine .p rfl rfl (.indexAddr (s := 2) rfl rfl rfl rfl (by omega)) (.p rfl rfl (.loadA (n := 2) rfl rfl rfl rfl rfl hcs) (.v rfl rfl (.alloc rfl rfl) ?_))
       rintro _ w7a ⟨rfl, N7⟩
       refine .s rfl (.storeAll (n := 2) rfl rfl rfl rfl rfl N7.blk rfl) ?_
       intro w7 P7
       have X7 := N7.ext.then P7.ext (by rintro k rfl _; exact Nat.le_refl _)
       have B7 := P7.blk
       have hO := OwnO.ext0 (OwnO.mono (B' := fun k => w42.heap.size ≤ k ∧ k ≠ wi.heap.size) hO (fun _ h _ => h) (fun k h1 h2 => ⟨h1, Nat.ne_of_lt h2⟩)) X7
       have hX := hX.trans (X7.mono (fun _ _ h => h.elim))
       have zz := X7.size
       have hp0 : ¬ w7.heap.size ≤ wi.heap.size := by have := N7.size; have := P7.ext.size; omega
       refine .nil (.code (.seq (.seq (.keep [(12, _), (9, _), (10, _), (42, _), (43, _), (44, _)] ⟨rfl, rfl, rfl, rfl, rfl, rfl, trivial⟩ (.region ?_)))))
       refine .p rfl rfl (.fieldAddr rfl rfl rfl rfl) (.p rfl rfl (.load rfl rfl rfl (B7.cell 0)) (.p rfl rfl (.mv rfl) (.p rfl rfl (.gt rfl rfl) (.nil (.code (.keep [(51, _), (12, _), (9, _), (10, _), (42, _), (43, _), (44, _)] ⟨rfl, rfl, rfl, rfl, rfl, rfl, rfl, trivial⟩ ?_))))))
       refine .condD rfl (fun c51 => ?_) (fun c51 => ?_)
       ·refine .keep [(12, _), (9, _), (10, _), (42, _), (43, _), (44, _)] ⟨rfl, rfl, rfl, rfl, rfl, rfl, trivial⟩ (.region ?_)
        refine .p rfl rfl (.mv rfl) (.p rfl rfl (.mv rfl) (.p rfl rfl (.fieldAddr rfl rfl rfl rfl) (.p rfl rfl (.load rfl rfl rfl (B7.cell 0)) (.p rfl rfl (.mv rfl) (.p rfl rfl (.sub rfl rfl (by omega)) (.p rfl rfl (.build (cs := [i64 (at_ : Int), i64 (q[i].fr - (at_ : Int))]) rfl (fun _ => by kernel_rfl)) (.v rfl rfl (.lits rfl rfl (fun _ => by kernel_rfl)) ?_)))))))
        rintro _ w59 ⟨rfl, N59⟩
        refine .v rfl rfl (.appendLo (t := tPiece) (xs := out) (ys := [⟨(at_ : Int), q[i].fr - (at_ : Int)⟩]) (Q := fun _ => False) (B := fun k => w42.heap.size ≤ k ∧ k ≠ wi.heap.size) (eb := 16) rfl (OwnO.ext0 hO N59.ext) (fun k hk => by have := N59.size; exact ⟨by omega, by omega⟩) rfl (.inr (New.holds (t := tPiece) (xs := [⟨(at_ : Int), q[i].fr - (at_ : Int)⟩]) N59 (.cons (tPiece.mk (P := fun _ => False) (p := ⟨(at_ : Int), q[i].fr - (at_ : Int)⟩) (by show -9223372036854775808 ≤ (at_ : Int) ∧ (at_ : Int) ≤ 9223372036854775807; omega) (by show -9223372036854775808 ≤ q[i].fr - (at_ : Int) ∧ q[i].fr - (at_ : Int) ≤ 9223372036854775807; omega)) .nil) rfl)) rfl rfl rfl rfl rfl rfl rfl (by simp; omega) (by simp [Lim]; omega) (fun _ h _ => h.elim)) ?_
        rintro r60 w60 ⟨O60, X60⟩
        have B7 := (B7.ext N59.ext (fun x => x)).ext X60 (fun h => h.2 rfl)
        have hX := (hX.trans (N59.ext.mono (fun _ _ h => h.elim))).trans (X60.mono (fun _ _ h => h.1))
        refine .p rfl rfl (.as rfl) (.nil (.code (.keep [(9, _), (12, _), (10, _), (42, _), (43, _), (44, _)] ⟨rfl, rfl, rfl, rfl, rfl, rfl, trivial⟩ (.region ?_))))
        refine .p rfl rfl (.mv rfl) (.p rfl rfl (.fieldAddr rfl rfl rfl rfl) (.p rfl rfl (.load rfl rfl rfl (B7.cell 0)) (.p rfl rfl (.fieldAddr rfl rfl rfl rfl) (.p rfl rfl (.load rfl rfl rfl (B7.cell 1)) (.p rfl rfl (.add rfl rfl (by omega)) (.p rfl rfl (.cast (.max2 rfl rfl) (show _ = i64 ((max (at_ : Int) (q[i].fr + q[i].ct)).toNat : Nat) by rw [Int.toNat_of_nonneg (by omega)])) (.p rfl rfl (.as rfl) (.nil (.blk (.code (.keep [(10, _), (9, _), (42, _), (43, _), (44, _)] ⟨rfl, rfl, rfl, rfl, rfl, trivial⟩ (.region ?_))))))))))))
        refine .p rfl rfl (.add rfl rfl (by omega)) (.p rfl rfl (.mv rfl) (.nil ?_))
        rw [if_pos (by omega)] at hW'
        exact (again (i + 1, w60, _, (max (at_ : Int) (q[i].fr + q[i].ct)).toNat, _) ⟨by show i + 1 ≤ _; omega, OwnO.mono O60 (fun _ h _ => h) (fun k h _ => h.1), hX, hW', by show (max (at_ : Int) (q[i].fr + q[i].ct)).toNat ≤ n0; omega, by show (out ++ [_]).length ≤ _; simp; omega⟩ (by show _ - (i + 1) < _ - i; omega)).of ⟨rfl, rfl, rfl, rfl, rfl, trivial⟩
       ·refine .skip (.code (.keep [(12, _), (9, _), (10, _), (42, _), (43, _), (44, _)] ⟨rfl, rfl, rfl, rfl, rfl, rfl, trivial⟩ (.region ?_)))
        refine .p rfl rfl (.mv rfl) (.p rfl rfl (.fieldAddr rfl rfl rfl rfl) (.p rfl rfl (.load rfl rfl rfl (B7.cell 0)) (.p rfl rfl (.fieldAddr rfl rfl rfl rfl) (.p rfl rfl (.load rfl rfl rfl (B7.cell 1)) (.p rfl rfl (.add rfl rfl (by omega)) (.p rfl rfl (.cast (.max2 rfl rfl) (show _ = i64 ((max (at_ : Int) (q[i].fr + q[i].ct)).toNat : Nat) by rw [Int.toNat_of_nonneg (by omega)])) (.p rfl rfl (.as rfl) (.nil (.blk (.code (.keep [(10, _), (9, _), (42, _), (43, _), (44, _)] ⟨rfl, rfl, rfl, rfl, rfl, trivial⟩ (.region ?_))))))))))))
        refine .p rfl rfl (.add rfl rfl (by omega)) (.p rfl rfl (.mv rfl) (.nil ?_))
        rw [if_neg (by omega)] at hW'
        exact (again (i + 1, w7, _, (max (at_ : Int) (q[i].fr + q[i].ct)).toNat, _) ⟨by show i + 1 ≤ _; omega, OwnO.mono hO (fun _ h _ => h) (fun k h _ => h.1), hX, hW', by show (max (at_ : Int) (q[i].fr + q[i].ct)).toNat ≤ n0; omega, by show out.length ≤ _; omega⟩ (by show _ - (i + 1) < _ - i; omega)).of ⟨rfl, rfl, rfl, rfl, rfl, trivial⟩
      ·obtain rfl : i = q.length := by omega
       refine .exit rfl (.code (.seq (.keep [(9, _)] ⟨rfl, trivial⟩ (.region ?_))))
       refine .p rfl rfl (.mv rfl) (.p rfl rfl (.as rfl) (.p rfl rfl (.as rfl) (.nil (.code ?_))))
       refine .ret _ rfl ?_
       have hend := hW.ends _ (by rw [List.take_length]; exact hqlast)
       have hend : (n0 : Int) + 0 ≤ (at_ : Int) := hend
       have e0 : freeL (f0 : Int) (n0 : Int) l = out := (freeL_ok (by rw [hfe]; exact hz)).trans (freeF_eq (f := f0) (n := n0) hW hqf (by omega)).symm
       rw [e0, hfe, hz]
       exact ⟨_, rfl, OwnO.mono hO (fun _ h _ => h) (fun k hk _ => Nat.le_trans Z42.size hk), Z42.then hX (fun k hk _ => Nat.le_trans Z42.size hk)⟩
end Go.Proofs.YtpfehnopghffjaaGreatDoor
namespace Go.Proofs.YtpfehnopghffjaaGreatDoor
open Go room
namespace room
def takeE (first count : Int) (l : List Piece) (many : Int) : Int := if many < 0 ∨ 4096 < many then 2 else if ¬ freeE first count l = 0 then freeE first count l else if totalF (freeL first count l) < many then 30 else 0
def takeL (first count : Int) (l : List Piece) (many : Int) : List Piece := if takeE first count l many = 0 then takeF (freeL first count l) many else []
theorem takeL_bad {first count : Int} {l : List Piece} {many : Int} (h : ¬ takeE first count l many = 0) : takeL first count l many = [] := if_neg h
theorem takeL_ok {first count : Int} {l : List Piece} {many : Int} (h : takeE first count l many = 0) : takeL first count l many = takeF (freeL first count l) many := if_pos h
theorem takeE_2 {first count : Int} {l : List Piece} {many : Int} (h : many < 0 ∨ 4096 < many) : takeE first count l many = 2 := if_pos h
theorem takeE_e {first count : Int} {l : List Piece} {many : Int} (h : ¬ (many < 0 ∨ 4096 < many)) (h2 : ¬ freeE first count l = 0) : takeE first count l many = freeE first count l := by unfold takeE; rw [if_neg h, if_pos h2]
theorem takeE_30 {first count : Int} {l : List Piece} {many : Int} (h : ¬ (many < 0 ∨ 4096 < many)) (h2 : freeE first count l = 0) (h3 : totalF (freeL first count l) < many) : takeE first count l many = 30 := by unfold takeE; rw [if_neg h, if_neg (fun hn => hn h2), if_pos h3]
theorem takeE_0 {first count : Int} {l : List Piece} {many : Int} (h : ¬ (many < 0 ∨ 4096 < many)) (h2 : freeE first count l = 0) (h3 : ¬ totalF (freeL first count l) < many) : takeE first count l many = 0 := by unfold takeE; rw [if_neg h, if_neg (fun hn => hn h2), if_neg h3]
theorem freeE_in {first count : Int} {l : List Piece} (h : freeE first count l = 0) : 0 ≤ first ∧ first ≤ count ∧ count ≤ 4096 ∧ checkR count l = 0 := by
 unfold freeE at h
 split at h
 ·cases h
 ·rename_i hn; exact ⟨by omega, by omega, by omega, h⟩
theorem freeL_in {first count : Int} {l : List Piece} {p : Piece} (hp : p ∈ freeL first count l) : 1 ≤ p.ct ∧ 0 ≤ p.fr ∧ first ≤ p.fr ∧ p.fr + p.ct ≤ count ∧ count ≤ 4096 := by
 unfold freeL at hp
 split at hp
 ·rename_i hz
  obtain ⟨h1, h2, h3, _⟩ := freeE_in hz
  obtain ⟨p1, p2, p3⟩ := (runs_ok (fun k => !covB l k) first.toNat (count.toNat - first.toNat)).pos p hp
  omega
 ·cases hp
theorem runs_length (f : Nat → Bool) (a : Nat) : ∀ n, (runsTo f a n).length ≤ n
 | 0 => Nat.le_refl _
 | n + 1 => by
  have ih := runs_length f a n
  rw [runsTo]
  split
  ·rcases List.eq_nil_or_concat (runsTo f a n) with h | ⟨out, p, h⟩
   ·rw [h, push_nil]; simp
   ·rw [List.concat_eq_append] at h
    rw [h] at ih ⊢
    rw [push_snoc]
    simp at ih
    split <;> simp <;> omega
  ·omega
theorem freeL_length (first count : Int) (l : List Piece) : (freeL first count l).length ≤ 4096 := by
 unfold freeL
 split
 ·rename_i hz
  obtain ⟨h1, h2, h3, _⟩ := freeE_in hz
  have := runs_length (fun k => !covB l k) first.toNat (count.toNat - first.toNat)
  unfold freeF; omega
 ·exact Nat.zero_le _
theorem take_step {F : List Piece} {i : Nat} {m : Int} (hi : i < F.length) (hm : ¬ m = 0) : takeF (F.drop i) m = ⟨F[i].fr, min F[i].ct m⟩ :: takeF (F.drop (i + 1)) (m - min F[i].ct m) := by
 rw [List.drop_eq_getElem_cons hi, takeF, if_neg hm]
theorem take_0 (F : List Piece) : takeF F 0 = [] := by cases F <;> rfl
theorem take_length : ∀ (F : List Piece) (m : Int), (takeF F m).length ≤ F.length
 | [], _ => Nat.le_refl _
 | p :: F, m => by
  rw [takeF]
  split
  ·exact Nat.zero_le _
  ·have := take_length F (m - min p.ct m)
   simp; omega
def oneF (p : Piece) (n : Nat) : List Int := (List.range n).map (fun k => p.fr + ((k : Nat) : Int))
def sectF (l : List Piece) : List Int := l.flatMap (fun p => oneF p p.ct.toNat)
theorem one_length (p : Piece) (n : Nat) : (oneF p n).length = n := by simp [oneF]
theorem one_succ (p : Piece) (n : Nat) : oneF p (n + 1) = oneF p n ++ [p.fr + ((n : Nat) : Int)] := by simp [oneF, List.range_succ]
theorem sect_take {l : List Piece} {i : Nat} (hi : i < l.length) : sectF (l.take (i + 1)) = sectF (l.take i) ++ oneF l[i] l[i].ct.toNat := by
 unfold sectF; rw [List.take_succ_eq_append_getElem hi, List.flatMap_append]; simp
theorem sect_length : ∀ {l : List Piece}, (∀ p ∈ l, p.ct ≤ 4096) → (sectF l).length ≤ l.length * 4096
 | [], _ => by simp [sectF]
 | p :: l, h => by
  have ih := sect_length (l := l) (fun q hq => h q (List.mem_cons_of_mem _ hq))
  have h0 := h p (by simp)
  have e : sectF (p :: l) = oneF p p.ct.toNat ++ sectF l := by simp [sectF]
  rw [e, List.length_append, one_length, List.length_cons]
  omega
end room
theorem RoomMany_fn {w : World} {v : Value} {l : List Piece} (h : (Sl tPiece).rep All w v l) : Fn Tryz.prog 75 [v] w (fun r w2 => r = .tuple #[i64 (if checkR 4096 l = 0 then totalF l else 0), i64 (checkR 4096 l)] ∧ Ext (fun _ => False) w w2) := by
 refine Fn.enter (fun w => Tryz.call75 _ w) Tryz.func75 rfl ?_
 refine .seq (.region ?_)
 refine .p rfl rfl (.as rfl) (.p rfl rfl (.as rfl) (.nil (.code (.seq (.seq (.keep [(0, _)] ⟨rfl, trivial⟩ (.region ?_)))))))
 refine .p rfl rfl (.mv rfl) (.call (first := []) (captured := []) rfl rfl rfl rfl (RoomCheck_fn h) ?_)
 rintro _ w6 ⟨rfl, X6⟩
 refine .p rfl rfl (.as rfl) (.nil (.code (.seq (.keep [(4, _), (0, _)] ⟨rfl, rfl, trivial⟩ (.region ?_)))))
 refine .p rfl rfl (.mv rfl) (.p rfl rfl (.ne rfl rfl) (.nil (.code (.keep [(8, _), (4, _), (0, _)] ⟨rfl, rfl, rfl, trivial⟩ ?_))))
 refine .condD rfl (fun c8 => ?_) (fun c8 => ?_)
 ·refine .seq (.keep [(4, _)] ⟨rfl, trivial⟩ (.region ?_))
  refine .p rfl rfl (.mv rfl) (.p rfl rfl (.as rfl) (.p rfl rfl (.as rfl) (.nil (.code ?_))))
  refine .ret _ rfl ?_
  rw [if_neg c8]
  exact ⟨rfl, X6⟩
 ·have hz : checkR 4096 l = 0 := Decidable.not_not.1 c8
  refine .skip (.code (.seq (.keep [(0, _)] ⟨rfl, trivial⟩ (.region ?_))))
  refine .p rfl rfl (.mv rfl) (.call (first := []) (captured := []) rfl rfl rfl rfl (total_fn ((Sl tPiece).ext0 h X6) (fun p hp => by have := (check_ok hz).2.2.2.1 p hp; unfold okP at this; omega)) ?_)
  rintro _ w11 ⟨rfl, X11⟩
  refine .p rfl rfl (.as rfl) (.p rfl rfl (.as rfl) (.nil (.code ?_)))
  refine .ret _ rfl ?_
  rw [if_pos hz, hz]
  exact ⟨rfl, X6.trans X11⟩
theorem Take_fn {w : World} {v : Value} {l : List Piece} {first count many : Int} (h : (Sl tPiece).rep All w v l) : Fn Tryz.prog 90 [i64 first, i64 count, v, i64 many] w (fun r w2 => ∃ v', r = .tuple #[v', i64 (takeE first count l many)] ∧ OwnO tPiece (fun _ => False) 40 w2 v' (takeL first count l many) (fun k => w.heap.size ≤ k) ∧ Ext (fun _ => False) w w2) := by
 refine Fn.enter (fun w => Tryz.call90 _ w) Tryz.func90 rfl ?_
 refine .seq (.region ?_)
 refine .p rfl rfl (.as rfl) (.p rfl rfl (.as rfl) (.nil (.code (.scope (.seq (.seq (.keep [(0, _), (1, _), (2, _), (3, _)] ⟨rfl, rfl, rfl, rfl, trivial⟩ (.region ?_))))))))
 refine .p rfl rfl (.mv rfl) (.p rfl rfl (.lt rfl rfl) (.p rfl rfl (.mv rfl) ?_))
 refine .caseD 17 rfl (fun c17 => ?_) (fun c17 => ?_)
 ·refine .skip rfl rfl (.skip rfl rfl (.p rfl rfl (.pickT rfl rfl) (.nil (.code (.keep [(20, _), (0, _), (1, _), (2, _), (3, _)] ⟨rfl, rfl, rfl, rfl, rfl, trivial⟩ (.condT rfl (.seq (.keep [] trivial (.region ?_)))))))))
  refine .p rfl rfl (.as rfl) (.p rfl rfl (.as rfl) (.nil (.code ?_)))
  refine .ret _ rfl ?_
  rw [takeL_bad (by rw [takeE_2 (by omega)]; decide), takeE_2 (by omega)]
  exact ⟨_, rfl, OwnO.nil, .refl _⟩
 ·refine .p rfl rfl (.mv rfl) (.p rfl rfl (.gt rfl rfl) (.p rfl rfl (.pickF rfl rfl) (.nil (.code (.keep [(20, _), (0, _), (1, _), (2, _), (3, _)] ⟨rfl, rfl, rfl, rfl, rfl, trivial⟩ ?_)))))
  refine .condD rfl (fun c20 => ?_) (fun c20 => ?_)
  ·refine .seq (.keep [] trivial (.region ?_))
   refine .p rfl rfl (.as rfl) (.p rfl rfl (.as rfl) (.nil (.code ?_)))
   refine .ret _ rfl ?_
   rw [takeL_bad (by rw [takeE_2 (by omega)]; decide), takeE_2 (by omega)]
   exact ⟨_, rfl, OwnO.nil, .refl _⟩
  ·refine .skip (.code (.seq (.keep [(0, _), (1, _), (2, _), (3, _)] ⟨rfl, rfl, rfl, rfl, trivial⟩ (.region ?_))))
   refine .p rfl rfl (.mv rfl) (.p rfl rfl (.mv rfl) (.p rfl rfl (.mv rfl) (.call (first := []) (captured := []) rfl rfl rfl rfl (Free_fn h) ?_)))
   rintro _ w25 ⟨v25, rfl, O25, X25⟩
   refine .p rfl rfl (.mv rfl) (.p rfl rfl (.extract rfl rfl) (.p rfl rfl (.extract rfl rfl) (.p rfl rfl (.as rfl) (.p rfl rfl (.as rfl) (.nil (.code (.seq (.seq (.keep [(11, _), (10, _), (3, _)] ⟨rfl, rfl, rfl, trivial⟩ (.region ?_))))))))))
   refine .p rfl rfl (.mv rfl) (.p rfl rfl (.ne rfl rfl) (.nil (.code (.keep [(29, _), (11, _), (10, _), (3, _)] ⟨rfl, rfl, rfl, rfl, trivial⟩ ?_))))
   refine .condD rfl (fun c29 => ?_) (fun c29 => ?_)
   ·refine .seq (.keep [(11, _)] ⟨rfl, trivial⟩ (.region ?_))
    refine .p rfl rfl (.mv rfl) (.p rfl rfl (.as rfl) (.p rfl rfl (.as rfl) (.nil (.code ?_))))
    refine .ret _ rfl ?_
    rw [takeL_bad (by rw [takeE_e (by omega) c29]; exact c29), takeE_e (by omega) c29]
    exact ⟨_, rfl, OwnO.nil, X25⟩
   ·refine .skip (.code (.seq (.seq (.keep [(10, _), (3, _)] ⟨rfl, rfl, trivial⟩ (.region ?_)))))
    refine .p rfl rfl (.mv rfl) (.call (first := []) (captured := []) rfl rfl rfl rfl (total_fn (OwnO.rep O25 (R := All) (fun _ _ _ => trivial) (fun _ h _ => h.elim)) (fun p hp => by have := freeL_in hp; omega)) ?_)
    rintro _ w32 ⟨rfl, X32⟩
    have O32 := OwnO.ext0 O25 X32
    have R32 := OwnO.rep O32 (R := fun k => k < w32.heap.size) (fun k _ h2 => h2) (fun _ h _ => h.elim)
    obtain ⟨a32, c32, hv32, hc32⟩ := Sl.val R32
    rw [hv32] at R32 ⊢
    have Z32 := X25.trans X32
    have hFl := freeL_length first count l
    refine .p rfl rfl (.mv rfl) (.p rfl rfl (.lt rfl rfl) (.nil (.code (.keep [(34, _), (10, _), (3, _)] ⟨rfl, rfl, rfl, trivial⟩ ?_))))
    refine .condD rfl (fun c34 => ?_) (fun c34 => ?_)
    ·refine .seq (.keep [] trivial (.region ?_))
     refine .p rfl rfl (.as rfl) (.p rfl rfl (.as rfl) (.nil (.code ?_)))
     refine .ret _ rfl ?_
     rw [takeL_bad (by rw [takeE_30 (by omega) (Decidable.not_not.1 c29) c34]; decide), takeE_30 (by omega) (Decidable.not_not.1 c29) c34]
     exact ⟨_, rfl, OwnO.nil, Z32⟩
    ·have hz : freeE first count l = 0 := Decidable.not_not.1 c29
     have hFin := fun p (hp : p ∈ freeL first count l) => freeL_in hp
     have hte := takeE_0 (many := many) (by omega) hz c34
     have htl := takeL_ok hte
     generalize hF : freeL first count l = F at R32 hc32 hFl hFin htl ⊢
     refine .skip (.code (.seq (.keep [(10, _), (3, _)] ⟨rfl, rfl, trivial⟩ (.region ?_))))
     refine .p rfl rfl (.as rfl) (.nil (.code (.seq (.label (.code (.seq (.seq (.region ?_))))))))
     refine .p rfl rfl (.mv rfl) (.p rfl rfl (.len rfl rfl) (.p rfl rfl (.mv rfl) (.nil (.code (.block (.keep [(37, _), (36, _), (35, _), (12, _), (3, _)] ⟨rfl, rfl, rfl, rfl, rfl, trivial⟩ ?_))))))
     refine .loop (S := Nat × World × Value × Int × List Piece) (fun s => [(3, i64 s.2.2.2.1), (12, s.2.2.1), (35, .slice a32 F.length c32), (36, i64 F.length), (37, i64 s.1)]) (fun s => s.2.1) (fun s => s.1 ≤ F.length ∧ OwnO tPiece (fun _ => False) 40 s.2.1 s.2.2.1 s.2.2.2.2 (fun k => w32.heap.size ≤ k) ∧ Ext (fun k => w32.heap.size ≤ k) w32 s.2.1 ∧ 0 ≤ s.2.2.2.1 ∧ s.2.2.2.1 ≤ 4096 ∧ s.2.2.2.2 ++ takeF (F.drop s.1) s.2.2.2.1 = takeF F many ∧ s.2.2.2.2.length ≤ s.1) (fun s => F.length - s.1) (0, w32, .slice none 0 0, many, []) ⟨rfl, rfl, rfl, rfl, rfl, trivial⟩ rfl ⟨Nat.zero_le _, OwnO.nil, .refl _, by show 0 ≤ many; omega, by show many ≤ 4096; omega, rfl, Nat.le_refl _⟩ ?_
     rintro ⟨i, wi, vo, m, out⟩ J ⟨hi', hO, hX, hm0, hm1, hW, hlen⟩ again
     simp only at hi' hO hX hm0 hm1 hW hlen
     change G _ [(3, i64 m), (12, vo), (35, .slice a32 F.length c32), (36, i64 F.length), (37, i64 i)] _ _ wi
     refine .seq (.region ?_)
     refine .p rfl rfl (.lt rfl rfl) (.nil (.code (.seq ?_)))
     refine .condD rfl (fun c38 => ?_) (fun c38 => ?_)
     ·have hi : i < F.length := by omega
      obtain ⟨b1, o1, q1, ue, e, _, hcs, hre⟩ := Sl.at ((Sl tPiece).ext R32 hX (fun k h1 _ h2 => by have h1 : k < w32.heap.size := h1; have h2 : w32.heap.size ≤ k := h2; omega)) (List.getElem?_eq_getElem hi)
      cases e
      obtain ⟨rfl, hr1, hr2⟩ := tPiece.val hre
      obtain ⟨hf1, hf2, hf3, hf4, hf5⟩ := hFin F[i] (List.getElem_mem hi)
      have zi := hX.size
      refine .skip (.code (.seq (.block (.seq (.keep [(3, _), (12, _), (35, _), (36, _), (37, _)] ⟨rfl, rfl, rfl, rfl, rfl, trivial⟩ (.region ?_))))))
      refine .p rfl rfl (.indexAddr (s := 2) rfl rfl rfl rfl (by omega)) (.p rfl rfl (.loadA (n := 2) rfl rfl rfl rfl rfl hcs) (.v rfl rfl (.alloc rfl rfl) ?_))
      rintro _ w7a ⟨rfl, N7⟩
      refine .s rfl (.storeAll (n := 2) rfl rfl rfl rfl rfl N7.blk rfl) ?_
      intro w7 P7
      have X7 := N7.ext.then P7.ext (by rintro k rfl _; exact Nat.le_refl _)
      have B7 := P7.blk
      have hO := OwnO.ext0 (OwnO.mono (B' := fun k => w32.heap.size ≤ k ∧ k ≠ wi.heap.size) hO (fun _ h _ => h) (fun k h1 h2 => ⟨h1, Nat.ne_of_lt h2⟩)) X7
      have hX := hX.trans (X7.mono (fun _ _ h => h.elim))
      have zz := X7.size
      have hp0 : ¬ w7.heap.size ≤ wi.heap.size := by have := N7.size; have := P7.ext.size; omega
      have B7 : Blk w7 wi.heap.size 40 [i64 F[i].fr, i64 F[i].ct] := P7.blk
      refine .nil (.code (.seq (.seq (.keep [(14, _), (3, _), (12, _), (35, _), (36, _), (37, _)] ⟨rfl, rfl, rfl, rfl, rfl, rfl, trivial⟩ (.region ?_)))))
      refine .p rfl rfl (.mv rfl) (.p rfl rfl (.eq rfl rfl) (.nil (.code (.keep [(42, _), (14, _), (3, _), (12, _), (35, _), (36, _), (37, _)] ⟨rfl, rfl, rfl, rfl, rfl, rfl, rfl, trivial⟩ ?_))))
      refine .condD rfl (fun c42 => ?_) (fun c42 => ?_)
      ·refine .exit rfl (.code (.keep [(3, _), (12, _), (35, _), (36, _), (37, _)] ⟨rfl, rfl, rfl, rfl, rfl, trivial⟩ (.region ?_)))
       refine .p rfl rfl (.add rfl rfl (by omega)) (.p rfl rfl (.mv rfl) (.nil ?_))
       have c42 : m = 0 := by omega
       subst c42
       exact (again (i + 1, w7, _, 0, out) ⟨by show i + 1 ≤ _; omega, OwnO.mono hO (fun _ h _ => h) (fun k h _ => h.1), hX, by show (0 : Int) ≤ 0; omega, by show (0 : Int) ≤ 4096; omega, by rw [← hW]; show out ++ takeF _ 0 = out ++ takeF _ 0; rw [take_0, take_0], by show out.length ≤ _; omega⟩ (by show _ - (i + 1) < _ - i; omega)).of ⟨rfl, rfl, rfl, rfl, rfl, trivial⟩
      ·refine .skip (.code (.seq (.keep [(14, _), (3, _), (12, _), (35, _), (36, _), (37, _)] ⟨rfl, rfl, rfl, rfl, rfl, rfl, trivial⟩ (.region ?_))))
       refine .p rfl rfl (.fieldAddr rfl rfl rfl rfl) (.p rfl rfl (.load rfl rfl rfl (B7.cell 1)) (.p rfl rfl (.mv rfl) (.p rfl rfl (.min2 rfl rfl) (.p rfl rfl (.fieldAddr rfl rfl rfl rfl) (.s rfl (.store rfl rfl rfl rfl rfl B7 (by simp)) ?_)))))
       intro w8 P8
       have B8 := P8.blk
       have hO := OwnO.ext hO P8.ext (by rintro k hk _ rfl; exact hk.2 rfl) (fun _ h => h.elim)
       have hX := hX.trans (P8.ext.mono (fun k _ h => by have h : k = wi.heap.size := h; show w32.heap.size ≤ k; omega))
       have z8 := P8.ext.size
       refine .nil (.code (.seq (.keep [(14, _), (3, _), (12, _), (35, _), (36, _), (37, _)] ⟨rfl, rfl, rfl, rfl, rfl, rfl, trivial⟩ (.region ?_))))
       refine .p rfl rfl (.mv rfl) (.p rfl rfl (.fieldAddr rfl rfl rfl rfl) (.p rfl rfl (.load rfl rfl rfl (B8.cell 1)) (.p rfl rfl (.sub rfl rfl (by omega)) (.p rfl rfl (.as rfl) (.nil (.code (.keep [(3, _), (14, _), (12, _), (35, _), (36, _), (37, _)] ⟨rfl, rfl, rfl, rfl, rfl, rfl, trivial⟩ (.region ?_))))))))
       refine .p rfl rfl (.mv rfl) (.p rfl rfl (.loadA (n := 2) rfl rfl rfl rfl rfl B8.cells) (.v rfl rfl (.lits rfl rfl (fun _ => by kernel_rfl)) ?_))
       rintro _ w54 ⟨rfl, N54⟩
       refine .v rfl rfl (.appendLo (t := tPiece) (xs := out) (ys := [⟨F[i].fr, min F[i].ct m⟩]) (Q := fun _ => False) (B := fun k => w32.heap.size ≤ k ∧ k ≠ wi.heap.size) (eb := 16) rfl (OwnO.ext0 hO N54.ext) (fun k hk => by have := N54.size; exact ⟨by omega, by omega⟩) rfl (.inr (New.holds (t := tPiece) (xs := [⟨F[i].fr, min F[i].ct m⟩]) N54 (.cons (tPiece.mk (P := fun _ => False) (p := ⟨F[i].fr, min F[i].ct m⟩) (by show -9223372036854775808 ≤ F[i].fr ∧ F[i].fr ≤ 9223372036854775807; omega) (by show -9223372036854775808 ≤ min F[i].ct m ∧ min F[i].ct m ≤ 9223372036854775807; omega)) .nil) rfl)) rfl rfl rfl rfl rfl rfl rfl (by simp; omega) (by simp [Lim]; omega) (fun _ h _ => h.elim)) ?_
       rintro r55 w55 ⟨O55, X55⟩
       have hX := (hX.trans (N54.ext.mono (fun _ _ h => h.elim))).trans (X55.mono (fun _ _ h => h.1))
       refine .p rfl rfl (.as rfl) (.nil (.blk (.code (.keep [(12, _), (3, _), (35, _), (36, _), (37, _)] ⟨rfl, rfl, rfl, rfl, rfl, trivial⟩ (.region ?_)))))
       refine .p rfl rfl (.add rfl rfl (by omega)) (.p rfl rfl (.mv rfl) (.nil ?_))
       exact (again (i + 1, w55, _, m - min F[i].ct m, out ++ [⟨F[i].fr, min F[i].ct m⟩]) ⟨by show i + 1 ≤ _; omega, OwnO.mono O55 (fun _ h _ => h) (fun k h _ => h.1), hX, by show 0 ≤ m - min F[i].ct m; omega, by show m - min F[i].ct m ≤ 4096; omega, by rw [← hW, take_step hi (by omega)]; simp, by show (out ++ [_]).length ≤ _; simp; omega⟩ (by show _ - (i + 1) < _ - i; omega)).of ⟨rfl, rfl, rfl, rfl, rfl, trivial⟩
     ·obtain rfl : i = F.length := by omega
      refine .exit rfl (.code (.seq (.keep [(12, _)] ⟨rfl, trivial⟩ (.region ?_))))
      refine .p rfl rfl (.mv rfl) (.p rfl rfl (.as rfl) (.p rfl rfl (.as rfl) (.nil (.code ?_))))
      refine .ret _ rfl ?_
      rw [List.drop_length, show takeF [] m = [] from rfl, List.append_nil] at hW
      rw [htl, hte, ← hW]
      exact ⟨_, rfl, OwnO.mono hO (fun _ h _ => h) (fun k hk _ => Nat.le_trans Z32.size hk), Z32.then hX (fun k hk _ => Nat.le_trans Z32.size hk)⟩
theorem Sectors_fn {w : World} {v : Value} {l : List Piece} (h : (Sl tPiece).rep All w v l) : Fn Tryz.prog 68 [v] w (fun r w2 => ∃ v', r = .tuple #[v', i64 (checkR 4096 l)] ∧ OwnO tInt (fun _ => False) 3 w2 v' (if checkR 4096 l = 0 then sectF l else []) (fun k => w.heap.size ≤ k) ∧ Ext (fun _ => False) w w2) := by
 obtain ⟨a, cap, rfl, hcap⟩ := Sl.val h
 refine Fn.enter (fun w => Tryz.call68 _ w) Tryz.func68 rfl ?_
 refine .seq (.region ?_)
 refine .p rfl rfl (.as rfl) (.p rfl rfl (.as rfl) (.nil (.code (.seq (.seq (.keep [(0, _)] ⟨rfl, trivial⟩ (.region ?_)))))))
 refine .p rfl rfl (.mv rfl) (.call (first := []) (captured := []) rfl rfl rfl rfl (RoomCheck_fn h) ?_)
 rintro _ w10 ⟨rfl, X10⟩
 have R10 : (Sl tPiece).rep (fun k => k < w10.heap.size) w10 (.slice a l.length cap) l := (Sl tPiece).mono ((Sl tPiece).ext0 h X10) (fun k _ h => h)
 refine .p rfl rfl (.as rfl) (.nil (.code (.seq (.keep [(4, _), (0, _)] ⟨rfl, rfl, trivial⟩ (.region ?_)))))
 refine .p rfl rfl (.mv rfl) (.p rfl rfl (.ne rfl rfl) (.nil (.code (.keep [(12, _), (4, _), (0, _)] ⟨rfl, rfl, rfl, trivial⟩ ?_))))
 refine .condD rfl (fun c12 => ?_) (fun c12 => ?_)
 ·refine .seq (.keep [(4, _)] ⟨rfl, trivial⟩ (.region ?_))
  refine .p rfl rfl (.mv rfl) (.p rfl rfl (.as rfl) (.p rfl rfl (.as rfl) (.nil (.code ?_))))
  refine .ret _ rfl ?_
  rw [if_neg c12]
  exact ⟨_, rfl, OwnO.nil, X10⟩
 ·have hz : checkR 4096 l = 0 := Decidable.not_not.1 c12
  obtain ⟨_, _, hll, hmay⟩ := check_ok hz
  refine .skip (.code (.seq (.keep [(0, _)] ⟨rfl, trivial⟩ (.region ?_))))
  refine .p rfl rfl (.as rfl) (.nil (.code (.seq (.seq (.region ?_)))))
  refine .p rfl rfl (.mv rfl) (.p rfl rfl (.len rfl rfl) (.p rfl rfl (.mv rfl) (.nil (.code (.block (.keep [(16, _), (15, _), (14, _), (5, _)] ⟨rfl, rfl, rfl, rfl, trivial⟩ ?_))))))
  refine .loop (S := Nat × World × Value) (fun s => [(5, s.2.2), (14, .slice a l.length cap), (15, i64 l.length), (16, i64 s.1)]) (fun s => s.2.1) (fun s => s.1 ≤ l.length ∧ OwnO tInt (fun _ => False) 3 s.2.1 s.2.2 (sectF (l.take s.1)) (fun k => w10.heap.size ≤ k) ∧ Ext (fun k => w10.heap.size ≤ k) w10 s.2.1) (fun s => l.length - s.1) (0, w10, .slice none 0 0) ⟨rfl, rfl, rfl, rfl, trivial⟩ rfl ⟨Nat.zero_le _, OwnO.nil, .refl _⟩ ?_
  rintro ⟨i, wi, vo⟩ J ⟨hi', hO, hX⟩ again
  simp only at hi' hO hX
  change G _ [(5, vo), (14, .slice a l.length cap), (15, i64 l.length), (16, i64 i)] _ _ wi
  refine .seq (.region ?_)
  refine .p rfl rfl (.lt rfl rfl) (.nil (.code (.seq ?_)))
  refine .condD rfl (fun c17 => ?_) (fun c17 => ?_)
  ·have hi : i < l.length := by omega
   obtain ⟨b1, o1, q1, ue, e, _, hcs, hre⟩ := Sl.at ((Sl tPiece).ext R10 hX (fun k h1 _ h2 => by have h1 : k < w10.heap.size := h1; have h2 : w10.heap.size ≤ k := h2; omega)) (List.getElem?_eq_getElem hi)
   cases e
   obtain ⟨rfl, hr1, hr2⟩ := tPiece.val hre
   have hki := hmay.1 l[i] (List.getElem_mem hi)
   unfold okP at hki
   have zi := hX.size
   have hsl := sect_length (l := l.take i) (fun p hp => by have := hmay.1 p (List.mem_of_mem_take hp); unfold okP at this; omega)
   rw [List.length_take] at hsl
   refine .skip (.code (.seq (.block (.seq (.keep [(5, _), (14, _), (15, _), (16, _)] ⟨rfl, rfl, rfl, rfl, trivial⟩ (.region ?_))))))
   refine .p rfl rfl (.indexAddr (s := 2) rfl rfl rfl rfl (by omega)) (.p rfl rfl (.loadA (n := 2) rfl rfl rfl rfl rfl hcs) (.v rfl rfl (.alloc rfl rfl) ?_))
   rintro _ w7a ⟨rfl, N7⟩
   refine .s rfl (.storeAll (n := 2) rfl rfl rfl rfl rfl N7.blk rfl) ?_
   intro w7 P7
   have X7 := N7.ext.then P7.ext (by rintro k rfl _; exact Nat.le_refl _)
   have B7 := P7.blk
   have hO := OwnO.ext0 (OwnO.mono (B' := fun k => w10.heap.size ≤ k ∧ k ≠ wi.heap.size) hO (fun _ h _ => h) (fun k h1 h2 => ⟨h1, Nat.ne_of_lt h2⟩)) X7
   have hX := hX.trans (X7.mono (fun _ _ h => h.elim))
   have zz := X7.size
   have hp0 : ¬ w7.heap.size ≤ wi.heap.size := by have := N7.size; have := P7.ext.size; omega
   refine .nil (.code (.seq (.keep [(7, _), (5, _), (14, _), (15, _), (16, _)] ⟨rfl, rfl, rfl, rfl, rfl, trivial⟩ (.region ?_))))
   refine .p rfl rfl (.fieldAddr rfl rfl rfl rfl) (.p rfl rfl (.load rfl rfl rfl (B7.cell 1)) (.p rfl rfl (.mv rfl) (.nil (.code (.block (.keep [(22, _), (21, _), (7, _), (5, _), (14, _), (15, _), (16, _)] ⟨rfl, rfl, rfl, rfl, rfl, rfl, rfl, trivial⟩ ?_))))))
   refine .loop (S := Nat × World × Value) (fun s => [(5, s.2.2), (7, .pointer (some ⟨wi.heap.size, 0, none⟩)), (14, .slice (some ⟨b1, o1, none⟩) l.length cap), (15, i64 l.length), (16, i64 (i : Nat)), (21, i64 l[i].ct), (22, i64 s.1)]) (fun s => s.2.1) (fun s => s.1 ≤ l[i].ct.toNat ∧ OwnO tInt (fun _ => False) 3 s.2.1 s.2.2 (sectF (l.take i) ++ oneF l[i] s.1) (fun k => w10.heap.size ≤ k ∧ k ≠ wi.heap.size) ∧ Ext (fun k => w10.heap.size ≤ k ∧ k ≠ wi.heap.size) w7 s.2.1) (fun s => l[i].ct.toNat - s.1) (0, w7, vo) ⟨rfl, rfl, rfl, rfl, rfl, rfl, rfl, trivial⟩ rfl ⟨Nat.zero_le _, by show OwnO _ _ _ _ _ (_ ++ []) _; rw [List.append_nil]; exact hO, .refl _⟩ ?_
   rintro ⟨k, wj, vp⟩ J2 ⟨hk', hP, hY⟩ again2
   simp only at hk' hP hY
   have zj := hY.size
   change G _ [(5, vp), (7, .pointer (some ⟨wi.heap.size, 0, none⟩)), (14, .slice (some ⟨b1, o1, none⟩) l.length cap), (15, i64 l.length), (16, i64 (i : Nat)), (21, i64 l[i].ct), (22, i64 k)] _ _ wj
   refine .seq (.region ?_)
   refine .p rfl rfl (.lt rfl rfl) (.nil (.code (.seq ?_)))
   refine .condD rfl (fun c23 => ?_) (fun c23 => ?_)
   ·refine .skip (.code (.seq (.block (.seq (.keep [(5, _), (7, _), (14, _), (15, _), (16, _), (21, _), (22, _)] ⟨rfl, rfl, rfl, rfl, rfl, rfl, rfl, trivial⟩ (.region ?_))))))
    refine .p rfl rfl (.mv rfl) (.p rfl rfl (.as rfl) (.nil (.code (.keep [(8, _), (5, _), (7, _), (14, _), (15, _), (16, _), (21, _), (22, _)] ⟨rfl, rfl, rfl, rfl, rfl, rfl, rfl, rfl, trivial⟩ (.region ?_)))))
    refine .p rfl rfl (.mv rfl) (.p rfl rfl (.fieldAddr rfl rfl rfl rfl) (.p rfl rfl (.load rfl rfl rfl ((B7.ext hY (fun h => h.2 rfl)).cell 0)) (.p rfl rfl (.mv rfl) (.p rfl rfl (.add rfl rfl (by omega)) (.v rfl rfl (.lits rfl rfl (fun _ => by kernel_rfl)) ?_)))))
    rintro _ w30 ⟨rfl, N30⟩
    refine .v rfl rfl (.appendLo (t := tInt) (xs := sectF (l.take i) ++ oneF l[i] k) (ys := [l[i].fr + (k : Int)]) (Q := fun _ => False) (B := fun k => w10.heap.size ≤ k ∧ k ≠ wi.heap.size) (eb := 8) rfl (OwnO.ext0 hP N30.ext) (fun k hk => by have := N30.size; exact ⟨by omega, by omega⟩) rfl (.inr (New.holds (t := tInt) (us := [i64 (l[i].fr + (k : Int))]) (xs := [l[i].fr + (k : Int)]) N30 (.cons ⟨rfl, by omega⟩ .nil) rfl)) rfl rfl rfl rfl rfl rfl rfl (by simp only [List.length_append, one_length, List.length_singleton]; omega) (by simp only [List.length_append, one_length, List.length_singleton, Lim]; omega) (fun _ h _ => h.elim)) ?_
    rintro r31 w31 ⟨O31, X31⟩
    have hY := (hY.trans (N30.ext.mono (fun _ _ h => h.elim))).trans X31
    refine .p rfl rfl (.as rfl) (.nil (.blk (.code (.keep [(5, _), (7, _), (14, _), (15, _), (16, _), (21, _), (22, _)] ⟨rfl, rfl, rfl, rfl, rfl, rfl, rfl, trivial⟩ (.region ?_)))))
    refine .p rfl rfl (.add rfl rfl (by omega)) (.p rfl rfl (.mv rfl) (.nil ?_))
    exact (again2 (k + 1, w31, _) ⟨by show k + 1 ≤ _; omega, by rw [one_succ, ← List.append_assoc]; exact O31, hY⟩ (by show _ - (k + 1) < _ - k; omega)).of ⟨rfl, rfl, rfl, rfl, rfl, rfl, rfl, trivial⟩
   ·obtain rfl : k = l[i].ct.toNat := by omega
    refine .exit rfl (.blk (.code (.keep [(5, _), (14, _), (15, _), (16, _)] ⟨rfl, rfl, rfl, rfl, trivial⟩ (.region ?_))))
    refine .p rfl rfl (.add rfl rfl (by omega)) (.p rfl rfl (.mv rfl) (.nil ?_))
    exact (again (i + 1, wj, _) ⟨by show i + 1 ≤ _; omega, by rw [sect_take hi]; exact OwnO.mono hP (fun _ h _ => h) (fun k h _ => h.1), hX.trans (hY.mono (fun k _ h => h.1))⟩ (by show _ - (i + 1) < _ - i; omega)).of ⟨rfl, rfl, rfl, rfl, trivial⟩
  ·obtain rfl : i = l.length := by omega
   rw [List.take_length] at hO
   refine .exit rfl (.code (.seq (.keep [(5, _)] ⟨rfl, trivial⟩ (.region ?_))))
   refine .p rfl rfl (.mv rfl) (.p rfl rfl (.as rfl) (.p rfl rfl (.as rfl) (.nil (.code ?_))))
   refine .ret _ rfl ?_
   rw [if_pos hz, hz]
   exact ⟨_, rfl, OwnO.mono hO (fun _ h _ => h) (fun k hk _ => Nat.le_trans X10.size hk), X10.then hX (fun k hk _ => Nat.le_trans X10.size hk)⟩
end Go.Proofs.YtpfehnopghffjaaGreatDoor
namespace Go.Proofs.YtpfehnopghffjaaGreatDoor
open Go
namespace files
open room
theorem sumF_eq : ∀ l : List Piece, totalF l = (l.map (·.ct)).sum
 | [] => rfl
 | p :: l => by show p.ct + totalF l = _; rw [sumF_eq l]; rfl
theorem manyF_eq (l : List Piece) : manyF l = if checkR 4096 l = 0 then totalF l else 0 := by unfold manyF; rw [sumF_eq]
theorem allP_split (l : List File) (i : Nat) : allP l = (l.take i).flatMap (·.ps) ++ (l.drop i).flatMap (·.ps) := by unfold allP; rw [← List.flatMap_append, List.take_append_drop]
theorem allP_le (l : List File) (i : Nat) : ((l.take i).flatMap (·.ps)).length ≤ (allP l).length := by
 have := congrArg List.length (allP_split l i)
 rw [List.length_append] at this
 omega
theorem allP_step {l : List File} {i : Nat} (h : i < l.length) : ((l.take i).flatMap (·.ps)).length + l[i].ps.length ≤ (allP l).length := by
 have h1 := allP_le l (i + 1)
 rw [files_step h, List.length_append] at h1
 exact h1
theorem bad_at {x : Dir} {i : Nat} (hl : ¬ 32 < x.fs.length) (hi : i < x.fs.length) (h : ¬ okAt x.fs i hi) : checkD x = 8 := checkD_8 hl (fun hm => h (hm.2.2.2 i hi))
end files
theorem Ev.geS {P : Program} {e : Env} {w : World} {x y : Operand} {T T' : TypeId} {a b : Bs} (hx : look e x = some (str a)) (hy : look e y = some (str b)) : Ev P e (.binOp .geq T x y T') w (.bool (!Op.bytesLess a b)) :=
 fun w' _ ρ hρ o ho => by
  have h1 : (bs a).toList = a := bs_toList a
  have h2 : (bs b).toList = b := bs_toList b
  simp [execOp, ho, hρ _ _ hx, hρ _ _ hy, eqGuard, binOp, Op.stringOp, h1, h2]
open room files
attribute [local irreducible] checkR nameF
theorem pieces_fn {w : World} {v : Value} {x : Dir} (h : tDir.rep All w v x) (hp : (allP x.fs).length ≤ 1000000) : Fn Tryz.prog 74 [v] w (fun r w2 => OwnO tPiece (fun _ => False) 40 w2 r (allP x.fs) (fun k => w.heap.size ≤ k) ∧ Ext (fun _ => False) w w2) := by
 obtain ⟨a, cap, rfl, hf, hg⟩ := tDir.val h
 have hlim := Sl.lim hf
 simp only [Lim] at hlim
 refine Fn.enter (fun w => Tryz.call74 _ w) Tryz.func74 rfl ?_
 refine .seq (.region ?_)
 refine .v rfl rfl (.box rfl) ?_
 rintro _ w1 ⟨rfl, N1⟩
 refine .p rfl rfl (.as rfl) (.nil (.code (.seq (.keep [(1, _)] ⟨rfl, trivial⟩ (.region ?_)))))
 refine .p rfl rfl (.as rfl) (.nil (.code (.seq (.seq (.region ?_)))))
 refine .p rfl rfl (.fieldAddr rfl rfl rfl rfl) (.p rfl rfl (.load rfl rfl rfl (N1.blk.cell 1)) (.p rfl rfl (.len rfl rfl) (.p rfl rfl (.mv rfl) (.nil (.code (.block (.keep [(9, _), (8, _), (7, _), (3, _)] ⟨rfl, rfl, rfl, rfl, trivial⟩ ?_)))))))
 refine .loop (S := Nat × List Piece × Value × World) (fun s => [(3, s.2.2.1), (7, .slice a x.fs.length cap), (8, i64 x.fs.length), (9, i64 s.1)]) (fun s => s.2.2.2) (fun s => s.1 ≤ x.fs.length ∧ s.2.1 = (x.fs.take s.1).flatMap (·.ps) ∧ OwnO tPiece (fun _ => False) 40 s.2.2.2 s.2.2.1 s.2.1 (fun k => w.heap.size ≤ k) ∧ Ext (fun _ => False) w s.2.2.2) (fun s => x.fs.length - s.1) (0, [], .slice none 0 0, w1) ⟨rfl, rfl, rfl, rfl, trivial⟩ rfl ⟨Nat.zero_le _, rfl, OwnO.nil, N1.ext⟩ ?_
 rintro ⟨i, acc, vi, wi⟩ J ⟨hi', ha, hO, hX⟩ again
 simp only at hi' ha hO hX
 have zi := hX.size
 change G _ [(3, vi), (7, .slice a x.fs.length cap), (8, i64 x.fs.length), (9, i64 i)] _ _ wi
 refine .seq (.region ?_)
 refine .p rfl rfl (.lt rfl rfl) (.nil (.code (.seq ?_)))
 refine .condD rfl (fun c10 => ?_) (fun c10 => ?_)
 ·have hi : i < x.fs.length := by omega
  obtain ⟨b1, o1, q1, ue1, e1, _, hcs1, hre1⟩ := Sl.at hf (List.getElem?_eq_getElem hi)
  cases e1
  obtain ⟨fa1, fc1, rfl, hps1, hnm1, hsz1⟩ := tFile.val hre1
  have hst := allP_step hi
  rw [← ha] at hst
  refine .skip (.code (.seq (.block (.seq (.keep [(3, _), (7, _), (8, _), (9, _)] ⟨rfl, rfl, rfl, rfl, trivial⟩ (.region ?_))))))
  refine .p rfl rfl (.indexAddr (s := 3) rfl rfl rfl rfl (by omega)) (.p rfl rfl (.loadA (n := 3) rfl rfl rfl rfl rfl (hcs1.ext hX (fun x => x))) (.v rfl rfl (.alloc rfl rfl) ?_))
  rintro _ w5 ⟨rfl, N5⟩
  refine .s rfl (.storeAll (n := 3) rfl rfl rfl rfl rfl N5.blk rfl) ?_
  intro w4 P4
  have X4 := hX.trans (N5.ext.then P4.ext (by rintro k rfl _; exact Nat.le_refl _))
  have z4 := X4.size
  have y4 := (N5.ext.then P4.ext (by rintro k rfl _; exact Nat.le_refl _))
  have B4 := P4.blk
  refine .nil (.code (.keep [(5, _), (3, _), (7, _), (8, _), (9, _)] ⟨rfl, rfl, rfl, rfl, rfl, trivial⟩ (.region ?_)))
  refine .p rfl rfl (.mv rfl) (.p rfl rfl (.fieldAddr rfl rfl rfl rfl) (.p rfl rfl (.load rfl rfl rfl (B4.cell 2)) (.v rfl rfl (.appendLo (t := tPiece) (eb := 16) rfl (OwnO.ext0 hO y4) (fun k hk => by omega) rfl (Sl.holds ((Sl tPiece).ext0 hps1 X4) (fun _ _ h => h)) rfl rfl rfl rfl rfl rfl rfl (by omega) (by simp only [Lim]; omega) (fun _ h _ => h.elim)) ?_)))
  rintro v16 w16 ⟨O16, X16⟩
  have Z16 : Ext (fun _ => False) w w16 := X4.then X16 (fun k hk _ => hk)
  refine .p rfl rfl (.as rfl) (.nil (.blk (.code (.keep [(3, _), (7, _), (8, _), (9, _)] ⟨rfl, rfl, rfl, rfl, trivial⟩ (.region ?_)))))
  refine .p rfl rfl (.add rfl rfl (by omega)) (.p rfl rfl (.mv rfl) (.nil ?_))
  exact (again (i + 1, acc ++ x.fs[i].ps, v16, w16) ⟨by show i + 1 ≤ _; omega, by show acc ++ x.fs[i].ps = _; rw [files_step hi, ha], O16, Z16⟩ (by show _ - (i + 1) < _ - i; omega)).of ⟨rfl, rfl, rfl, rfl, trivial⟩
 ·obtain rfl : i = x.fs.length := by omega
  rw [List.take_length] at ha
  refine .exit rfl (.code (.seq (.keep [(3, _)] ⟨rfl, trivial⟩ (.region ?_))))
  refine .p rfl rfl (.mv rfl) (.p rfl rfl (.as rfl) (.nil (.code ?_)))
  refine .ret _ rfl ?_
  rw [ha] at hO
  exact ⟨hO, hX⟩
theorem check1_fn {w : World} {p : Piece} : Fn Tryz.prog 113 [.agg #[i64 p.fr, i64 p.ct]] w (fun r w2 => r = .bool (decide (p.fr < 80)) ∧ Ext (fun _ => False) w w2) := by
 refine Fn.enter (fun w => Tryz.call113 _ w) Tryz.func113 rfl ?_
 refine .seq (.region ?_)
 refine .v rfl rfl (.box rfl) ?_
 rintro _ w1 ⟨rfl, N1⟩
 refine .p rfl rfl (.as rfl) (.nil (.code (.seq (.keep [(1, _)] ⟨rfl, trivial⟩ (.region ?_)))))
 refine .p rfl rfl (.fieldAddr rfl rfl rfl rfl) (.p rfl rfl (.load rfl rfl rfl (N1.blk.cell 0)) (.p rfl rfl (.lt rfl rfl) (.p rfl rfl (.as rfl) (.nil (.code ?_)))))
 refine .ret _ rfl ?_
 exact ⟨rfl, N1.ext⟩
theorem IndexLow_fn {w : World} {v : Value} {l : List Piece} (h : (Sl tPiece).rep All w v l) : Fn Tryz.prog 141 [v, .func (.func 113) #[] #[]] w (fun r w2 => ∃ n : Int, r = i64 n ∧ (0 ≤ n ↔ ∃ p ∈ l, p.fr < 80) ∧ Ext (fun _ => False) w w2) := by
 obtain ⟨a, cap, rfl, hcap⟩ := Sl.val h
 have hlim := Sl.lim h
 simp only [Lim] at hlim
 refine Fn.enter (fun w => Tryz.call141 _ w) Tryz.func141 rfl ?_
 refine .seq (.region ?_)
 refine .p rfl rfl (.as rfl) (.nil (.code (.seq (.seq (.keep [(0, _), (1, _)] ⟨rfl, rfl, trivial⟩ (.region ?_))))))
 refine .p rfl rfl (.mv rfl) (.p rfl rfl (.len rfl rfl) (.p rfl rfl (.mv rfl) (.nil (.code (.block (.keep [(8, _), (7, _), (0, _), (1, _)] ⟨rfl, rfl, rfl, rfl, trivial⟩ ?_))))))
 refine .loop (S := Nat × World) (fun s => [(0, .slice a l.length cap), (1, .func (.func 113) #[] #[]), (7, i64 l.length), (8, i64 s.1)]) (fun s => s.2) (fun s => s.1 ≤ l.length ∧ (∀ j (h : j < l.length), j < s.1 → ¬ l[j].fr < 80) ∧ Ext (fun _ => False) w s.2) (fun s => l.length - s.1) (0, w) ⟨rfl, rfl, rfl, rfl, trivial⟩ rfl ⟨Nat.zero_le _, fun j _ h => absurd h (Nat.not_lt_zero _), .refl _⟩ ?_
 rintro ⟨i, wi⟩ J ⟨hi', hn, hX⟩ again
 simp only at hi' hn hX
 change G _ [(0, .slice a l.length cap), (1, .func (.func 113) #[] #[]), (7, i64 l.length), (8, i64 i)] _ _ wi
 refine .seq (.region ?_)
 refine .p rfl rfl (.lt rfl rfl) (.nil (.code (.seq ?_)))
 refine .condD rfl (fun c9 => ?_) (fun c9 => ?_)
 ·have hi : i < l.length := by omega
  obtain ⟨b1, o1, q1, ue, e, _, hcs, hre⟩ := Sl.at h (List.getElem?_eq_getElem hi)
  cases e
  obtain ⟨rfl, hr1, hr2⟩ := tPiece.val hre
  refine .skip (.code (.seq (.block (.seq (.keep [(0, _), (1, _), (7, _), (8, _)] ⟨rfl, rfl, rfl, rfl, trivial⟩ (.region ?_))))))
  refine .p rfl rfl (.mv rfl) (.p rfl rfl (.as rfl) (.nil (.code (.seq (.keep [(5, _), (0, _), (1, _), (7, _), (8, _)] ⟨rfl, rfl, rfl, rfl, rfl, trivial⟩ (.region ?_))))))
  refine .p rfl rfl (.mv rfl) (.p rfl rfl (.mv rfl) (.p rfl rfl (.mv rfl) (.p rfl rfl (.indexAddr (s := 2) rfl rfl rfl rfl (by omega)) (.p rfl rfl (.loadA (n := 2) rfl rfl rfl rfl rfl (hcs.ext hX (fun x => x))) (.call (first := []) (captured := []) rfl rfl rfl rfl (check1_fn (p := l[i])) ?_)))))
  rintro _ w16 ⟨rfl, X16⟩
  refine .nil (.code (.keep [(16, _), (5, _), (0, _), (1, _), (7, _), (8, _)] ⟨rfl, rfl, rfl, rfl, rfl, rfl, trivial⟩ ?_))
  refine .condD rfl (fun c16 => ?_) (fun c16 => ?_)
  ·refine .seq (.keep [(5, _)] ⟨rfl, trivial⟩ (.region ?_))
   refine .p rfl rfl (.mv rfl) (.p rfl rfl (.as rfl) (.nil (.code ?_)))
   refine .ret _ rfl ?_
   exact ⟨_, rfl, ⟨fun _ => ⟨l[i], List.getElem_mem hi, c16⟩, fun _ => by omega⟩, hX.trans X16⟩
  ·refine .skip (.blk (.code (.keep [(0, _), (1, _), (7, _), (8, _)] ⟨rfl, rfl, rfl, rfl, trivial⟩ (.region ?_))))
   refine .p rfl rfl (.add rfl rfl (by omega)) (.p rfl rfl (.mv rfl) (.nil ?_))
   refine (again (i + 1, w16) ⟨by show i + 1 ≤ _; omega, fun j hj h1 => ?_, hX.trans X16⟩ (by show _ - (i + 1) < _ - i; omega)).of ⟨rfl, rfl, rfl, rfl, trivial⟩
   rcases Nat.lt_or_ge j i with h2 | h2
   ·exact hn j hj h2
   ·have h1 : j < i + 1 := h1
    obtain rfl : j = i := by omega
    exact c16
 ·obtain rfl : i = l.length := by omega
  refine .exit rfl (.code (.seq (.keep [] trivial (.region ?_))))
  refine .p rfl rfl (.as rfl) (.nil (.code ?_))
  refine .ret _ rfl ?_
  refine ⟨_, rfl, ⟨fun h => absurd h (by decide), fun ⟨p, hp, h1⟩ => ?_⟩, hX⟩
  obtain ⟨j, hj, rfl⟩ := List.getElem_of_mem hp
  exact absurd h1 (hn j hj hj)
theorem ContainsLow_fn {w : World} {v : Value} {l : List Piece} (h : (Sl tPiece).rep All w v l) : Fn Tryz.prog 112 [v, .func (.func 113) #[] #[]] w (fun r w2 => (∃ t : Bool, r = .bool t ∧ (t = true ↔ ∃ p ∈ l, p.fr < 80)) ∧ Ext (fun _ => False) w w2) := by
 refine Fn.enter (fun w => Tryz.call112 _ w) Tryz.func112 rfl ?_
 refine .seq (.region ?_)
 refine .p rfl rfl (.as rfl) (.nil (.code (.seq (.keep [(0, _), (1, _)] ⟨rfl, rfl, trivial⟩ (.region ?_)))))
 refine .p rfl rfl (.mv rfl) (.p rfl rfl (.mv rfl) (.call (first := []) (captured := []) rfl rfl rfl rfl (IndexLow_fn h) ?_))
 rintro _ w7 ⟨n, rfl, hn, X7⟩
 refine .p rfl rfl (.ge rfl rfl) (.p rfl rfl (.as rfl) (.nil (.code ?_)))
 refine .ret _ rfl ?_
 exact ⟨⟨_, rfl, by rw [decide_eq_true_iff]; exact hn⟩, X7⟩
theorem check_fn {w : World} {v : Value} {x : Dir} (h : tDir.rep All w v x) (hp : (allP x.fs).length ≤ 1000000) : Fn Tryz.prog 45 [v] w (fun r w2 => ErrV w.heap.size w2 r (checkD x) ∧ Ext (fun _ => False) w w2) := by
 obtain ⟨a, cap, rfl, hf, hg⟩ := tDir.val h
 have hlim := Sl.lim hf
 simp only [Lim] at hlim
 refine Fn.enter (fun w => Tryz.call45 _ w) Tryz.func45 rfl ?_
 refine .seq (.region ?_)
 refine .v rfl rfl (.box rfl) ?_
 rintro _ w1 ⟨rfl, N1⟩
 refine .p rfl rfl (.as rfl) (.nil (.code (.seq (.seq (.keep [(1, _)] ⟨rfl, trivial⟩ (.region ?_))))))
 refine .p rfl rfl (.fieldAddr rfl rfl rfl rfl) (.p rfl rfl (.load rfl rfl rfl (N1.blk.cell 1)) (.p rfl rfl (.len rfl rfl) (.p rfl rfl (.gt rfl rfl) (.nil (.code (.keep [(11, _), (1, _)] ⟨rfl, rfl, trivial⟩ ?_))))))
 refine .condD rfl (fun c11 => ?_) (fun c11 => ?_)
 ·refine .seq (.keep [] trivial (.region ?_))
  refine .call (first := []) (captured := []) rfl rfl rfl rfl (fail_fn (e := 42) (by decide)) ?_
  rintro r12 w12 ⟨G12, X12⟩
  refine .p rfl rfl (.as rfl) (.nil (.code ?_))
  refine .ret _ rfl ?_
  rw [checkD_42 (by omega)]
  exact ⟨G12.low N1.ext.size, N1.ext.trans X12⟩
 ·have hl : ¬ 32 < x.fs.length := by omega
  refine .skip (.code (.seq (.keep [(1, _)] ⟨rfl, trivial⟩ (.region ?_))))
  refine .p rfl rfl (.loadA (n := 2) rfl rfl rfl rfl rfl N1.blk.cells) (.call (first := []) (captured := []) rfl rfl rfl rfl (pieces_fn (tDir.ext0 h N1.ext) hp) ?_)
  rintro r14 w14 ⟨O14, X14⟩
  have B14 := N1.blk.ext X14 (fun x => x)
  have R14 := OwnO.rep O14 (R := All) (fun _ _ _ => trivial) (fun _ h _ => h.elim)
  refine .p rfl rfl (.as rfl) (.nil (.code (.seq (.seq (.keep [(3, _), (1, _)] ⟨rfl, rfl, trivial⟩ (.region ?_))))))
  refine .p rfl rfl (.fieldAddr rfl rfl rfl rfl) (.p rfl rfl (.load rfl rfl rfl (B14.cell 0)) (.p rfl rfl (.lt rfl rfl) (.p rfl rfl (.mv rfl) ?_)))
  refine .caseD 18 rfl (fun c18 => ?_) (fun c18 => ?_)
  ·refine .skip rfl rfl (.skip rfl rfl (.skip rfl rfl (.p rfl rfl (.pickT rfl rfl) (.p rfl rfl (.mv rfl) (.skip rfl rfl (.skip rfl rfl (.skip rfl rfl (.p rfl rfl (.pickT rfl rfl) (.nil (.code (.keep [(27, _), (3, _), (1, _)] ⟨rfl, rfl, rfl, trivial⟩ (.condT rfl (.seq (.keep [] trivial (.region ?_)))))))))))))))
   refine .call (first := []) (captured := []) rfl rfl rfl rfl (fail_fn (e := 8) (by decide)) ?_
   rintro r28 w28 ⟨G28, X28⟩
   refine .p rfl rfl (.as rfl) (.nil (.code ?_))
   refine .ret _ rfl ?_
   rw [checkD_8 hl (fun hm => by have := hm.1.1; omega)]
   exact ⟨G28.low (N1.ext.trans X14).size, N1.ext.trans (X14.trans X28)⟩
  ·refine .p rfl rfl (.fieldAddr rfl rfl rfl rfl) (.p rfl rfl (.load rfl rfl rfl (B14.cell 0)) (.p rfl rfl (.ge rfl rfl) (.p rfl rfl (.pickF rfl rfl) (.p rfl rfl (.mv rfl) ?_))))
   refine .caseD 23 rfl (fun c23 => ?_) (fun c23 => ?_)
   ·refine .skip rfl rfl (.skip rfl rfl (.skip rfl rfl (.p rfl rfl (.pickT rfl rfl) (.nil (.code (.keep [(27, _), (3, _), (1, _)] ⟨rfl, rfl, rfl, trivial⟩ (.condT rfl (.seq (.keep [] trivial (.region ?_))))))))))
    refine .call (first := []) (captured := []) rfl rfl rfl rfl (fail_fn (e := 8) (by decide)) ?_
    rintro r28 w28 ⟨G28, X28⟩
    refine .p rfl rfl (.as rfl) (.nil (.code ?_))
    refine .ret _ rfl ?_
    rw [checkD_8 hl (fun hm => by have := hm.1.2; omega)]
    exact ⟨G28.low (N1.ext.trans X14).size, N1.ext.trans (X14.trans X28)⟩
   ·refine .p rfl rfl (.mv rfl) (.call (first := []) (captured := []) rfl rfl rfl rfl (RoomCheck_fn R14) ?_)
    rintro _ w25 ⟨rfl, X25⟩
    refine .p rfl rfl (.ne rfl rfl) (.p rfl rfl (.pickF rfl rfl) (.nil (.code (.keep [(27, _), (3, _), (1, _)] ⟨rfl, rfl, rfl, trivial⟩ ?_))))
    refine .condD rfl (fun c27 => ?_) (fun c27 => ?_)
    ·refine .seq (.keep [] trivial (.region ?_))
     refine .call (first := []) (captured := []) rfl rfl rfl rfl (fail_fn (e := 8) (by decide)) ?_
     rintro r28 w28 ⟨G28, X28⟩
     refine .p rfl rfl (.as rfl) (.nil (.code ?_))
     refine .ret _ rfl ?_
     rw [checkD_8 hl (fun hm => c27 hm.2.1)]
     exact ⟨G28.low (N1.ext.trans (X14.trans X25)).size, N1.ext.trans (X14.trans (X25.trans X28))⟩
    ·refine .skip (.code (.seq (.seq (.keep [(3, _), (1, _)] ⟨rfl, rfl, trivial⟩ (.region ?_)))))
     refine .p rfl rfl (.mv rfl) (.call (first := []) (captured := []) rfl rfl rfl rfl (ContainsLow_fn ((Sl tPiece).ext0 R14 X25)) ?_)
     rintro _ w30 ⟨⟨t30, rfl, ht30⟩, X30⟩
     refine .nil (.code (.keep [(30, _), (1, _)] ⟨rfl, rfl, trivial⟩ ?_))
     refine .cond rfl (fun c30 => ?_) (fun c30 => ?_)
     ·refine .seq (.keep [] trivial (.region ?_))
      refine .call (first := []) (captured := []) rfl rfl rfl rfl (fail_fn (e := 8) (by decide)) ?_
      rintro r31 w31 ⟨G31, X31⟩
      refine .p rfl rfl (.as rfl) (.nil (.code ?_))
      refine .ret _ rfl ?_
      obtain ⟨p, hpm, hlow⟩ := ht30.1 c30
      rw [checkD_8 hl (fun hm => by have := hm.2.2.1 p hpm; omega)]
      exact ⟨G31.low (N1.ext.trans (X14.trans (X25.trans X30))).size, N1.ext.trans (X14.trans (X25.trans (X30.trans X31)))⟩
     ·refine .skip (.code (.seq (.seq (.keep [(1, _)] ⟨rfl, trivial⟩ (.region ?_)))))
      refine .p rfl rfl (.fieldAddr rfl rfl rfl rfl) (.p rfl rfl (.load rfl rfl rfl (((B14.ext X25 (fun x => x)).ext X30 (fun x => x)).cell 1)) (.p rfl rfl (.len rfl rfl) (.p rfl rfl (.mv rfl) (.nil (.code (.block (.keep [(35, _), (34, _), (33, _), (1, _)] ⟨rfl, rfl, rfl, rfl, trivial⟩ ?_)))))))
      refine .loop (S := Nat × World) (fun s => [(1, .pointer (some ⟨w.heap.size, 0, none⟩)), (33, .slice a x.fs.length cap), (34, i64 x.fs.length), (35, i64 s.1)]) (fun s => s.2) (fun s => s.1 ≤ x.fs.length ∧ (∀ j (h : j < x.fs.length), j < s.1 → okAt x.fs j h) ∧ Ext (fun _ => False) w1 s.2) (fun s => x.fs.length - s.1) (0, w30) ⟨rfl, rfl, rfl, rfl, trivial⟩ rfl ⟨Nat.zero_le _, fun j _ h => absurd h (Nat.not_lt_zero _), X14.trans (X25.trans X30)⟩ ?_
      rintro ⟨i, wi⟩ J ⟨hi', hok, hX1⟩ again
      simp only at hi' hok hX1
      have hX := N1.ext.trans hX1
      change G _ [(1, .pointer (some ⟨w.heap.size, 0, none⟩)), (33, .slice a x.fs.length cap), (34, i64 x.fs.length), (35, i64 i)] _ _ wi
      refine .seq (.region ?_)
      refine .p rfl rfl (.lt rfl rfl) (.nil (.code (.seq ?_)))
      refine .condD rfl (fun c36 => ?_) (fun c36 => ?_)
      ·have hi : i < x.fs.length := by omega
       obtain ⟨b1, o1, q1, ue1, e1, _, hcs1, hre1⟩ := Sl.at hf (List.getElem?_eq_getElem hi)
       cases e1
       obtain ⟨fa1, fc1, rfl, hps1, hnm1, hsz1⟩ := tFile.val hre1
       refine .skip (.code (.seq (.block (.seq (.keep [(1, _), (33, _), (34, _), (35, _)] ⟨rfl, rfl, rfl, rfl, trivial⟩ (.region ?_))))))
       refine .p rfl rfl (.mv rfl) (.p rfl rfl (.indexAddr (s := 3) rfl rfl rfl rfl (by omega)) (.p rfl rfl (.loadA (n := 3) rfl rfl rfl rfl rfl (hcs1.ext hX (fun x => x))) (.v rfl rfl (.alloc rfl rfl) ?_)))
       rintro _ w5 ⟨rfl, N5⟩
       refine .p rfl rfl (.as rfl) (.s rfl (.storeAll (n := 3) rfl rfl rfl rfl rfl N5.blk rfl) ?_)
       intro w10 P10
       have Y10 := hX1.trans (N5.ext.then P10.ext (by rintro k rfl _; exact Nat.le_refl _))
       have X10 := N1.ext.trans Y10
       have B10 := P10.blk
       refine .nil (.code (.seq (.seq (.keep [(4, _), (5, _), (1, _), (33, _), (34, _), (35, _)] ⟨rfl, rfl, rfl, rfl, rfl, rfl, trivial⟩ (.mix (fun _ => False) [2] (by kernel_rfl) (by kernel_rfl) (by kernel_rfl) ?_)))))
       refine .p rfl rfl rfl (fun wx hx => .fieldAddr rfl rfl rfl rfl) (.p rfl rfl rfl (fun wx hx => .load rfl rfl rfl ((B10.ext hx (fun x => x)).cell 0)) (.call (first := []) (captured := []) rfl rfl rfl rfl rfl (name_fn hnm1) (by rintro _ _ ⟨_, hx⟩; exact hx) ?_))
       rintro _ w42 ⟨rfl, X42⟩
       have Z42 := X10.trans X42
       refine .p rfl rfl rfl (fun wx hx => .not rfl) (.p rfl rfl rfl (fun wx hx => .mv rfl) ?_)
       refine .case 44 rfl (fun c44 => ?_) (fun c44 => ?_)
       ·refine .skip rfl rfl (.skip rfl rfl (.skip rfl rfl (.skip rfl rfl (.skip rfl rfl (.skip rfl rfl (.skip rfl rfl (.skip rfl rfl (.skip rfl rfl (.skip rfl rfl (.skip rfl rfl (.skip rfl rfl (.skip rfl rfl (.skip rfl rfl ?_)))))))))))))
        refine .p rfl rfl rfl (fun wx hx => .pickT rfl rfl) (.p rfl rfl rfl (fun wx hx => .mv rfl) (.skip rfl rfl (.skip rfl rfl (.skip rfl rfl (.p rfl rfl rfl (fun wx hx => .pickT rfl rfl) (.p rfl rfl rfl (fun wx hx => .mv rfl) (.skip rfl rfl (.skip rfl rfl (.skip rfl rfl (.p rfl rfl rfl (fun wx hx => .pickT rfl rfl) (.nil (.code (.keep [(69, _), (5, _), (1, _), (33, _), (34, _), (35, _)] ⟨rfl, rfl, rfl, rfl, rfl, rfl, trivial⟩ (.condT rfl (.seq (.keep [] trivial (.region ?_)))))))))))))))))
        refine .call (first := []) (captured := []) rfl rfl rfl rfl (fail_fn (e := 8) (by decide)) ?_
        rintro r70 w70 ⟨G70, X70⟩
        refine .p rfl rfl (.as rfl) (.nil (.code ?_))
        refine .ret _ rfl ?_
        rw [bad_at hl hi (fun ho => by simp [ho.1] at c44)]
        exact ⟨G70.low (Z42).size, (Z42.trans X70)⟩
       ·refine .p rfl rfl rfl (fun wx hx => .mv rfl) (.p rfl rfl rfl (fun wx hx => .gt rfl rfl) (.p rfl rfl rfl (fun wx hx => .mv rfl) ?_))
        refine .caseD 47 rfl (fun c47 => ?_) (fun c47 => ?_)
        ·have hpos : 0 < i := by omega
         obtain ⟨b2, o2, q2, ue2, e2, _, hcs2, hre2⟩ := Sl.at hf (i := i - 1) (List.getElem?_eq_getElem (by omega))
         cases e2
         obtain ⟨fa2, fc2, rfl, hps2, hnm2, hsz2⟩ := tFile.val hre2
         have ej : ((i : Int) - 1).toNat = i - 1 := by omega
         refine .p rfl rfl rfl (fun wx hx => .fieldAddr rfl rfl rfl rfl) (.p rfl rfl rfl (fun wx hx => .load rfl rfl rfl ((N1.blk.ext (Y10.trans hx) (fun x => x)).cell 1)) (.p rfl rfl rfl (fun wx hx => .mv rfl) (.p rfl rfl rfl (fun wx hx => .sub rfl rfl (by omega)) (.p rfl rfl rfl (fun wx hx => .indexAddr (s := 3) rfl rfl rfl rfl (by omega)) (.p rfl rfl rfl (fun wx hx => .fieldAddr rfl rfl rfl rfl) (.p rfl rfl rfl (fun wx hx => .load rfl rfl rfl (by rw [ej]; exact (hcs2.ext (X10.trans hx) (fun x => x)) 0 _ rfl)) ?_))))))
         refine .p rfl rfl rfl (fun wx hx => .fieldAddr rfl rfl rfl rfl) (.p rfl rfl rfl (fun wx hx => .load rfl rfl rfl ((B10.ext hx (fun x => x)).cell 0)) (.p rfl rfl rfl (fun wx hx => .geS rfl rfl) (.p rfl rfl rfl (fun wx hx => .pickT rfl rfl) (.p rfl rfl rfl (fun wx hx => .pickF rfl rfl) (.p rfl rfl rfl (fun wx hx => .mv rfl) ?_)))))
         refine .case 60 rfl (fun c60 => ?_) (fun c60 => ?_)
         ·refine .skip rfl rfl (.skip rfl rfl (.skip rfl rfl (.p rfl rfl rfl (fun wx hx => .pickT rfl rfl) (.p rfl rfl rfl (fun wx hx => .mv rfl) (.skip rfl rfl (.skip rfl rfl (.skip rfl rfl (.p rfl rfl rfl (fun wx hx => .pickT rfl rfl) (.nil (.code (.keep [(69, _), (5, _), (1, _), (33, _), (34, _), (35, _)] ⟨rfl, rfl, rfl, rfl, rfl, rfl, trivial⟩ (.condT rfl (.seq (.keep [] trivial (.region ?_)))))))))))))))
          refine .call (first := []) (captured := []) rfl rfl rfl rfl (fail_fn (e := 8) (by decide)) ?_
          rintro r70 w70 ⟨G70, X70⟩
          refine .p rfl rfl (.as rfl) (.nil (.code ?_))
          refine .ret _ rfl ?_
          rw [bad_at hl hi (fun ho => by simp [ho.2.1 hpos] at c60)]
          exact ⟨G70.low (Z42).size, (Z42.trans X70)⟩
         ·refine .p rfl rfl rfl (fun wx hx => .fieldAddr rfl rfl rfl rfl) (.p rfl rfl rfl (fun wx hx => .load rfl rfl rfl ((B10.ext hx (fun x => x)).cell 1)) (.p rfl rfl rfl (fun wx hx => .lt rfl rfl) (.p rfl rfl rfl (fun wx hx => .pickF rfl rfl) (.p rfl rfl rfl (fun wx hx => .mv rfl) ?_))))
          refine .caseD 65 rfl (fun c65 => ?_) (fun c65 => ?_)
          ·refine .skip rfl rfl (.skip rfl rfl (.skip rfl rfl (.p rfl rfl rfl (fun wx hx => .pickT rfl rfl) (.nil (.code (.keep [(69, _), (5, _), (1, _), (33, _), (34, _), (35, _)] ⟨rfl, rfl, rfl, rfl, rfl, rfl, trivial⟩ (.condT rfl (.seq (.keep [] trivial (.region ?_))))))))))
           refine .call (first := []) (captured := []) rfl rfl rfl rfl (fail_fn (e := 8) (by decide)) ?_
           rintro r70 w70 ⟨G70, X70⟩
           refine .p rfl rfl (.as rfl) (.nil (.code ?_))
           refine .ret _ rfl ?_
           rw [bad_at hl hi (fun ho => by have := ho.2.2.1; omega)]
           exact ⟨G70.low (Z42).size, (Z42.trans X70)⟩
          ·refine .p rfl rfl rfl (fun wx hx => .fieldAddr rfl rfl rfl rfl) (.p rfl rfl rfl (fun wx hx => .load rfl rfl rfl ((B10.ext hx (fun x => x)).cell 1)) (.p rfl rfl rfl (fun wx hx => .gt rfl rfl) (.p rfl rfl rfl (fun wx hx => .pickF rfl rfl) (.nil (.code (.keep [(69, _), (5, _), (1, _), (33, _), (34, _), (35, _)] ⟨rfl, rfl, rfl, rfl, rfl, rfl, trivial⟩ ?_))))))
           refine .condD rfl (fun c69 => ?_) (fun c69 => ?_)
           ·refine .seq (.keep [] trivial (.region ?_))
            refine .call (first := []) (captured := []) rfl rfl rfl rfl (fail_fn (e := 8) (by decide)) ?_
            rintro r70 w70 ⟨G70, X70⟩
            refine .p rfl rfl (.as rfl) (.nil (.code ?_))
            refine .ret _ rfl ?_
            rw [bad_at hl hi (fun ho => by have := ho.2.2.2.1; omega)]
            exact ⟨G70.low (Z42).size, (Z42.trans X70)⟩
           ·refine .skip (.code (.seq (.keep [(5, _), (1, _), (33, _), (34, _), (35, _)] ⟨rfl, rfl, rfl, rfl, rfl, trivial⟩ (.region ?_))))
            refine .p rfl rfl (.fieldAddr rfl rfl rfl rfl) (.p rfl rfl (.load rfl rfl rfl ((B10.ext X42 (fun x => x)).cell 2)) (.call (first := []) (captured := []) rfl rfl rfl rfl (RoomMany_fn (allOf ((Sl tPiece).ext0 hps1 Z42))) ?_))
            rintro _ w74 ⟨rfl, X74⟩
            refine .p rfl rfl (.mv rfl) (.p rfl rfl (.extract rfl rfl) (.p rfl rfl (.extract rfl rfl) (.p rfl rfl (.as rfl) (.p rfl rfl (.as rfl) (.nil (.code (.seq (.keep [(6, _), (5, _), (1, _), (33, _), (34, _), (35, _)] ⟨rfl, rfl, rfl, rfl, rfl, rfl, trivial⟩ (.region ?_)))))))))
            refine .p rfl rfl (.mv rfl) (.p rfl rfl (.fieldAddr rfl rfl rfl rfl) (.p rfl rfl (.load rfl rfl rfl (((B10.ext X42 (fun x => x)).ext X74 (fun x => x)).cell 1)) (.call (first := []) (captured := []) rfl rfl rfl rfl (sectors_fn (by omega)) ?_)))
            rintro _ wz ⟨rfl, hz⟩
            subst wz
            refine .p rfl rfl (.ne rfl rfl) (.nil (.code (.keep [(81, _), (1, _), (33, _), (34, _), (35, _)] ⟨rfl, rfl, rfl, rfl, rfl, trivial⟩ ?_)))
            refine .condD rfl (fun c81 => ?_) (fun c81 => ?_)
            ·refine .seq (.keep [] trivial (.region ?_))
             refine .call (first := []) (captured := []) rfl rfl rfl rfl (fail_fn (e := 8) (by decide)) ?_
             rintro r82 w82 ⟨G82, X82⟩
             refine .p rfl rfl (.as rfl) (.nil (.code ?_))
             refine .ret _ rfl ?_
             rw [bad_at hl hi (fun ho => c81 (by rw [← manyF_eq]; exact ho.2.2.2.2))]
             exact ⟨G82.low (Z42.trans X74).size, (Z42.trans (X74.trans X82))⟩
            ·refine .skip (.blk (.code (.keep [(1, _), (33, _), (34, _), (35, _)] ⟨rfl, rfl, rfl, rfl, trivial⟩ (.region ?_))))
             refine .p rfl rfl (.add rfl rfl (by omega)) (.p rfl rfl (.mv rfl) (.nil ?_))
             refine (again (i + 1, w74) ⟨by show i + 1 ≤ _; omega, fun j hj h1 => ?_, Y10.trans (X42.trans X74)⟩ (by show _ - (i + 1) < _ - i; omega)).of ⟨rfl, rfl, rfl, rfl, trivial⟩
             rcases Nat.lt_or_ge j i with h2 | h2
             ·exact hok j hj h2
             ·have h1 : j < i + 1 := h1
              obtain rfl : j = i := by omega
              exact ⟨by simpa using c44, fun _ => by simpa using c60, by omega, by omega, by rw [manyF_eq]; exact Classical.not_not.1 c81⟩
        ·refine .skip rfl rfl (.skip rfl rfl (.skip rfl rfl (.skip rfl rfl (.skip rfl rfl (.skip rfl rfl (.skip rfl rfl (.skip rfl rfl (.skip rfl rfl (.skip rfl rfl (.p rfl rfl rfl (fun wx hx => .pickF rfl rfl) (.p rfl rfl rfl (fun wx hx => .pickF rfl rfl) (.p rfl rfl rfl (fun wx hx => .mv rfl) (.p rfl rfl rfl (fun wx hx => .fieldAddr rfl rfl rfl rfl) ?_)))))))))))))
         refine .p rfl rfl rfl (fun wx hx => .load rfl rfl rfl ((B10.ext hx (fun x => x)).cell 1)) (.p rfl rfl rfl (fun wx hx => .lt rfl rfl) (.p rfl rfl rfl (fun wx hx => .pickF rfl rfl) (.p rfl rfl rfl (fun wx hx => .mv rfl) ?_)))
         refine .caseD 65 rfl (fun c65 => ?_) (fun c65 => ?_)
         ·refine .skip rfl rfl (.skip rfl rfl (.skip rfl rfl (.p rfl rfl rfl (fun wx hx => .pickT rfl rfl) (.nil (.code (.keep [(69, _), (5, _), (1, _), (33, _), (34, _), (35, _)] ⟨rfl, rfl, rfl, rfl, rfl, rfl, trivial⟩ (.condT rfl (.seq (.keep [] trivial (.region ?_))))))))))
          refine .call (first := []) (captured := []) rfl rfl rfl rfl (fail_fn (e := 8) (by decide)) ?_
          rintro r70 w70 ⟨G70, X70⟩
          refine .p rfl rfl (.as rfl) (.nil (.code ?_))
          refine .ret _ rfl ?_
          rw [bad_at hl hi (fun ho => by have := ho.2.2.1; omega)]
          exact ⟨G70.low (Z42).size, (Z42.trans X70)⟩
         ·refine .p rfl rfl rfl (fun wx hx => .fieldAddr rfl rfl rfl rfl) (.p rfl rfl rfl (fun wx hx => .load rfl rfl rfl ((B10.ext hx (fun x => x)).cell 1)) (.p rfl rfl rfl (fun wx hx => .gt rfl rfl) (.p rfl rfl rfl (fun wx hx => .pickF rfl rfl) (.nil (.code (.keep [(69, _), (5, _), (1, _), (33, _), (34, _), (35, _)] ⟨rfl, rfl, rfl, rfl, rfl, rfl, trivial⟩ ?_))))))
          refine .condD rfl (fun c69 => ?_) (fun c69 => ?_)
          ·refine .seq (.keep [] trivial (.region ?_))
           refine .call (first := []) (captured := []) rfl rfl rfl rfl (fail_fn (e := 8) (by decide)) ?_
           rintro r70 w70 ⟨G70, X70⟩
           refine .p rfl rfl (.as rfl) (.nil (.code ?_))
           refine .ret _ rfl ?_
           rw [bad_at hl hi (fun ho => by have := ho.2.2.2.1; omega)]
           exact ⟨G70.low (Z42).size, (Z42.trans X70)⟩
          ·refine .skip (.code (.seq (.keep [(5, _), (1, _), (33, _), (34, _), (35, _)] ⟨rfl, rfl, rfl, rfl, rfl, trivial⟩ (.region ?_))))
           refine .p rfl rfl (.fieldAddr rfl rfl rfl rfl) (.p rfl rfl (.load rfl rfl rfl ((B10.ext X42 (fun x => x)).cell 2)) (.call (first := []) (captured := []) rfl rfl rfl rfl (RoomMany_fn (allOf ((Sl tPiece).ext0 hps1 Z42))) ?_))
           rintro _ w74 ⟨rfl, X74⟩
           refine .p rfl rfl (.mv rfl) (.p rfl rfl (.extract rfl rfl) (.p rfl rfl (.extract rfl rfl) (.p rfl rfl (.as rfl) (.p rfl rfl (.as rfl) (.nil (.code (.seq (.keep [(6, _), (5, _), (1, _), (33, _), (34, _), (35, _)] ⟨rfl, rfl, rfl, rfl, rfl, rfl, trivial⟩ (.region ?_)))))))))
           refine .p rfl rfl (.mv rfl) (.p rfl rfl (.fieldAddr rfl rfl rfl rfl) (.p rfl rfl (.load rfl rfl rfl (((B10.ext X42 (fun x => x)).ext X74 (fun x => x)).cell 1)) (.call (first := []) (captured := []) rfl rfl rfl rfl (sectors_fn (by omega)) ?_)))
           rintro _ wz ⟨rfl, hz⟩
           subst wz
           refine .p rfl rfl (.ne rfl rfl) (.nil (.code (.keep [(81, _), (1, _), (33, _), (34, _), (35, _)] ⟨rfl, rfl, rfl, rfl, rfl, trivial⟩ ?_)))
           refine .condD rfl (fun c81 => ?_) (fun c81 => ?_)
           ·refine .seq (.keep [] trivial (.region ?_))
            refine .call (first := []) (captured := []) rfl rfl rfl rfl (fail_fn (e := 8) (by decide)) ?_
            rintro r82 w82 ⟨G82, X82⟩
            refine .p rfl rfl (.as rfl) (.nil (.code ?_))
            refine .ret _ rfl ?_
            rw [bad_at hl hi (fun ho => c81 (by rw [← manyF_eq]; exact ho.2.2.2.2))]
            exact ⟨G82.low (Z42.trans X74).size, (Z42.trans (X74.trans X82))⟩
           ·refine .skip (.blk (.code (.keep [(1, _), (33, _), (34, _), (35, _)] ⟨rfl, rfl, rfl, rfl, trivial⟩ (.region ?_))))
            refine .p rfl rfl (.add rfl rfl (by omega)) (.p rfl rfl (.mv rfl) (.nil ?_))
            refine (again (i + 1, w74) ⟨by show i + 1 ≤ _; omega, fun j hj h1 => ?_, Y10.trans (X42.trans X74)⟩ (by show _ - (i + 1) < _ - i; omega)).of ⟨rfl, rfl, rfl, rfl, trivial⟩
            rcases Nat.lt_or_ge j i with h2 | h2
            ·exact hok j hj h2
            ·have h1 : j < i + 1 := h1
             obtain rfl : j = i := by omega
             exact ⟨by simpa using c44, fun h0 => absurd h0 (by omega), by omega, by omega, by rw [manyF_eq]; exact Classical.not_not.1 c81⟩
      ·obtain rfl : i = x.fs.length := by omega
       refine .exit rfl (.code (.seq (.keep [] trivial (.region ?_))))
       refine .p rfl rfl (.as rfl) (.nil (.code ?_))
       refine .ret _ rfl ?_
       refine ⟨.inl ⟨checkD_0 hl ⟨by omega, Classical.not_not.1 c27, fun p hpm => Int.not_lt.1 (fun hlt => ?_), fun i hi => hok i hi hi⟩, rfl⟩, hX⟩
       have := ht30.2 ⟨p, hpm, hlt⟩
       rw [c30] at this
       cases this
end Go.Proofs.YtpfehnopghffjaaGreatDoor
