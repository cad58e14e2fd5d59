
/-
  Package docketlaw03: pieces compared, what is free, marks.
-/
import Derived.Test.YtagjfplipknlkaaCnt
set_option linter.unusedVariables false
set_option linter.unusedSimpArgs false
set_option maxRecDepth 20000
namespace Go.Proofs.Ytagjfplipknlkaa
open Go room
namespace room
def twoP : List Piece := [⟨3, 2⟩, ⟨7, 1⟩]
def aliveP : List Piece := [⟨2, 1⟩, ⟨5, 2⟩, ⟨8, 2⟩]
theorem alive_e : freeE 2 10 twoP = 0 := by decide
theorem alive_l : freeL 2 10 twoP = aliveP := by decide
end room
theorem same_fn {w : World} {v u : Value} {l m : List Piece} (hl : (Sl tPiece).rep All w v l) (hm : (Sl tPiece).rep All w u m) : Fn Try.prog 19 [v, u] w (fun r w2 => r = .bool (decide (l = m)) ∧ Ext (fun _ => False) w w2) := by
  obtain ⟨a, cap, rfl, hcap⟩ := Sl.val hl
  obtain ⟨a2, cap2, rfl, hcap2⟩ := Sl.val hm
  have hlim := Sl.lim hl
  have hlim2 := Sl.lim hm
  simp only [Lim] at hlim hlim2
  refine Fn.enter (fun w => Try.call19 _ w) Try.func19 rfl ?_
  refine .seq (.region ?_)
  refine .p rfl rfl (.as rfl) ?_
  refine .nil (.code (.seq (.seq (.keep [(0, _), (1, _)] ⟨rfl, rfl, trivial⟩ (.region ?_)))))
  refine .p rfl rfl (.mv rfl) ?_
  refine .p rfl rfl (.len rfl rfl) ?_
  refine .p rfl rfl (.mv rfl) ?_
  refine .p rfl rfl (.len rfl rfl) ?_
  refine .p rfl rfl (.ne rfl rfl) ?_
  refine .nil (.code (.keep [(10, _), (0, _), (1, _)] ⟨rfl, rfl, rfl, trivial⟩ ?_))
  refine .condD rfl (fun c10 => ?_) (fun c10 => ?_)
  · refine .seq (.keep [] trivial (.region ?_))
    refine .p rfl rfl (.as rfl) ?_
    refine .nil (.code ?_)
    refine .ret _ rfl ?_
    exact ⟨by rw [decide_eq_false (fun h => by rw [h] at c10; exact c10 rfl)]; rfl, .refl _⟩
  · refine .skip (.code (.seq (.seq (.keep [(0, _), (1, _)] ⟨rfl, rfl, trivial⟩ (.region ?_)))))
    refine .p rfl rfl (.as rfl) ?_
    refine .nil (.code (.block ?_))
    have hlen : l.length = m.length := by omega
    refine .loop (S := Nat) (fun s => [(0, .slice a l.length cap), (1, .slice a2 m.length cap2), (5, i64 s)]) (fun s => w) (fun s => s ≤ l.length ∧ l.take s = m.take s) (fun s => l.length - s) 0 ⟨rfl, rfl, rfl, trivial⟩ rfl ⟨Nat.zero_le _, rfl⟩ ?_
    rintro i J ⟨hi', htk⟩ again
    refine .seq (.seq (.region ?_))
    refine .p rfl rfl (.mv rfl) ?_
    refine .p rfl rfl (.mv rfl) ?_
    refine .p rfl rfl (.len rfl rfl) ?_
    refine .p rfl rfl (.lt rfl rfl) ?_
    refine .nil (.code (.keep [(14, _), (0, _), (1, _), (5, _)] ⟨rfl, rfl, rfl, rfl, trivial⟩ ?_))
    refine .condD rfl (fun c14 => ?_) (fun c14 => ?_)
    · have hi : i < l.length := by omega
      have him : i < m.length := by omega
      obtain ⟨b0, o0, c0, ue, e, _, hcs, hre⟩ := Sl.at hl (List.getElem?_eq_getElem hi)
      cases e
      obtain ⟨rfl, h1, h2⟩ := tPiece.val hre
      obtain ⟨b1, o1, c1, ue1, e1, _, hcm, hrm⟩ := Sl.at hm (List.getElem?_eq_getElem him)
      cases e1
      obtain ⟨rfl, g1, g2⟩ := tPiece.val hrm
      refine .skip (.code (.seq (.block (.seq (.keep [(0, _), (1, _), (5, _)] ⟨rfl, rfl, rfl, trivial⟩ (.draws (by kernel_rfl) (by kernel_rfl) ?_))))))
      refine .p rfl rfl (.mv rfl) ?_
      refine .p rfl rfl (.mv rfl) ?_
      refine .p rfl rfl (.indexAddr (s := 2) rfl rfl rfl rfl (by omega)) ?_
      refine .p rfl rfl (.loadA (n := 2) rfl rfl rfl rfl rfl hcs) ?_
      refine .p rfl rfl (.mv rfl) ?_
      refine .p rfl rfl (.mv rfl) ?_
      refine .p rfl rfl (.indexAddr (s := 2) rfl rfl rfl rfl (by omega)) ?_
      refine .p rfl rfl (.loadA (n := 2) rfl rfl rfl rfl rfl hcm) ?_
      refine .p rfl rfl (.neA (xs := [_, _]) (ys := [_, _]) rfl rfl (by kernel_rfl) (piece_eq l[i] m[i])) ?_
      refine .nil (.code (.keep [(25, _), (0, _), (1, _), (5, _)] ⟨rfl, rfl, rfl, rfl, trivial⟩ ?_))
      refine .cond rfl (fun c25 => ?_) (fun c25 => ?_)
      · refine .seq (.keep [] trivial (.region ?_))
        refine .p rfl rfl (.as rfl) ?_
        refine .nil (.code ?_)
        refine .ret _ rfl ?_
        exact ⟨by rw [decide_eq_false (fun h => by subst h; simp at c25)]; rfl, .refl _⟩
      · refine .skip (.blk (.code (.keep [(0, _), (1, _), (5, _)] ⟨rfl, rfl, rfl, trivial⟩ (.region ?_))))
        refine .p rfl rfl (.mv rfl) ?_
        refine .p rfl rfl (.add rfl rfl (by omega)) ?_
        refine .p rfl rfl (.as rfl) ?_
        refine .nil ?_
        exact (again (i + 1) ⟨by show i + 1 ≤ _; omega, by show l.take (i + 1) = m.take (i + 1); rw [List.take_succ_eq_append_getElem hi, List.take_succ_eq_append_getElem him, htk, show l[i] = m[i] by simpa using c25]⟩ (by show _ - (i + 1) < _ - i; omega)).of ⟨rfl, rfl, rfl, trivial⟩
    · refine .exit rfl (.code (.seq (.keep [] trivial (.region ?_))))
      refine .p rfl rfl (.as rfl) ?_
      refine .nil (.code ?_)
      refine .ret _ rfl ?_
      obtain rfl : i = l.length := by omega
      exact ⟨by rw [decide_eq_true (by rw [List.take_length, hlen, List.take_length] at htk; exact htk)]; rfl, .refl _⟩
theorem two_fn {w : World} : Fn Try.prog 25 [] w (fun r w2 => (Sl tPiece).rep All w2 r twoP ∧ Ext (fun _ => False) w w2) := by
  refine Fn.enter (fun w => Try.call25 _ w) Try.func25 rfl ?_
  refine .seq (.region ?_)
  refine .p rfl rfl (.as rfl) ?_
  refine .nil (.code (.seq (.keep [] trivial (.region ?_))))
  refine .p rfl rfl (.build (cs := [i64 3, i64 2]) rfl (fun _ => by kernel_rfl)) ?_
  refine .p rfl rfl (.build (cs := [i64 7, i64 1]) rfl (fun _ => by kernel_rfl)) ?_
  refine .v rfl rfl (.lits rfl rfl (fun _ => by kernel_rfl)) ?_
  rintro _ w3 ⟨rfl, N3⟩
  have R3 : (Sl tPiece).rep All w3 (.slice _ 2 2) [⟨3, 2⟩, ⟨7, 1⟩] := Sl.mk (us := [.agg #[i64 3, i64 2], .agg #[i64 7, i64 1]]) (.cons (tPiece.mk (p := ⟨3, 2⟩) (by decide) (by decide)) (.cons (tPiece.mk (p := ⟨7, 1⟩) (by decide) (by decide)) .nil)) (by have := N3.blk.cells; exact this) trivial N3.blk.lt (by simp) (by simp [Lim]) rfl
  refine .p rfl rfl (.as rfl) ?_
  refine .nil (.code ?_)
  refine .ret _ rfl ?_
  exact ⟨R3, N3.ext⟩
theorem alive_fn {w : World} : Fn Try.prog 9 [] w (fun r w2 => r = .bool true ∧ Ext (fun _ => False) w w2) := by
  refine Fn.enter (fun w => Try.call9 _ w) Try.func9 rfl ?_
  refine .seq (.region ?_)
  refine .p rfl rfl (.as rfl) ?_
  refine .nil (.code (.seq (.keep [] trivial (.region ?_))))
  refine .call (first := []) (captured := []) rfl rfl rfl rfl (two_fn) ?_
  rintro r4 w4 ⟨R4, X4⟩
  refine .call (first := []) (captured := []) rfl rfl rfl rfl (Free_fn (first := 2) (count := 10) R4) ?_
  rintro _ w5 ⟨v5, rfl, O5, X5⟩
  rw [alive_l] at O5
  rw [alive_e]
  have R5 := OwnO.rep O5 (R := All) (fun _ _ _ => trivial) (fun _ h _ => h.elim)
  refine .p rfl rfl (.mv rfl) ?_
  refine .p rfl rfl (.extract rfl rfl) ?_
  refine .p rfl rfl (.extract rfl rfl) ?_
  refine .p rfl rfl (.as rfl) ?_
  refine .p rfl rfl (.as rfl) ?_
  refine .nil (.code (.seq (.keep [(2, _), (1, _)] ⟨rfl, rfl, trivial⟩ (.region ?_))))
  refine .p rfl rfl (.mv rfl) ?_
  refine .p rfl rfl (.yes (.eq rfl rfl) (rfl)) ?_
  refine .p rfl rfl (.mv rfl) ?_
  refine .p rfl rfl (.mv rfl) ?_
  refine .p rfl rfl (.build (cs := [i64 2, i64 1]) rfl (fun _ => by kernel_rfl)) ?_
  refine .p rfl rfl (.build (cs := [i64 5, i64 2]) rfl (fun _ => by kernel_rfl)) ?_
  refine .p rfl rfl (.build (cs := [i64 8, i64 2]) rfl (fun _ => by kernel_rfl)) ?_
  refine .v rfl rfl (.lits rfl rfl (fun _ => by kernel_rfl)) ?_
  rintro _ w15 ⟨rfl, N15⟩
  have R15 : (Sl tPiece).rep All w15 (.slice _ 3 3) [⟨2, 1⟩, ⟨5, 2⟩, ⟨8, 2⟩] := Sl.mk (us := [.agg #[i64 2, i64 1], .agg #[i64 5, i64 2], .agg #[i64 8, i64 2]]) (.cons (tPiece.mk (p := ⟨2, 1⟩) (by decide) (by decide)) (.cons (tPiece.mk (p := ⟨5, 2⟩) (by decide) (by decide)) (.cons (tPiece.mk (p := ⟨8, 2⟩) (by decide) (by decide)) .nil))) (by have := N15.blk.cells; exact this) trivial N15.blk.lt (by simp) (by simp [Lim]) rfl
  refine .call (first := []) (captured := []) rfl rfl rfl rfl (same_fn ((Sl tPiece).ext0 R5 N15.ext) R15) ?_
  rintro _ w16 ⟨rfl, X16⟩
  refine .p rfl rfl (.pickT rfl rfl) ?_
  refine .p rfl rfl (.as rfl) ?_
  refine .nil (.code ?_)
  refine .ret _ rfl ?_
  exact ⟨rfl, (X4.trans X5).trans (N15.ext.trans X16)⟩
theorem marks_fn {w : World} {v : Value} {l : List Piece} {b n cap : Nat} {f : Nat → Int} (h : (Sl tPiece).rep (fun k => k ≠ b) w v l) (hB : Blk w b 3 (rowM n f)) (hok : ∀ p ∈ l, 0 ≤ p.fr ∧ 0 ≤ p.ct ∧ p.fr + p.ct ≤ n) (hf : ∀ k, 0 ≤ f k ∧ f k ≤ 10000) (hl : l.length ≤ 5000) (hn : n ≤ 5000) : Fn Try.prog 11 [v, .slice (some ⟨b, 0, none⟩) n cap] w (fun r w2 => r = .bool true ∧ Blk w2 b 3 (rowM n (fun k => f k + cnt l k)) ∧ Ext (· = b) w w2) := by
  obtain ⟨av, cv, rfl, hcv⟩ := Sl.val h
  refine Fn.enter (fun w => Try.call11 _ w) Try.func11 rfl ?_
  refine .seq (.region ?_)
  refine .p rfl rfl (.as rfl) ?_
  refine .nil (.code (.seq (.seq (.keep [(0, _), (1, _)] ⟨rfl, rfl, trivial⟩ (.region ?_)))))
  refine .p rfl rfl (.as rfl) ?_
  refine .nil (.code (.block ?_))
  refine .loop (S := Nat × World) (fun s => [(0, .slice av l.length cv), (1, .slice (some ⟨b, 0, none⟩) n cap), (5, i64 s.1)]) (fun s => s.2) (fun s => s.1 ≤ l.length ∧ Blk s.2 b 3 (rowM n (fun k => f k + cnt (l.take s.1) k)) ∧ Ext (· = b) w s.2) (fun s => l.length - s.1) (0, w) ⟨rfl, rfl, rfl, trivial⟩ rfl ⟨Nat.zero_le _, by rw [show rowM n (fun k => f k + cnt (l.take 0) k) = rowM n f from rowM_congr (fun k _ => by simp [cnt])]; exact hB, .refl _⟩ ?_
  rintro ⟨i, wi⟩ J ⟨hi', B4, X4⟩ again
  simp only at hi' B4 X4
  change G _ [(0, .slice av l.length cv), (1, .slice (some ⟨b, 0, none⟩) n cap), (5, i64 i)] _ _ wi
  refine .seq (.seq (.region ?_))
  refine .p rfl rfl (.mv rfl) ?_
  refine .p rfl rfl (.mv rfl) ?_
  refine .p rfl rfl (.len rfl rfl) ?_
  refine .p rfl rfl (.lt rfl rfl) ?_
  refine .nil (.code (.keep [(11, _), (0, _), (1, _), (5, _)] ⟨rfl, rfl, rfl, rfl, trivial⟩ ?_))
  refine .condD rfl (fun c11 => ?_) (fun c11 => ?_)
  · have hi : i < l.length := by omega
    obtain ⟨b1, o1, q1, ue, e, hb1, hcs, hre⟩ := Sl.at h (List.getElem?_eq_getElem hi)
    cases e
    obtain ⟨rfl, hr1, hr2⟩ := tPiece.val hre
    obtain ⟨hk1, hk2, hk3⟩ := hok l[i] (List.getElem_mem hi)
    refine .skip (.code (.seq (.block (.seq (.keep [(0, _), (1, _), (5, _)] ⟨rfl, rfl, rfl, trivial⟩ (.region ?_))))))
    refine .p rfl rfl (.as rfl) ?_
    refine .nil (.code (.block ?_))
    refine .loop (S := Nat × World) (fun s => [(0, .slice (some ⟨b1, o1, none⟩) l.length cv), (1, .slice (some ⟨b, 0, none⟩) n cap), (5, i64 (i : Nat)), (6, i64 s.1)]) (fun s => s.2) (fun s => s.1 ≤ l[i].ct.toNat ∧ Blk s.2 b 3 (rowM n (fun k => f k + cnt (l.take i) k + inP ⟨l[i].fr, (s.1 : Int)⟩ k)) ∧ Ext (· = b) w s.2) (fun s => l[i].ct.toNat - s.1) (0, wi) ⟨rfl, rfl, rfl, rfl, trivial⟩ rfl ⟨Nat.zero_le _, by rw [show rowM n (fun k => f k + cnt (l.take i) k + inP ⟨l[i].fr, ((0 : Nat) : Int)⟩ k) = rowM n (fun k => f k + cnt (l.take i) k) from rowM_congr (fun k _ => by unfold inP; rw [if_neg (by simp only; omega)]; omega)]; exact B4, X4⟩ ?_
    rintro ⟨j, wj⟩ J2 ⟨hj', B5, Y5⟩ again2
    simp only at hj' B5 Y5
    change G _ [(0, .slice (some ⟨b1, o1, none⟩) l.length cv), (1, .slice (some ⟨b, 0, none⟩) n cap), (5, i64 (i : Nat)), (6, i64 j)] _ _ wj
    refine .seq (.seq (.region ?_))
    refine .p rfl rfl (.mv rfl) ?_
    refine .p rfl rfl (.mv rfl) ?_
    refine .p rfl rfl (.mv rfl) ?_
    refine .p rfl rfl (.indexAddr (s := 2) rfl rfl rfl rfl (by omega)) ?_
    refine .p rfl rfl (.fieldAddr rfl rfl rfl rfl) ?_
    refine .p rfl rfl (.load rfl rfl rfl ((hcs.ext Y5 hb1) 1 _ rfl)) ?_
    refine .p rfl rfl (.lt rfl rfl) ?_
    refine .nil (.code (.keep [(20, _), (0, _), (1, _), (5, _), (6, _)] ⟨rfl, rfl, rfl, rfl, rfl, trivial⟩ ?_))
    refine .condD rfl (fun c20 => ?_) (fun c20 => ?_)
    · have hj : j < l[i].ct.toNat := by omega
      have eix : (l[i].fr + (j : Int)).toNat = l[i].fr.toNat + j := by omega
      have hlt : l[i].fr.toNat + j < n := by omega
      have hg := rowM_get (fun k => f k + cnt (l.take i) k + inP ⟨l[i].fr, (j : Int)⟩ k) hlt
      have hbf := hf (l[i].fr.toNat + j)
      have hbc := cnt_bd (l.take i) (l[i].fr.toNat + j)
      rw [List.length_take] at hbc
      have hbi := inP_bd ⟨l[i].fr, (j : Int)⟩ (l[i].fr.toNat + j)
      refine .skip (.code (.seq (.block (.seq (.keep [(0, _), (1, _), (5, _), (6, _)] ⟨rfl, rfl, rfl, rfl, trivial⟩ (.region ?_))))))
      refine .p rfl rfl (.mv rfl) ?_
      refine .p rfl rfl (.mv rfl) ?_
      refine .p rfl rfl (.indexAddr (s := 2) rfl rfl rfl rfl (by omega)) ?_
      refine .p rfl rfl (.fieldAddr rfl rfl rfl rfl) ?_
      refine .p rfl rfl (.load rfl rfl rfl ((hcs.ext Y5 hb1) 0 _ rfl)) ?_
      refine .p rfl rfl (.mv rfl) ?_
      refine .p rfl rfl (.add rfl rfl (by omega)) ?_
      refine .p rfl rfl (.as rfl) ?_
      refine .nil (.code (.seq (.seq (.keep [(7, _), (0, _), (1, _), (5, _), (6, _)] ⟨rfl, rfl, rfl, rfl, rfl, trivial⟩ (.region ?_)))))
      refine .p rfl rfl (.mv rfl) ?_
      refine .p rfl rfl (.lt rfl rfl) ?_
      refine .p rfl rfl (.mv rfl) ?_
      refine .caseD 32 rfl (fun c32 => ?_) (fun c32 => ?_)
      · exact absurd c32 (by omega)
      · refine .p rfl rfl (.mv rfl) ?_
        refine .p rfl rfl (.mv rfl) ?_
        refine .p rfl rfl (.len rfl rfl) ?_
        refine .p rfl rfl (.ge rfl rfl) ?_
        refine .p rfl rfl (.pickF rfl rfl) ?_
        refine .nil (.code (.keep [(37, _), (7, _), (0, _), (1, _), (5, _), (6, _)] ⟨rfl, rfl, rfl, rfl, rfl, rfl, trivial⟩ ?_))
        refine .condD rfl (fun c37 => ?_) (fun c37 => ?_)
        · exact absurd c37 (by omega)
        · refine .skip (.code (.keep [(7, _), (0, _), (1, _), (5, _), (6, _)] ⟨rfl, rfl, rfl, rfl, rfl, trivial⟩ (.region ?_)))
          refine .p rfl rfl (.mv rfl) ?_
          refine .p rfl rfl (.mv rfl) ?_
          refine .p rfl rfl (.indexAddr1 rfl rfl rfl rfl (by omega)) ?_
          refine .p rfl rfl (.load rfl rfl rfl (by rw [eix, Nat.zero_add]; exact (B5.cell _).trans hg)) ?_
          refine .p rfl rfl (.add rfl rfl (by omega)) ?_
          refine .p rfl rfl (.indexAddr1 rfl rfl rfl rfl (by omega)) ?_
          refine .s rfl (.store rfl rfl rfl rfl rfl B5 (by rw [eix, rowM_len]; omega)) ?_
          intro w8 P8
          have B8 := P8.blk
          rw [eix, Nat.zero_add] at B8
          refine .nil (.blk (.code (.keep [(0, _), (1, _), (5, _), (6, _)] ⟨rfl, rfl, rfl, rfl, trivial⟩ (.region ?_))))
          refine .p rfl rfl (.mv rfl) ?_
          refine .p rfl rfl (.add rfl rfl (by omega)) ?_
          refine .p rfl rfl (.as rfl) ?_
          refine .nil ?_
          refine (again2 (j + 1, w8) ⟨by show j + 1 ≤ _; omega, ?_, Y5.trans P8.ext⟩ (by show _ - (j + 1) < _ - j; omega)).of ⟨rfl, rfl, rfl, rfl, trivial⟩
          have e : (rowM n (fun k => f k + cnt (l.take i) k + inP ⟨l[i].fr, (j : Int)⟩ k)).set (l[i].fr.toNat + j) (i64 (f (l[i].fr.toNat + j) + cnt (l.take i) (l[i].fr.toNat + j) + inP ⟨l[i].fr, (j : Int)⟩ (l[i].fr.toNat + j) + 1)) = rowM n (fun k => f k + cnt (l.take i) k + inP ⟨l[i].fr, ((j + 1 : Nat) : Int)⟩ k) := by
            rw [rowM_set hlt]
            refine rowM_congr (fun k _ => ?_)
            by_cases hk : k = l[i].fr.toNat + j
            · subst hk
              rw [if_pos rfl]
              unfold inP
              rw [if_neg (by simp only; omega), if_pos (by simp only; omega)]; omega
            · rw [if_neg hk]
              congr 1
              unfold inP
              by_cases h1 : l[i].fr ≤ (k : Int) ∧ (k : Int) < l[i].fr + (j : Int)
              · rw [if_pos h1, if_pos (by simp only; omega)]
              · rw [if_neg h1, if_neg (by simp only; omega)]
          exact e ▸ B8
    · obtain rfl : j = l[i].ct.toNat := by omega
      refine .exit rfl (.blk (.code (.keep [(0, _), (1, _), (5, _)] ⟨rfl, rfl, rfl, trivial⟩ (.region ?_))))
      refine .p rfl rfl (.mv rfl) ?_
      refine .p rfl rfl (.add rfl rfl (by omega)) ?_
      refine .p rfl rfl (.as rfl) ?_
      refine .nil ?_
      exact (again (i + 1, wj) ⟨by show i + 1 ≤ _; omega, by rw [show rowM n (fun k => f k + cnt (l.take (i + 1)) k) = rowM n (fun k => f k + cnt (l.take i) k + inP ⟨l[i].fr, ((l[i].ct.toNat : Nat) : Int)⟩ k) from rowM_congr (fun k _ => by rw [cnt_take hi, Int.toNat_of_nonneg hk2]; show _ = f k + cnt (l.take i) k + inP l[i] k; omega)]; exact B5, Y5⟩ (by show _ - (i + 1) < _ - i; omega)).of ⟨rfl, rfl, rfl, trivial⟩
  · obtain rfl : i = l.length := by omega
    rw [List.take_length] at B4
    refine .exit rfl (.code (.seq (.keep [] trivial (.region ?_))))
    refine .p rfl rfl (.as rfl) ?_
    refine .nil (.code ?_)
    refine .ret _ rfl ?_
    exact ⟨rfl, B4, X4⟩
end Go.Proofs.Ytagjfplipknlkaa
