
/-
  Package docketref03: runs; free sectors told and taken; counted, put together, told one by one.
-/
import Derived.Test.YtagjfplipknlkaaRef03
set_option linter.unusedVariables false
set_option linter.unusedSimpArgs false
set_option maxRecDepth 20000
namespace Go.Proofs.Ytagjfplipknlkaa
open Go room
theorem runs_fn {w : World} {b n cap a : Nat} {f g : Nat → Bool} {want : Bool} {m : Int} (hB : Blk w b 4 (rowB n f)) (hg : ∀ k, g k = (f k == want)) (ha : a ≤ n) (hn : n ≤ 4096) (hm : 0 ≤ m ∧ m ≤ 4096) : Fn Try.prog 29 [.slice (some ⟨b, 0, none⟩) n cap, i64 (a : Int), .bool want, i64 m] w (fun r w2 => OwnO tPiece (fun _ => False) 30 w2 r (takeF (runsTo g a (n - a)) m) (fun k => w.heap.size ≤ k) ∧ Ext (fun _ => False) w w2) := by
  have hbl := hB.lt
  refine Fn.enter (fun w => Try.call29 _ w) Try.func29 rfl ?_
  refine .seq (.region ?_)
  refine .p rfl rfl (.as rfl) ?_
  refine .nil (.code (.seq (.keep [(0, _), (1, _), (2, _), (3, _)] ⟨rfl, rfl, rfl, rfl, trivial⟩ (.region ?_))))
  refine .p rfl rfl (.as rfl) ?_
  refine .nil (.code (.seq (.seq (.region ?_))))
  refine .p rfl rfl (.mv rfl) ?_
  refine .p rfl rfl (.as rfl) ?_
  refine .nil (.code (.block (.keep [(10, _), (9, _), (0, _), (2, _), (3, _)] ⟨rfl, rfl, rfl, rfl, rfl, trivial⟩ ?_)))
  refine .loop (S := Nat × World × Value × List Piece × Int) (fun s => [(0, .slice (some ⟨b, 0, none⟩) n cap), (2, .bool want), (3, i64 s.2.2.2.2), (9, s.2.2.1), (10, i64 ((a + s.1 : Nat) : Int))]) (fun s => s.2.1) (fun s => s.1 ≤ n - a ∧ OwnO tPiece (fun _ => False) 30 s.2.1 s.2.2.1 s.2.2.2.1 (fun k => w.heap.size ≤ k) ∧ Ext (fun k => w.heap.size ≤ k) w s.2.1 ∧ s.2.2.2.1 = runsTo g a s.1 ∧ 0 ≤ s.2.2.2.2 ∧ s.2.2.2.2 = m - totalF s.2.2.2.1) (fun s => n - a - s.1) (0, w, .slice none 0 0, [], m) ⟨rfl, rfl, rfl, rfl, rfl, trivial⟩ rfl ⟨Nat.zero_le _, OwnO.nil, .refl _, rfl, hm.1, by show m = m - 0; omega⟩ ?_
  rintro ⟨j, wi, vo, out, left⟩ J ⟨hj', hO, hX, hout, hl0, hle⟩ again
  simp only at hj' hO hX hout hl0 hle
  have hpos := (runs_ok g a j).pos
  have hlen := runs_length g a j
  have htot := total_in (f := g) (a := a) (n := j) (N := 4096) (by omega)
  rw [← hout] at hpos hlen htot
  have hnn := total_pos (l := out) (fun p hp => (hpos p hp).1)
  change G _ [(0, .slice (some ⟨b, 0, none⟩) n cap), (2, .bool want), (3, i64 left), (9, vo), (10, i64 ((a + j : Nat) : Int))] _ _ wi
  refine .seq (.seq (.region ?_))
  refine .p rfl rfl (.mv rfl) ?_
  refine .p rfl rfl (.mv rfl) ?_
  refine .p rfl rfl (.len rfl rfl) ?_
  refine .p rfl rfl (.lt rfl rfl) ?_
  refine .p rfl rfl (.mv rfl) ?_
  refine .caseD 17 rfl (fun c17 => ?_) (fun c17 => ?_)
  · have hjn : a + j < n := by omega
    refine .p rfl rfl (.mv rfl) ?_
    refine .p rfl rfl (.gt rfl rfl) ?_
    refine .p rfl rfl (.pickT rfl rfl) ?_
    refine .nil (.code (.keep [(20, _), (0, _), (2, _), (3, _), (9, _), (10, _)] ⟨rfl, rfl, rfl, rfl, rfl, rfl, trivial⟩ ?_))
    refine .condD rfl (fun c20 => ?_) (fun c20 => ?_)
    · refine .skip (.code (.seq (.block (.seq (.seq (.keep [(0, _), (2, _), (3, _), (9, _), (10, _)] ⟨rfl, rfl, rfl, rfl, rfl, trivial⟩ (.region ?_)))))))
      refine .p rfl rfl (.mv rfl) ?_
      refine .p rfl rfl (.mv rfl) ?_
      refine .p rfl rfl (.indexAddr1 rfl rfl rfl rfl (by omega)) ?_
      refine .p rfl rfl (.load rfl rfl rfl (by rw [Int.toNat_natCast, Nat.zero_add]; exact ((hB.ext hX (fun h => by have h : w.heap.size ≤ b := h; omega)).cell _).trans (rowB_get f hjn))) ?_
      refine .p rfl rfl (.mv rfl) ?_
      refine .p rfl rfl (.neB rfl rfl rfl) ?_
      refine .nil (.code (.keep [(28, _), (0, _), (2, _), (3, _), (9, _), (10, _)] ⟨rfl, rfl, rfl, rfl, rfl, rfl, trivial⟩ ?_))
      refine .cond rfl (fun c28 => ?_) (fun c28 => ?_)
      · have hgj : ¬ g (a + j) = true := by rw [hg]; simpa using c28
        refine .exit rfl (.code (.keep [(0, _), (2, _), (3, _), (9, _), (10, _)] ⟨rfl, rfl, rfl, rfl, rfl, trivial⟩ (.region ?_)))
        refine .p rfl rfl (.mv rfl) ?_
        refine .p rfl rfl (.add rfl rfl (by omega)) ?_
        refine .p rfl rfl (.as rfl) ?_
        refine .nil ?_
        refine (again (j + 1, wi, vo, out, left) ⟨by show j + 1 ≤ _; omega, hO, hX, ?_, by show 0 ≤ left; omega, ?_⟩ (by show _ - (j + 1) < _ - j; omega)).of ⟨rfl, rfl, rfl, rfl, rfl, trivial⟩
        · show out = runsTo g a (j + 1)
          rw [hout, runsTo, if_neg hgj]
        · show left = m - totalF (out)
          exact hle
      · have hgj : g (a + j) = true := by rw [hg]; simpa using c28
        obtain ⟨av, cv, rfl, hcv⟩ := OwnO.val hO
        have zi := hX.size
        refine .skip (.code (.seq (.keep [(0, _), (2, _), (3, _), (9, _), (10, _)] ⟨rfl, rfl, rfl, rfl, rfl, trivial⟩ (.region ?_))))
        refine .p rfl rfl (.mv rfl) ?_
        refine .p rfl rfl (.sub rfl rfl (by omega)) ?_
        refine .p rfl rfl (.as rfl) ?_
        refine .nil (.code (.seq (.keep [(3, _), (0, _), (2, _), (9, _), (10, _)] ⟨rfl, rfl, rfl, rfl, rfl, trivial⟩ (.region ?_))))
        refine .p rfl rfl (.mv rfl) ?_
        refine .p rfl rfl (.len rfl rfl) ?_
        refine .p rfl rfl (.as rfl) ?_
        refine .nil (.code (.seq (.keep [(11, _), (3, _), (0, _), (2, _), (9, _), (10, _)] ⟨rfl, rfl, rfl, rfl, rfl, rfl, trivial⟩ (.draws (by kernel_rfl) (by kernel_rfl) ?_))))
        refine .p rfl rfl (.mv rfl) ?_
        refine .p rfl rfl (.gt rfl rfl) ?_
        refine .p rfl rfl (.mv rfl) ?_
        refine .caseD 35 rfl (fun c35 => ?_) (fun c35 => ?_)
        · rcases List.eq_nil_or_concat out with hnil | ⟨o, p, hcc⟩
          · rw [hnil] at c35; exact absurd c35 (by decide)
          rw [List.concat_eq_append] at hcc
          have hol : out.length = o.length + 1 := by rw [hcc]; simp
          have hO2 := hO
          rw [hcc] at hO2
          obtain ⟨b2, cap2, cs, hv, hbB, hblt, Bo, h5, h6, h7, h8, hup⟩ := OwnO_last hO2
          have hps := hpos p (by rw [hcc]; simp)
          injection hv with e1 e2 e3
          subst e1
          have eix : ((out.length : Int) - 1).toNat = o.length := by omega
          refine .p rfl rfl (.mv rfl) ?_
          refine .p rfl rfl (.mv rfl) ?_
          refine .p rfl rfl (.sub rfl rfl (by omega)) ?_
          refine .p rfl rfl (.indexAddr (s := 2) rfl rfl rfl rfl (by omega)) ?_
          refine .p rfl rfl (.fieldAddr rfl rfl rfl rfl) ?_
          refine .p rfl rfl (.load rfl rfl rfl (by rw [eix]; show World.cell? _ { block := b2, off := 0 + o.length * 2 + 0 } = _; rw [show 0 + o.length * 2 + 0 = 2 * o.length by omega]; exact (Bo.cell _).trans h5)) ?_
          refine .p rfl rfl (.mv rfl) ?_
          refine .p rfl rfl (.mv rfl) ?_
          refine .p rfl rfl (.sub rfl rfl (by omega)) ?_
          refine .p rfl rfl (.indexAddr (s := 2) rfl rfl rfl rfl (by omega)) ?_
          refine .p rfl rfl (.fieldAddr rfl rfl rfl rfl) ?_
          refine .p rfl rfl (.load rfl rfl rfl (by rw [eix]; show World.cell? _ { block := b2, off := 0 + o.length * 2 + 1 } = _; rw [show 0 + o.length * 2 + 1 = 2 * o.length + 1 by omega]; exact (Bo.cell _).trans h6)) ?_
          refine .p rfl rfl (.add rfl rfl (by omega)) ?_
          refine .p rfl rfl (.mv rfl) ?_
          refine .p rfl rfl (.eq rfl rfl) ?_
          refine .p rfl rfl (.pickT rfl rfl) ?_
          refine .nil (.code (.keep [(51, _), (11, _), (3, _), (0, _), (2, _), (9, _), (10, _)] ⟨rfl, rfl, rfl, rfl, rfl, rfl, rfl, trivial⟩ ?_))
          refine .condD rfl (fun c51 => ?_) (fun c51 => ?_)
          · refine .keep [(11, _), (3, _), (0, _), (2, _), (9, _), (10, _)] ⟨rfl, rfl, rfl, rfl, rfl, rfl, trivial⟩ (.region ?_)
            refine .p rfl rfl (.mv rfl) ?_
            refine .p rfl rfl (.mv rfl) ?_
            refine .p rfl rfl (.sub rfl rfl (by omega)) ?_
            refine .p rfl rfl (.indexAddr (s := 2) rfl rfl rfl rfl (by omega)) ?_
            refine .p rfl rfl (.fieldAddr rfl rfl rfl rfl) ?_
            refine .p rfl rfl (.load rfl rfl rfl (by rw [eix]; show World.cell? _ { block := b2, off := 0 + o.length * 2 + 1 } = _; rw [show 0 + o.length * 2 + 1 = 2 * o.length + 1 by omega]; exact (Bo.cell _).trans h6)) ?_
            refine .p rfl rfl (.add rfl rfl (by omega)) ?_
            refine .p rfl rfl (.indexAddr (s := 2) rfl rfl rfl rfl (by omega)) ?_
            refine .p rfl rfl (.fieldAddr rfl rfl rfl rfl) ?_
            refine .s rfl (.store rfl rfl rfl rfl rfl Bo (by show 0 + (((out.length : Nat) : Int) - 1).toNat * 2 + 1 < cs.length; rw [eix]; omega)) ?_
            intro w8 P8
            have B8 : Blk w8 b2 30 (cs.set (0 + (((out.length : Nat) : Int) - 1).toNat * 2 + 1) (i64 (p.ct + 1))) := P8.blk
            have hX := hX.trans (P8.ext.mono (fun k _ h => by have h : k = b2 := h; show w.heap.size ≤ k; rw [h]; exact hbB))
            rw [eix, show 0 + o.length * 2 + 1 = 2 * o.length + 1 by omega] at B8
            refine .nil (.blk (.code (.keep [(3, _), (0, _), (2, _), (9, _), (10, _)] ⟨rfl, rfl, rfl, rfl, rfl, trivial⟩ (.region ?_))))
            refine .p rfl rfl (.mv rfl) ?_
            refine .p rfl rfl (.add rfl rfl (by omega)) ?_
            refine .p rfl rfl (.as rfl) ?_
            refine .nil ?_
            refine (again (j + 1, w8, .slice (some ⟨b2, 0, none⟩) out.length cv, o ++ [⟨p.fr, p.ct + 1⟩], left - 1) ⟨by show j + 1 ≤ _; omega, by show OwnO tPiece _ _ w8 (.slice (some ⟨b2, 0, none⟩) out.length cv) (o ++ [_]) _; rw [hcc]; exact hup w8 (p.ct + 1) (by omega) B8, hX, ?_, by show 0 ≤ left - 1; omega, ?_⟩ (by show _ - (j + 1) < _ - j; omega)).of ⟨rfl, rfl, rfl, rfl, rfl, trivial⟩
            · show o ++ [⟨p.fr, p.ct + 1⟩] = runsTo g a (j + 1)
              rw [runsTo, if_pos hgj, ← hout, hcc, push_snoc, if_pos (by omega)]
            · show left - 1 = m - totalF (o ++ [⟨p.fr, p.ct + 1⟩])
              rw [hle, hcc, total_append, total_append]; simp only [totalF]; omega
          · refine .keep [(3, _), (0, _), (2, _), (9, _), (10, _)] ⟨rfl, rfl, rfl, rfl, rfl, trivial⟩ (.region ?_)
            refine .p rfl rfl (.mv rfl) ?_
            refine .p rfl rfl (.mv rfl) ?_
            refine .p rfl rfl (.build (cs := [i64 ((a + j : Nat) : Int), i64 1]) rfl (fun _ => by kernel_rfl)) ?_
            refine .v rfl rfl (.lits rfl rfl (fun _ => by kernel_rfl)) ?_
            rintro _ w64 ⟨rfl, N64⟩
            refine .v rfl rfl (.appendLo (t := tPiece) (xs := out) (ys := [⟨((a + j : Nat) : Int), 1⟩]) (Q := fun _ => False) (B := fun k => w.heap.size ≤ k) (eb := 16) rfl (OwnO.ext0 hO N64.ext) (fun k hk => by have := N64.size; show w.heap.size ≤ k; omega) rfl (.inr (New.holds (t := tPiece) (xs := [⟨((a + j : Nat) : Int), 1⟩]) N64 (.cons (tPiece.mk (P := fun _ => False) (p := ⟨((a + j : Nat) : Int), 1⟩) (by show -9223372036854775808 ≤ ((a + j : Nat) : Int) ∧ ((a + j : Nat) : Int) ≤ 9223372036854775807; omega) (by show (-9223372036854775808 : Int) ≤ 1 ∧ (1 : Int) ≤ 9223372036854775807; decide)) .nil) rfl)) rfl rfl rfl rfl rfl rfl rfl (by simp; omega) (by simp [Lim]; omega) (fun _ h _ => h.elim)) ?_
            rintro r65 w65 ⟨O65, X65⟩
            have hX := (hX.trans (N64.ext.mono (fun _ _ h => h.elim))).trans X65
            refine .p rfl rfl (.as rfl) ?_
            refine .nil (.blk (.code (.keep [(9, _), (3, _), (0, _), (2, _), (10, _)] ⟨rfl, rfl, rfl, rfl, rfl, trivial⟩ (.region ?_))))
            refine .p rfl rfl (.mv rfl) ?_
            refine .p rfl rfl (.add rfl rfl (by omega)) ?_
            refine .p rfl rfl (.as rfl) ?_
            refine .nil ?_
            refine (again (j + 1, w65, _, out ++ [⟨((a + j : Nat) : Int), 1⟩], left - 1) ⟨by show j + 1 ≤ _; omega, O65, hX, ?_, by show 0 ≤ left - 1; omega, ?_⟩ (by show _ - (j + 1) < _ - j; omega)).of ⟨rfl, rfl, rfl, rfl, rfl, trivial⟩
            · show out ++ [⟨((a + j : Nat) : Int), 1⟩] = runsTo g a (j + 1)
              rw [runsTo, if_pos hgj, ← hout, hcc, push_snoc, if_neg (by omega)]
            · show left - 1 = m - totalF (out ++ [⟨((a + j : Nat) : Int), 1⟩])
              rw [hle, total_append]; simp only [totalF]; omega
        · have hcc : out = [] := List.length_eq_zero_iff.1 (by omega)
          refine .skip rfl rfl ?_
          refine .skip rfl rfl ?_
          refine .skip rfl rfl ?_
          refine .skip rfl rfl ?_
          refine .skip rfl rfl ?_
          refine .skip rfl rfl ?_
          refine .skip rfl rfl ?_
          refine .skip rfl rfl ?_
          refine .skip rfl rfl ?_
          refine .skip rfl rfl ?_
          refine .skip rfl rfl ?_
          refine .skip rfl rfl ?_
          refine .skip rfl rfl ?_
          refine .skip rfl rfl ?_
          refine .skip rfl rfl ?_
          refine .p rfl rfl (.pickF rfl rfl) ?_
          refine .nil (.code (.keep [(51, _), (11, _), (3, _), (0, _), (2, _), (9, _), (10, _)] ⟨rfl, rfl, rfl, rfl, rfl, rfl, rfl, trivial⟩ (.condF rfl (.keep [(3, _), (0, _), (2, _), (9, _), (10, _)] ⟨rfl, rfl, rfl, rfl, rfl, trivial⟩ (.region ?_)))))
          refine .p rfl rfl (.mv rfl) ?_
          refine .p rfl rfl (.mv rfl) ?_
          refine .p rfl rfl (.build (cs := [i64 ((a + j : Nat) : Int), i64 1]) rfl (fun _ => by kernel_rfl)) ?_
          refine .v rfl rfl (.lits rfl rfl (fun _ => by kernel_rfl)) ?_
          rintro _ w64 ⟨rfl, N64⟩
          refine .v rfl rfl (.appendLo (t := tPiece) (xs := out) (ys := [⟨((a + j : Nat) : Int), 1⟩]) (Q := fun _ => False) (B := fun k => w.heap.size ≤ k) (eb := 16) rfl (OwnO.ext0 hO N64.ext) (fun k hk => by have := N64.size; show w.heap.size ≤ k; omega) rfl (.inr (New.holds (t := tPiece) (xs := [⟨((a + j : Nat) : Int), 1⟩]) N64 (.cons (tPiece.mk (P := fun _ => False) (p := ⟨((a + j : Nat) : Int), 1⟩) (by show -9223372036854775808 ≤ ((a + j : Nat) : Int) ∧ ((a + j : Nat) : Int) ≤ 9223372036854775807; omega) (by show (-9223372036854775808 : Int) ≤ 1 ∧ (1 : Int) ≤ 9223372036854775807; decide)) .nil) rfl)) rfl rfl rfl rfl rfl rfl rfl (by simp; omega) (by simp [Lim]; omega) (fun _ h _ => h.elim)) ?_
          rintro r65 w65 ⟨O65, X65⟩
          have hX := (hX.trans (N64.ext.mono (fun _ _ h => h.elim))).trans X65
          refine .p rfl rfl (.as rfl) ?_
          refine .nil (.blk (.code (.keep [(9, _), (3, _), (0, _), (2, _), (10, _)] ⟨rfl, rfl, rfl, rfl, rfl, trivial⟩ (.region ?_))))
          refine .p rfl rfl (.mv rfl) ?_
          refine .p rfl rfl (.add rfl rfl (by omega)) ?_
          refine .p rfl rfl (.as rfl) ?_
          refine .nil ?_
          refine (again (j + 1, w65, _, out ++ [⟨((a + j : Nat) : Int), 1⟩], left - 1) ⟨by show j + 1 ≤ _; omega, O65, hX, ?_, by show 0 ≤ left - 1; omega, ?_⟩ (by show _ - (j + 1) < _ - j; omega)).of ⟨rfl, rfl, rfl, rfl, rfl, trivial⟩
          · show out ++ [⟨((a + j : Nat) : Int), 1⟩] = runsTo g a (j + 1)
            rw [runsTo, if_pos hgj, ← hout, hcc]; rfl
          · show left - 1 = m - totalF (out ++ [⟨((a + j : Nat) : Int), 1⟩])
            rw [hle, total_append]; simp only [totalF]; omega
    · refine .exit rfl (.code (.seq (.keep [(9, _)] ⟨rfl, trivial⟩ (.region ?_))))
      refine .p rfl rfl (.mv rfl) ?_
      refine .p rfl rfl (.as rfl) ?_
      refine .nil (.code ?_)
      refine .ret _ rfl ?_
      have e : takeF (runsTo g a (n - a)) m = out := by rw [hout]; exact take_upto hm.1 (by rw [← hout]; omega) hj'
      rw [e]
      exact ⟨hO, (Ext.refl _).then hX (fun k hk _ => hk)⟩
  · refine .skip rfl rfl ?_
    refine .skip rfl rfl ?_
    refine .p rfl rfl (.pickF rfl rfl) ?_
    refine .nil (.code (.keep [(20, _), (0, _), (2, _), (3, _), (9, _), (10, _)] ⟨rfl, rfl, rfl, rfl, rfl, rfl, trivial⟩ (.condF rfl (.exit rfl (.code (.seq (.keep [(9, _)] ⟨rfl, trivial⟩ (.region ?_))))))))
    refine .p rfl rfl (.mv rfl) ?_
    refine .p rfl rfl (.as rfl) ?_
    refine .nil (.code ?_)
    refine .ret _ rfl ?_
    have e : takeF (runsTo g a (n - a)) m = out := by rw [show n - a = j by omega, ← hout]; exact take_all (fun p hp => (hpos p hp).1) (by omega)
    rw [e]
    exact ⟨hO, (Ext.refl _).then hX (fun k hk _ => hk)⟩
end Go.Proofs.Ytagjfplipknlkaa
