
/-
  Package room: pieces put together.
-/
import Derived.Test.YtagjfplipknlkaaRoom3
import Derived.Test.YtagjfplipknlkaaPElem
set_option linter.unusedVariables false
set_option linter.unusedSimpArgs false
set_option maxRecDepth 20000
namespace Go.Proofs.Ytagjfplipknlkaa
open Go room
namespace room
def joinF (l : List Piece) : List Piece := runsTo (covB l) 0 4096
theorem joinF_eq {l s out : List Piece} {at_ : Nat} (hp : s.Perm l) (W : Wk (covB s) 0 s s.length at_ out) (ha : at_ ≤ 4096) : out = joinF l := by
  have hf : covB s = covB l := by funext k; exact cov_perm hp k
  rw [W.eq]
  unfold joinF
  rw [← hf, show 4096 = (at_ - 0) + (4096 - at_) by omega]
  refine (runs_skip (fun k h1 h2 => ?_)).symm
  rw [Nat.zero_add]
  refine covB_false (fun p hp hh => ?_)
  have := W.ends p (by rw [List.take_length]; exact hp)
  omega
theorem pushM_len (out : List Piece) (p : Piece) : (pushM out p).length ≤ out.length + 1 := by
  rcases List.eq_nil_or_concat out with h | ⟨o, q, h⟩
  · subst h; rw [pushM_nil]; simp
  · rw [List.concat_eq_append] at h
    subst h
    rw [pushM_snoc]
    split <;> simp
theorem joinF_length (l : List Piece) : (joinF l).length ≤ 4096 := runs_length _ _ _
end room
theorem Join_fn {w : World} {v : Value} {l : List Piece} (h : (Sl tPiece).rep All w v l) : Fn Try.prog 14 [v] w (fun r w2 => ∃ v', r = .tuple #[v', i64 (checkR 4096 l)] ∧ OwnO tPiece (fun _ => False) 30 w2 v' (if checkR 4096 l = 0 then joinF l else []) (fun k => w.heap.size ≤ k) ∧ Ext (fun _ => False) w w2) := by
  refine Fn.enter (fun w => Try.call14 _ w) Try.func14 rfl ?_
  refine .seq (.region ?_)
  refine .p rfl rfl (.as rfl) ?_
  refine .p rfl rfl (.as rfl) ?_
  refine .nil (.code (.seq (.keep [(0, _)] ⟨rfl, trivial⟩ (.region ?_))))
  refine .p rfl rfl (.mv rfl) ?_
  refine .call (first := []) (captured := []) rfl rfl rfl rfl (rising_fn h) ?_
  rintro _ w11 ⟨v11, ps, rfl, hs1, hs2, O11, X11⟩
  have R11 := OwnO.rep O11 (R := fun k => k < w11.heap.size) (fun k _ h2 => h2) (fun _ h _ => h.elim)
  obtain ⟨a11, c11, rfl, hc11⟩ := Sl.val R11
  refine .p rfl rfl (.mv rfl) ?_
  refine .p rfl rfl (.extract rfl rfl) ?_
  refine .p rfl rfl (.extract rfl rfl) ?_
  refine .p rfl rfl (.as rfl) ?_
  refine .p rfl rfl (.as rfl) ?_
  refine .nil (.code (.seq (.seq (.keep [(4, _), (0, _)] ⟨rfl, rfl, trivial⟩ (.region ?_)))))
  refine .p rfl rfl (.mv rfl) ?_
  refine .p rfl rfl (.ne rfl rfl) ?_
  refine .nil (.code (.keep [(15, _), (4, _), (0, _)] ⟨rfl, rfl, rfl, trivial⟩ ?_))
  refine .condD rfl (fun c15 => ?_) (fun c15 => ?_)
  · refine .seq (.keep [(4, _)] ⟨rfl, trivial⟩ (.region ?_))
    refine .p rfl rfl (.mv rfl) ?_
    refine .p rfl rfl (.as rfl) ?_
    refine .p rfl rfl (.as rfl) ?_
    refine .nil (.code ?_)
    refine .ret _ rfl ?_
    rw [if_neg c15]
    exact ⟨_, rfl, OwnO.nil, X11⟩
  · have hz : checkR 4096 l = 0 := Decidable.not_not.1 c15
    obtain ⟨hpm, hri⟩ := hs1 hz
    obtain ⟨_, _, hll, hmay⟩ := check_ok hz
    have hpl : ps.length = l.length := hpm.length_eq
    have hqb : ∀ p ∈ ps, 0 ≤ p.fr ∧ 1 ≤ p.ct ∧ p.fr + p.ct ≤ 4096 := fun p hp => by have := hmay.1 p (hpm.mem_iff.1 hp); unfold okP at this; omega
    refine .skip (.code (.seq (.keep [(0, _)] ⟨rfl, trivial⟩ (.region ?_))))
    refine .p rfl rfl (.as rfl) ?_
    refine .nil (.code (.seq (.seq (.region ?_))))
    refine .p rfl rfl (.mv rfl) ?_
    refine .p rfl rfl (.len rfl rfl) ?_
    refine .p rfl rfl (.mv rfl) ?_
    refine .nil (.code (.block (.keep [(19, _), (18, _), (17, _), (5, _)] ⟨rfl, rfl, rfl, rfl, trivial⟩ ?_)))
    refine .loop (S := Nat × World × Value × Nat × List Piece) (fun s => [(5, s.2.2.1), (17, .slice a11 ps.length c11), (18, i64 ps.length), (19, i64 s.1)]) (fun s => s.2.1) (fun s => s.1 ≤ ps.length ∧ OwnO tPiece (fun _ => False) 30 s.2.1 s.2.2.1 s.2.2.2.2 (fun k => w11.heap.size ≤ k) ∧ Ext (fun k => w11.heap.size ≤ k) w11 s.2.1 ∧ Wk (covB ps) 0 ps s.1 s.2.2.2.1 s.2.2.2.2 ∧ (s.2.2.2.1 ≤ 4096 ∧ ∀ h : s.1 < ps.length, (s.2.2.2.1 : Int) ≤ ps[s.1].fr) ∧ s.2.2.2.2.length ≤ s.1) (fun s => ps.length - s.1) (0, w11, .slice none 0 0, 0, []) ⟨rfl, rfl, rfl, rfl, trivial⟩ rfl ⟨Nat.zero_le _, OwnO.nil, .refl _, Wk.begin _ _ _, ⟨by show (0 : Nat) ≤ 4096; decide, fun h => (hqb _ (List.getElem_mem h)).1⟩, Nat.le_refl _⟩ ?_
    rintro ⟨i, wi, vo, at_, out⟩ J ⟨hi', hO, hX, hW, hat, hlen⟩ again
    simp only at hi' hO hX hW hat hlen
    change G _ [(5, vo), (17, .slice a11 ps.length c11), (18, i64 ps.length), (19, i64 i)] _ _ wi
    refine .seq (.region ?_)
    refine .p rfl rfl (.lt rfl rfl) ?_
    refine .nil (.code (.seq ?_))
    refine .condD rfl (fun c20 => ?_) (fun c20 => ?_)
    · have hi : i < ps.length := by omega
      obtain ⟨b1, o1, q1, ue, e, _, hcs, hre⟩ := Sl.at ((Sl tPiece).ext R11 hX (fun k h1 _ h2 => by have h1 : k < w11.heap.size := h1; have h2 : w11.heap.size ≤ k := h2; omega)) (List.getElem?_eq_getElem hi)
      cases e
      obtain ⟨rfl, hr1, hr2⟩ := tPiece.val hre
      obtain ⟨hqi1, hqi2, hqi3⟩ := hqb ps[i] (List.getElem_mem hi)
      have zi := hX.size
      have hW' := hW.join hri (fun p hp => ⟨(hqb p hp).1, (hqb p hp).2.1⟩) hi (hat.2 hi)
      have hpos := (runs_ok (covB ps) 0 (at_ - 0)).pos
      rw [← hW.eq] at hpos
      refine .skip (.code (.seq (.block (.seq (.keep [(5, _), (17, _), (18, _), (19, _)] ⟨rfl, rfl, rfl, rfl, trivial⟩ (.region ?_))))))
      refine .p rfl rfl (.indexAddr (s := 2) rfl rfl rfl rfl (by omega)) ?_
      refine .p rfl rfl (.loadA (n := 2) rfl rfl rfl rfl rfl hcs) ?_
      refine .v rfl rfl (.alloc rfl rfl) ?_
      rintro _ w7a ⟨rfl, N7⟩
      refine .s rfl (.storeAll (n := 2) rfl rfl rfl rfl rfl N7.blk rfl) ?_
      intro w7 P7
      have X7 := N7.ext.then P7.ext (by rintro k rfl _; exact Nat.le_refl _)
      have B7 : Blk w7 wi.heap.size 30 [i64 ps[i].fr, i64 ps[i].ct] := P7.blk
      have hO := OwnO.ext0 (OwnO.mono (B' := fun k => w11.heap.size ≤ k ∧ k ≠ wi.heap.size) hO (fun _ h _ => h) (fun k h1 h2 => ⟨h1, Nat.ne_of_lt h2⟩)) X7
      have hX := hX.trans (X7.mono (fun _ _ h => h.elim))
      have zz := X7.size
      have hp0 : ¬ w7.heap.size ≤ wi.heap.size := by have := N7.size; have := P7.ext.size; omega
      obtain ⟨av, cv, rfl, hcv⟩ := OwnO.val hO
      refine .nil (.code (.seq (.keep [(7, _), (5, _), (17, _), (18, _), (19, _)] ⟨rfl, rfl, rfl, rfl, rfl, trivial⟩ (.region ?_))))
      refine .p rfl rfl (.mv rfl) ?_
      refine .p rfl rfl (.len rfl rfl) ?_
      refine .p rfl rfl (.as rfl) ?_
      refine .nil (.code (.seq (.keep [(8, _), (7, _), (5, _), (17, _), (18, _), (19, _)] ⟨rfl, rfl, rfl, rfl, rfl, rfl, trivial⟩ (.draws (by kernel_rfl) (by kernel_rfl) ?_))))
      refine .p rfl rfl (.mv rfl) ?_
      refine .p rfl rfl (.gt rfl rfl) ?_
      refine .p rfl rfl (.mv rfl) ?_
      refine .caseD 27 rfl (fun c27 => ?_) (fun c27 => ?_)
      · rcases List.eq_nil_or_concat out with hout | ⟨o, p, hout⟩
        · rw [hout] at c27; exact absurd c27 (by decide)
        rw [List.concat_eq_append] at hout
        have hol : out.length = o.length + 1 := by rw [hout]; simp
        have hO2 := hO
        rw [hout] at hO2
        obtain ⟨b, cap, cs, hv, hbB, hblt, Bo, h5, h6, h7, h8, hup⟩ := OwnO_last hO2
        have hps := hpos p (by rw [hout]; simp)
        have hal := hat.1
        injection hv with e1 e2 e3
        subst e1
        have eix : ((out.length : Int) - 1).toNat = o.length := by omega
        refine .p rfl rfl (.mv rfl) ?_
        refine .p rfl rfl (.mv rfl) ?_
        refine .p rfl rfl (.sub rfl rfl (by omega)) ?_
        refine .p rfl rfl (.indexAddr (s := 2) rfl rfl rfl rfl (by omega)) ?_
        refine .p rfl rfl (.fieldAddr rfl rfl rfl rfl) ?_
        refine .p rfl rfl (.load rfl rfl rfl (by rw [eix]; show World.cell? _ { block := b, off := 0 + o.length * 2 + 0 } = _; rw [show 0 + o.length * 2 + 0 = 2 * o.length by omega]; exact (Bo.cell _).trans h5)) ?_
        refine .p rfl rfl (.mv rfl) ?_
        refine .p rfl rfl (.mv rfl) ?_
        refine .p rfl rfl (.sub rfl rfl (by omega)) ?_
        refine .p rfl rfl (.indexAddr (s := 2) rfl rfl rfl rfl (by omega)) ?_
        refine .p rfl rfl (.fieldAddr rfl rfl rfl rfl) ?_
        refine .p rfl rfl (.load rfl rfl rfl (by rw [eix]; show World.cell? _ { block := b, off := 0 + o.length * 2 + 1 } = _; rw [show 0 + o.length * 2 + 1 = 2 * o.length + 1 by omega]; exact (Bo.cell _).trans h6)) ?_
        refine .p rfl rfl (.add rfl rfl (by omega)) ?_
        refine .p rfl rfl (.fieldAddr rfl rfl rfl rfl) ?_
        refine .p rfl rfl (.load rfl rfl rfl (B7.cell 0)) ?_
        refine .p rfl rfl (.eq rfl rfl) ?_
        refine .p rfl rfl (.pickT rfl rfl) ?_
        refine .nil (.code (.keep [(44, _), (8, _), (7, _), (5, _), (17, _), (18, _), (19, _)] ⟨rfl, rfl, rfl, rfl, rfl, rfl, rfl, trivial⟩ ?_))
        refine .condD rfl (fun c44 => ?_) (fun c44 => ?_)
        · refine .keep [(8, _), (7, _), (5, _), (17, _), (18, _), (19, _)] ⟨rfl, rfl, rfl, rfl, rfl, rfl, trivial⟩ (.mix (fun _ => False) [11] (by kernel_rfl) (by kernel_rfl) (by kernel_rfl) ?_)
          refine .p rfl rfl rfl (fun wx hx => .mv rfl) ?_
          refine .p rfl rfl rfl (fun wx hx => .mv rfl) ?_
          refine .p rfl rfl rfl (fun wx hx => .sub rfl rfl (by omega)) ?_
          refine .p rfl rfl rfl (fun wx hx => .indexAddr (s := 2) rfl rfl rfl rfl (by omega)) ?_
          refine .p rfl rfl rfl (fun wx hx => .fieldAddr rfl rfl rfl rfl) ?_
          refine .p rfl rfl rfl (fun wx hx => .load rfl rfl rfl (by rw [eix]; show World.cell? _ { block := b, off := 0 + o.length * 2 + 1 } = _; rw [show 0 + o.length * 2 + 1 = 2 * o.length + 1 by omega]; exact ((Bo.ext hx (fun x => x)).cell _).trans h6)) ?_
          refine .p rfl rfl rfl (fun wx hx => .fieldAddr rfl rfl rfl rfl) ?_
          refine .p rfl rfl rfl (fun wx hx => .load rfl rfl rfl ((B7.ext hx (fun x => x)).cell 1)) ?_
          refine .p rfl rfl rfl (fun wx hx => .add rfl rfl (by omega)) ?_
          refine .p rfl rfl rfl (fun wx hx => .indexAddr (s := 2) rfl rfl rfl rfl (by omega)) ?_
          refine .p rfl rfl rfl (fun wx hx => .fieldAddr rfl rfl rfl rfl) ?_
          refine .sL rfl rfl (.store rfl rfl rfl rfl rfl Bo (by show 0 + (((out.length : Nat) : Int) - 1).toNat * 2 + 1 < cs.length; rw [eix]; omega)) (by kernel_rfl) ?_
          intro w8 P8
          have B8 : Blk w8 b 30 (cs.set (0 + (((out.length : Nat) : Int) - 1).toNat * 2 + 1) (i64 (p.ct + ps[i].ct))) := P8.blk
          have hX := hX.trans (P8.ext.mono (fun k _ h => by have h : k = b := h; show w11.heap.size ≤ k; rw [h]; exact hbB.1))
          rw [eix, show 0 + o.length * 2 + 1 = 2 * o.length + 1 by omega] at B8
          refine .nil (.blk (.code (.keep [(5, _), (17, _), (18, _), (19, _)] ⟨rfl, rfl, rfl, rfl, trivial⟩ (.region ?_))))
          refine .p rfl rfl (.add rfl rfl (by omega)) ?_
          refine .p rfl rfl (.mv rfl) ?_
          refine .nil ?_
          refine (again (i + 1, w8, .slice (some ⟨b, 0, none⟩) out.length cv, (ps[i].fr + ps[i].ct).toNat, o ++ [⟨p.fr, p.ct + ps[i].ct⟩]) ⟨by show i + 1 ≤ _; omega, by show OwnO tPiece _ _ w8 (.slice (some ⟨b, 0, none⟩) out.length cv) (o ++ [_]) _; rw [hout]; exact OwnO.mono (hup w8 (p.ct + ps[i].ct) (by omega) B8) (fun _ h _ => h) (fun k h _ => h.1), hX, by rw [hout, pushM_snoc, if_pos (by omega)] at hW'; exact hW', ?_, by rw [List.length_append]; show _ + 1 ≤ i + 1; omega⟩ (by show _ - (i + 1) < _ - i; omega)).of ⟨rfl, rfl, rfl, rfl, trivial⟩
          exact ⟨by show (ps[i].fr + ps[i].ct).toNat ≤ 4096; omega, fun h => by have h : i + 1 < ps.length := h; have h9 := rises_get hri (show i < i + 1 by omega) h; show (((ps[i].fr + ps[i].ct).toNat : Nat) : Int) ≤ (ps[i + 1]'h).fr; omega⟩
        · refine .keep [(7, _), (5, _), (17, _), (18, _), (19, _)] ⟨rfl, rfl, rfl, rfl, rfl, trivial⟩ (.region ?_)
          refine .p rfl rfl (.mv rfl) ?_
          refine .p rfl rfl (.loadA (n := 2) rfl rfl rfl rfl rfl B7.cells) ?_
          refine .v rfl rfl (.lits rfl rfl (fun _ => by kernel_rfl)) ?_
          rintro _ w58 ⟨rfl, N58⟩
          refine .v rfl rfl (.appendLo (t := tPiece) (xs := out) (ys := [⟨ps[i].fr, ps[i].ct⟩]) (Q := fun _ => False) (B := fun k => w11.heap.size ≤ k ∧ k ≠ wi.heap.size) (eb := 16) rfl (OwnO.ext0 hO N58.ext) (fun k hk => by have := N58.size; exact ⟨by omega, by omega⟩) rfl (.inr (New.holds (t := tPiece) (xs := [⟨ps[i].fr, ps[i].ct⟩]) N58 (.cons (tPiece.mk (P := fun _ => False) (p := ⟨ps[i].fr, ps[i].ct⟩) hr1 hr2) .nil) rfl)) rfl rfl rfl rfl rfl rfl rfl (by simp; omega) (by simp [Lim]; omega) (fun _ h _ => h.elim)) ?_
          rintro r59 w59 ⟨O59, X59⟩
          have hX := (hX.trans (N58.ext.mono (fun _ _ h => h.elim))).trans (X59.mono (fun _ _ h => h.1))
          refine .p rfl rfl (.as rfl) ?_
          refine .nil (.blk (.code (.keep [(5, _), (17, _), (18, _), (19, _)] ⟨rfl, rfl, rfl, rfl, trivial⟩ (.region ?_))))
          refine .p rfl rfl (.add rfl rfl (by omega)) ?_
          refine .p rfl rfl (.mv rfl) ?_
          refine .nil ?_
          refine (again (i + 1, w59, _, (ps[i].fr + ps[i].ct).toNat, out ++ [⟨ps[i].fr, ps[i].ct⟩]) ⟨by show i + 1 ≤ _; omega, OwnO.mono O59 (fun _ h _ => h) (fun k h _ => h.1), hX, by rw [hout, pushM_snoc, if_neg (by omega)] at hW'; rw [hout]; exact hW', ?_, by rw [List.length_append]; show _ + 1 ≤ i + 1; omega⟩ (by show _ - (i + 1) < _ - i; omega)).of ⟨rfl, rfl, rfl, rfl, trivial⟩
          exact ⟨by show (ps[i].fr + ps[i].ct).toNat ≤ 4096; omega, fun h => by have h : i + 1 < ps.length := h; have h9 := rises_get hri (show i < i + 1 by omega) h; show (((ps[i].fr + ps[i].ct).toNat : Nat) : Int) ≤ (ps[i + 1]'h).fr; omega⟩
      · have hout : out = [] := List.length_eq_zero_iff.1 (by omega)
        refine .skip rfl rfl ?_
        refine .skip rfl rfl ?_
        refine .skip rfl rfl ?_
        refine .skip rfl rfl ?_
        refine .skip rfl rfl ?_
        refine .skip rfl rfl ?_
        refine .skip rfl rfl ?_
        refine .skip rfl rfl ?_
        refine .skip rfl rfl ?_
        refine .skip rfl rfl ?_
        refine .skip rfl rfl ?_
        refine .skip rfl rfl ?_
        refine .skip rfl rfl ?_
        refine .skip rfl rfl ?_
        refine .skip rfl rfl ?_
        refine .skip rfl rfl ?_
        refine .p rfl rfl (.pickF rfl rfl) ?_
        refine .nil (.code (.keep [(44, _), (8, _), (7, _), (5, _), (17, _), (18, _), (19, _)] ⟨rfl, rfl, rfl, rfl, rfl, rfl, rfl, trivial⟩ (.condF rfl (.keep [(7, _), (5, _), (17, _), (18, _), (19, _)] ⟨rfl, rfl, rfl, rfl, rfl, trivial⟩ (.region ?_)))))
        refine .p rfl rfl (.mv rfl) ?_
        refine .p rfl rfl (.loadA (n := 2) rfl rfl rfl rfl rfl B7.cells) ?_
        refine .v rfl rfl (.lits rfl rfl (fun _ => by kernel_rfl)) ?_
        rintro _ w58 ⟨rfl, N58⟩
        refine .v rfl rfl (.appendLo (t := tPiece) (xs := out) (ys := [⟨ps[i].fr, ps[i].ct⟩]) (Q := fun _ => False) (B := fun k => w11.heap.size ≤ k ∧ k ≠ wi.heap.size) (eb := 16) rfl (OwnO.ext0 hO N58.ext) (fun k hk => by have := N58.size; exact ⟨by omega, by omega⟩) rfl (.inr (New.holds (t := tPiece) (xs := [⟨ps[i].fr, ps[i].ct⟩]) N58 (.cons (tPiece.mk (P := fun _ => False) (p := ⟨ps[i].fr, ps[i].ct⟩) hr1 hr2) .nil) rfl)) rfl rfl rfl rfl rfl rfl rfl (by simp; omega) (by simp [Lim]; omega) (fun _ h _ => h.elim)) ?_
        rintro r59 w59 ⟨O59, X59⟩
        have hX := (hX.trans (N58.ext.mono (fun _ _ h => h.elim))).trans (X59.mono (fun _ _ h => h.1))
        refine .p rfl rfl (.as rfl) ?_
        refine .nil (.blk (.code (.keep [(5, _), (17, _), (18, _), (19, _)] ⟨rfl, rfl, rfl, rfl, trivial⟩ (.region ?_))))
        refine .p rfl rfl (.add rfl rfl (by omega)) ?_
        refine .p rfl rfl (.mv rfl) ?_
        refine .nil ?_
        refine (again (i + 1, w59, _, (ps[i].fr + ps[i].ct).toNat, out ++ [⟨ps[i].fr, ps[i].ct⟩]) ⟨by show i + 1 ≤ _; omega, OwnO.mono O59 (fun _ h _ => h) (fun k h _ => h.1), hX, by rw [hout, pushM_nil] at hW'; rw [hout]; exact hW', ?_, by rw [List.length_append]; show _ + 1 ≤ i + 1; omega⟩ (by show _ - (i + 1) < _ - i; omega)).of ⟨rfl, rfl, rfl, rfl, trivial⟩
        exact ⟨by show (ps[i].fr + ps[i].ct).toNat ≤ 4096; omega, fun h => by have h : i + 1 < ps.length := h; have h9 := rises_get hri (show i < i + 1 by omega) h; show (((ps[i].fr + ps[i].ct).toNat : Nat) : Int) ≤ (ps[i + 1]'h).fr; omega⟩
    · obtain rfl : i = ps.length := by omega
      refine .exit rfl (.code (.seq (.keep [(5, _)] ⟨rfl, trivial⟩ (.region ?_))))
      refine .p rfl rfl (.mv rfl) ?_
      refine .p rfl rfl (.as rfl) ?_
      refine .p rfl rfl (.as rfl) ?_
      refine .nil (.code ?_)
      refine .ret _ rfl ?_
      rw [if_pos hz, hz, ← joinF_eq hpm hW hat.1]
      exact ⟨_, rfl, OwnO.mono hO (fun _ h _ => h) (fun k hk _ => Nat.le_trans X11.size hk), X11.then hX (fun k hk _ => Nat.le_trans X11.size hk)⟩
end Go.Proofs.Ytagjfplipknlkaa
