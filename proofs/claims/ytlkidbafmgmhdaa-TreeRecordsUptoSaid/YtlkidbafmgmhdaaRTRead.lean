/-
  The document's own tree.Read; two lists of changes compared; TreeRecords' heavy.
-/
import Derived.Test.YtlkidbafmgmhdaaTRead
import Derived.Test.YtlkidbafmgmhdaaRBRead
import Derived.Test.YtlkidbafmgmhdaaRTWrite
import Derived.Test.YtlkidbafmgmhdaaChgEq
set_option linter.unusedVariables false
set_option linter.unusedSimpArgs false
set_option maxRecDepth 20000
namespace Go.Proofs.Ytlkidbafmgmhdaa
open Go page tree
namespace tree
theorem numP_err {m : Nat} {b : Bs} {z : Bool} (h : ¬ (readF b).2.2 = 0 ∨ m < (readF b).1) : numP m (b, z) = (0, (b, true)) := by unfold numP; rw [if_pos h]
theorem numP_ok {m : Nat} {b : Bs} {z : Bool} (h : (readF b).2.2 = 0) (h2 : ¬ m < (readF b).1) : numP m (b, z) = ((readF b).1, (b.drop (readF b).2.1, z)) := by unfold numP; rw [if_neg (fun hx => hx.elim (fun hy => hy h) h2)]
theorem numP_sticky {m : Nat} {b : Bs} : (numP m (b, true)).2.2 = true := by unfold numP; split <;> rfl
theorem readT_err1 {s : Bs} (h : ¬ (readF s).2.2 = 0 ∨ 2147483647 < (readF s).1) : readT s = ([], 0, 8) := readT_none (loopT_bad (by rw [numP_err h]; exact numP_sticky))
theorem readT_err2 {s r : Bs} {M : Nat} (h1 : numP 2147483647 (s, false) = (M, (r, false))) (h : ¬ (readF r).2.2 = 0 ∨ 64 < (readF r).1) : readT s = ([], 0, 8) := readT_none (loopT_bad (by rw [h1, numP_err h]))
theorem textP_err {b : Bs} {z : Bool} (h : ¬ (cutF b).2.2 = 0) : (textP (b, z)).2.2 = true := by show (z || decide (¬ (cutF b).2.2 = 0)) = true; rw [decide_eq_true h, Bool.or_true]
theorem textP_ok {b : Bs} {z : Bool} (h : (cutF b).2.2 = 0) : textP (b, z) = ((cutF b).1, ((cutF b).2.1, z)) := by unfold textP; simp [h]
end tree
theorem tChange.any {P P' : Nat → Prop} {w : World} {v : Value} {x : Change} (h : tChange.rep P w v x) : tChange.rep P' w v x := by
  obtain ⟨rfl, h1, h2⟩ := tChange.val h
  exact tChange.mk h1 h2
theorem SameChanges_fn {w : World} {v u : Value} {l m : List Change} (hl : (Sl tChange).rep All w v l) (hm : (Sl tChange).rep All w u m) : Fn Try.prog 9 [v, u] w (fun r w2 => r = .bool (decide (l = m)) ∧ Ext (fun _ => False) w w2) := by
  obtain ⟨a, cap, rfl, hcap⟩ := Sl.val hl
  obtain ⟨a2, cap2, rfl, hcap2⟩ := Sl.val hm
  have hlim := Sl.lim hl
  have hlim2 := Sl.lim hm
  simp only [Lim] at hlim hlim2
  refine Fn.enter (fun w => Try.call9 _ w) Try.func9 rfl ?_
  refine .seq (.region ?_)
  refine .p rfl rfl (.as rfl) ?_
  refine .nil (.code (.seq (.seq (.keep [(0, _), (1, _)] ⟨rfl, rfl, trivial⟩ (.region ?_)))))
  refine .p rfl rfl (.mv rfl) ?_
  refine .p rfl rfl (.len rfl rfl) ?_
  refine .p rfl rfl (.mv rfl) ?_
  refine .p rfl rfl (.len rfl rfl) ?_
  refine .p rfl rfl (.ne rfl rfl) ?_
  refine .nil (.code (.keep [(10, _), (0, _), (1, _)] ⟨rfl, rfl, rfl, trivial⟩ ?_))
  refine .condD rfl (fun c10 => ?_) (fun c10 => ?_)
  · refine .seq (.keep [] trivial (.region ?_))
    refine .p rfl rfl (.as rfl) ?_
    refine .nil (.code ?_)
    refine .ret _ rfl ?_
    exact ⟨by rw [decide_eq_false (fun h => by rw [h] at c10; exact c10 rfl)]; rfl, .refl _⟩
  · refine .skip (.code (.seq (.seq (.keep [(0, _), (1, _)] ⟨rfl, rfl, trivial⟩ (.region ?_)))))
    refine .p rfl rfl (.as rfl) ?_
    refine .nil (.code (.block ?_))
    have hlen : l.length = m.length := by omega
    refine .loop (S := Nat) (fun s => [(0, .slice a l.length cap), (1, .slice a2 m.length cap2), (5, i64 s)]) (fun s => w) (fun s => s ≤ l.length ∧ l.take s = m.take s) (fun s => l.length - s) 0 ⟨rfl, rfl, rfl, trivial⟩ rfl ⟨Nat.zero_le _, rfl⟩ ?_
    rintro i J ⟨hi', htk⟩ again
    refine .seq (.seq (.region ?_))
    refine .p rfl rfl (.mv rfl) ?_
    refine .p rfl rfl (.mv rfl) ?_
    refine .p rfl rfl (.len rfl rfl) ?_
    refine .p rfl rfl (.lt rfl rfl) ?_
    refine .nil (.code (.keep [(14, _), (0, _), (1, _), (5, _)] ⟨rfl, rfl, rfl, rfl, trivial⟩ ?_))
    refine .condD rfl (fun c14 => ?_) (fun c14 => ?_)
    · have hi : i < l.length := by omega
      have him : i < m.length := by omega
      obtain ⟨b0, o0, c0, ue, e, _, hcs, hre⟩ := Sl.at hl (List.getElem?_eq_getElem hi)
      cases e
      obtain ⟨rfl, h1, h2⟩ := tChange.val hre
      obtain ⟨b1, o1, c1, ue1, e1, _, hcm, hrm⟩ := Sl.at hm (List.getElem?_eq_getElem him)
      cases e1
      obtain ⟨rfl, g1, g2⟩ := tChange.val hrm
      refine .skip (.code (.seq (.block (.seq (.keep [(0, _), (1, _), (5, _)] ⟨rfl, rfl, rfl, trivial⟩ (.mix (fun _ => False) [] (by kernel_rfl) (by kernel_rfl) (by kernel_rfl) ?_))))))
      refine .p rfl rfl rfl (fun wx hx => .mv rfl) ?_
      refine .p rfl rfl rfl (fun wx hx => .mv rfl) ?_
      refine .p rfl rfl rfl (fun wx hx => .indexAddr (s := 3) rfl rfl rfl rfl (by omega)) ?_
      refine .p rfl rfl rfl (fun wx hx => .loadA (n := 3) rfl rfl rfl rfl rfl (hcs.ext (S := fun _ => False) hx (fun x => x))) ?_
      refine .p rfl rfl rfl (fun wx hx => .mv rfl) ?_
      refine .p rfl rfl rfl (fun wx hx => .mv rfl) ?_
      refine .p rfl rfl rfl (fun wx hx => .indexAddr (s := 3) rfl rfl rfl rfl (by omega)) ?_
      refine .p rfl rfl rfl (fun wx hx => .loadA (n := 3) rfl rfl rfl rfl rfl (hcm.ext (S := fun _ => False) hx (fun x => x))) ?_
      refine .p rfl rfl rfl (fun wx hx => .neA (xs := [_, _, _]) (ys := [_, _, _]) rfl rfl (by kernel_rfl) (change_eq l[i] m[i])) ?_
      refine .nil (.code (.keep [(25, _), (0, _), (1, _), (5, _)] ⟨rfl, rfl, rfl, rfl, trivial⟩ ?_))
      refine .cond rfl (fun c25 => ?_) (fun c25 => ?_)
      · refine .seq (.keep [] trivial (.region ?_))
        refine .p rfl rfl (.as rfl) ?_
        refine .nil (.code ?_)
        refine .ret _ rfl ?_
        exact ⟨by rw [decide_eq_false (fun h => by subst h; simp at c25)]; rfl, .refl _⟩
      · refine .skip (.blk (.code (.keep [(0, _), (1, _), (5, _)] ⟨rfl, rfl, rfl, trivial⟩ (.region ?_))))
        refine .p rfl rfl (.mv rfl) ?_
        refine .p rfl rfl (.add rfl rfl (by omega)) ?_
        refine .p rfl rfl (.as rfl) ?_
        refine .nil ?_
        exact (again (i + 1) ⟨by show i + 1 ≤ _; omega, by show l.take (i + 1) = m.take (i + 1); rw [List.take_succ_eq_append_getElem hi, List.take_succ_eq_append_getElem him, htk, show l[i] = m[i] by simpa using c25]⟩ (by show _ - (i + 1) < _ - i; omega)).of ⟨rfl, rfl, rfl, trivial⟩
    · refine .exit rfl (.code (.seq (.keep [] trivial (.region ?_))))
      refine .p rfl rfl (.as rfl) ?_
      refine .nil (.code ?_)
      refine .ret _ rfl ?_
      obtain rfl : i = l.length := by omega
      exact ⟨by rw [decide_eq_true (by rw [List.take_length, hlen, List.take_length] at htk; exact htk)]; rfl, .refl _⟩
theorem THeavy_fn {w : World} {v : Value} {l : List Change} (h : (Sl tChange).rep All w v l) (hb : l.length ≤ 1048576) : Fn Try.prog 4 [v] w (fun r w2 => (∃ q, r = .bool q) ∧ Ext (fun _ => False) w w2) := by
  obtain ⟨a, cap, rfl, hcap⟩ := Sl.val h
  refine Fn.enter (fun w => Try.call4 _ w) Try.func4 rfl ?_
  refine .seq (.region ?_)
  refine .p rfl rfl (.as rfl) ?_
  refine .nil (.code (.seq (.keep [(0, _)] ⟨rfl, trivial⟩ (.region ?_))))
  refine .p rfl rfl (.as rfl) ?_
  refine .nil (.code (.seq (.seq (.region ?_))))
  refine .p rfl rfl (.as rfl) ?_
  refine .nil (.code (.block ?_))
  refine .loop (S := Nat × Int) (fun s => [(0, .slice a l.length cap), (3, i64 s.2), (4, i64 s.1)]) (fun s => w) (fun s => s.1 ≤ l.length ∧ 0 ≤ s.2 ∧ s.2 ≤ 200000 * (s.1 : Int)) (fun s => l.length - s.1) (0, 0) ⟨rfl, rfl, rfl, trivial⟩ rfl ⟨Nat.zero_le _, (by decide : (0 : Int) ≤ 0), (by decide : (0 : Int) ≤ 200000 * ((0 : Nat) : Int))⟩ ?_
  rintro ⟨i, n⟩ J ⟨hi', hn0, hn⟩ again
  simp only at hi' hn0 hn
  change G _ [(0, .slice a l.length cap), (3, i64 n), (4, i64 i)] _ _ w
  refine .seq (.seq (.region ?_))
  refine .p rfl rfl (.mv rfl) ?_
  refine .p rfl rfl (.mv rfl) ?_
  refine .p rfl rfl (.len rfl rfl) ?_
  refine .p rfl rfl (.lt rfl rfl) ?_
  refine .nil (.code (.keep [(8, _), (0, _), (3, _), (4, _)] ⟨rfl, rfl, rfl, rfl, trivial⟩ ?_))
  refine .condD rfl (fun c8 => ?_) (fun c8 => ?_)
  · have hi : i < l.length := by omega
    obtain ⟨b0, o0, c0, ue, e, _, hcs, hre⟩ := Sl.at h (List.getElem?_eq_getElem hi)
    cases e
    obtain ⟨rfl, h1, h2⟩ := tChange.val hre
    refine .skip (.code (.seq (.block (.keep [(0, _), (3, _), (4, _)] ⟨rfl, rfl, rfl, trivial⟩ (.mix (fun _ => False) [] (by kernel_rfl) (by kernel_rfl) (by kernel_rfl) ?_)))))
    refine .p rfl rfl rfl (fun wx hx => .mv rfl) ?_
    refine .p rfl rfl rfl (fun wx hx => .mv rfl) ?_
    refine .p rfl rfl rfl (fun wx hx => .mv rfl) ?_
    refine .p rfl rfl rfl (fun wx hx => .indexAddr (s := 3) rfl rfl rfl rfl (by omega)) ?_
    refine .p rfl rfl rfl (fun wx hx => .fieldAddr rfl rfl rfl rfl) ?_
    refine .p rfl rfl rfl (fun wx hx => .load rfl rfl rfl (hcs.ext (S := fun _ => False) hx (fun x => x) 1 _ rfl)) ?_
    refine .p rfl rfl rfl (fun wx hx => .lenS rfl rfl) ?_
    refine .p rfl rfl rfl (fun wx hx => .min2 rfl rfl) ?_
    refine .p rfl rfl rfl (fun wx hx => .add rfl rfl (by omega)) ?_
    refine .p rfl rfl rfl (fun wx hx => .mv rfl) ?_
    refine .p rfl rfl rfl (fun wx hx => .mv rfl) ?_
    refine .p rfl rfl rfl (fun wx hx => .indexAddr (s := 3) rfl rfl rfl rfl (by omega)) ?_
    refine .p rfl rfl rfl (fun wx hx => .fieldAddr rfl rfl rfl rfl) ?_
    refine .p rfl rfl rfl (fun wx hx => .load rfl rfl rfl (hcs.ext (S := fun _ => False) hx (fun x => x) 0 _ rfl)) ?_
    refine .p rfl rfl rfl (fun wx hx => .lenS rfl rfl) ?_
    refine .p rfl rfl rfl (fun wx hx => .min2 rfl rfl) ?_
    refine .p rfl rfl rfl (fun wx hx => .add rfl rfl (by omega)) ?_
    refine .p rfl rfl rfl (fun wx hx => .as rfl) ?_
    refine .nil (.blk (.code (.keep [(3, _), (0, _), (4, _)] ⟨rfl, rfl, rfl, trivial⟩ (.region ?_))))
    refine .p rfl rfl (.mv rfl) ?_
    refine .p rfl rfl (.add rfl rfl (by omega)) ?_
    refine .p rfl rfl (.as rfl) ?_
    refine .nil ?_
    exact (again (i + 1, _) ⟨by show i + 1 ≤ _; omega, by show (0 : Int) ≤ n + min _ _ + min _ _; omega, by show n + min _ _ + min _ _ ≤ 200000 * ((i + 1 : Nat) : Int); omega⟩ (by show _ - (i + 1) < _ - i; omega)).of ⟨rfl, rfl, rfl, trivial⟩
  · refine .exit rfl (.code (.seq (.keep [(0, _), (3, _)] ⟨rfl, rfl, trivial⟩ (.region ?_))))
    refine .p rfl rfl (.mv rfl) ?_
    refine .p rfl rfl (.len rfl rfl) ?_
    refine .p rfl rfl (.gt rfl rfl) ?_
    refine .p rfl rfl (.mv rfl) ?_
    refine .caseD 31 rfl (fun c31 => ?_) (fun c31 => ?_)
    · refine .skip rfl rfl ?_
      refine .skip rfl rfl ?_
      refine .p rfl rfl (.pickT rfl rfl) ?_
      refine .p rfl rfl (.as rfl) ?_
      refine .nil (.code ?_)
      refine .ret _ rfl ?_
      exact ⟨⟨_, rfl⟩, .refl _⟩
    · refine .p rfl rfl (.mv rfl) ?_
      refine .p rfl rfl (.gt rfl rfl) ?_
      refine .p rfl rfl (.pickF rfl rfl) ?_
      refine .p rfl rfl (.as rfl) ?_
      refine .nil (.code ?_)
      refine .ret _ rfl ?_
      exact ⟨⟨_, rfl⟩, .refl _⟩
theorem RefTRead_fn {w : World} {src : Bs} (hl : src.length < Lim) : Fn Try.prog 8 [str src] w (fun r w2 => ∃ v', r = .tuple #[v', i64 (readT src).2.1, i64 (readT src).2.2] ∧ OwnO tChange (fun _ => False) 36 w2 v' (readT src).1 (fun k => w.heap.size ≤ k) ∧ Ext (fun _ => False) w w2) := by
  obtain ⟨hr1, hr2⟩ := readF_bd src
  have hlim := hl
  simp only [Lim] at hlim
  refine Fn.enter (fun w => Try.call8 _ w) Try.func8 rfl ?_
  refine .seq (.region ?_)
  refine .p rfl rfl (.as rfl) ?_
  refine .p rfl rfl (.as rfl) ?_
  refine .p rfl rfl (.as rfl) ?_
  refine .nil (.code (.seq (.keep [(0, _)] ⟨rfl, trivial⟩ (.region ?_))))
  refine .p rfl rfl (.mv rfl) ?_
  refine .v rfl rfl (.strBytes rfl rfl rfl rfl) ?_
  rintro _ w21 ⟨cap21, cs21, rfl, hc21, hn21, hs21, N21⟩
  have R21 := strBytes_rep (hl) hc21 hs21 N21
  refine .p rfl rfl (.as rfl) ?_
  refine .nil (.code (.seq (.keep [(5, _), (0, _)] ⟨rfl, rfl, trivial⟩ (.region ?_))))
  refine .p rfl rfl (.mv rfl) ?_
  refine .call (first := []) (captured := []) rfl rfl rfl rfl (RefRead_fn (allOf R21)) ?_
  rintro _ w24 ⟨rfl, X24⟩
  refine .p rfl rfl (.mv rfl) ?_
  refine .p rfl rfl (.extract rfl rfl) ?_
  refine .p rfl rfl (.extract rfl rfl) ?_
  refine .p rfl rfl (.extract rfl rfl) ?_
  refine .p rfl rfl (.as rfl) ?_
  refine .p rfl rfl (.as rfl) ?_
  refine .p rfl rfl (.as rfl) ?_
  refine .nil (.code (.seq (.seq (.keep [(8, _), (7, _), (6, _), (5, _), (0, _)] ⟨rfl, rfl, rfl, rfl, rfl, trivial⟩ (.region ?_)))))
  refine .p rfl rfl (.mv rfl) ?_
  refine .p rfl rfl (.ne rfl rfl) ?_
  refine .p rfl rfl (.mv rfl) ?_
  refine .caseD 30 rfl (fun c30 => ?_) (fun c30 => ?_)
  · refine .skip rfl rfl ?_
    refine .skip rfl rfl ?_
    refine .p rfl rfl (.pickT rfl rfl) ?_
    refine .nil (.code (.keep [(33, _), (7, _), (6, _), (5, _), (0, _)] ⟨rfl, rfl, rfl, rfl, rfl, trivial⟩ (.condT rfl (.seq (.keep [] trivial (.region ?_))))))
    refine .p rfl rfl (.as rfl) ?_
    refine .p rfl rfl (.as rfl) ?_
    refine .p rfl rfl (.as rfl) ?_
    refine .nil (.code ?_)
    refine .ret _ rfl ?_
    rw [readT_err1 (.inl c30)]
    exact ⟨_, rfl, OwnO.nil, N21.ext.trans X24⟩
  · refine .p rfl rfl (.mv rfl) ?_
    refine .p rfl rfl (.gt rfl rfl) ?_
    refine .p rfl rfl (.pickF rfl rfl) ?_
    refine .nil (.code (.keep [(33, _), (7, _), (6, _), (5, _), (0, _)] ⟨rfl, rfl, rfl, rfl, rfl, trivial⟩ ?_))
    refine .condD rfl (fun c33 => ?_) (fun c33 => ?_)
    · refine .seq (.keep [] trivial (.region ?_))
      refine .p rfl rfl (.as rfl) ?_
      refine .p rfl rfl (.as rfl) ?_
      refine .p rfl rfl (.as rfl) ?_
      refine .nil (.code ?_)
      refine .ret _ rfl ?_
      rw [readT_err1 (.inr (by omega))]
      exact ⟨_, rfl, OwnO.nil, N21.ext.trans X24⟩
    · have hok1 : numP 2147483647 (src, false) = ((readF src).1, (src.drop (readF src).2.1, false)) := numP_ok (Decidable.not_not.1 c30) (by omega)
      obtain ⟨a36, c36, hv36, hc36, R36⟩ := Sl.cutE (tBytes.ext0 R21 X24) (readF src).2.1 src.length (by omega) (by omega)
      rw [List.take_length] at R36
      obtain ⟨hs1, hs2⟩ := readF_bd (src.drop (readF src).2.1)
      rw [List.length_drop] at hs2
      refine .skip (.code (.seq (.keep [(7, _), (6, _), (5, _), (0, _)] ⟨rfl, rfl, rfl, rfl, trivial⟩ (.region ?_))))
      refine .p rfl rfl (.mv rfl) ?_
      refine .p rfl rfl (.mv rfl) ?_
      refine .p rfl rfl (.cast (.cutLo (s := 1) rfl rfl rfl rfl (by omega)) (show cutV 1 _ _ (((readF src).2.1 : Nat) : Int).toNat src.length = .slice a36 (src.length - (readF src).2.1) c36 by rw [Int.toNat_natCast]; exact hv36)) ?_
      refine .p rfl rfl (.as rfl) ?_
      refine .nil (.code (.seq (.keep [(5, _), (6, _), (0, _)] ⟨rfl, rfl, rfl, trivial⟩ (.region ?_))))
      refine .p rfl rfl (.mv rfl) ?_
      refine .call (first := []) (captured := []) rfl rfl rfl rfl (RefRead_fn (allOf R36)) ?_
      rintro _ w39 ⟨rfl, X39⟩
      refine .p rfl rfl (.mv rfl) ?_
      refine .p rfl rfl (.extract rfl rfl) ?_
      refine .p rfl rfl (.extract rfl rfl) ?_
      refine .p rfl rfl (.extract rfl rfl) ?_
      refine .p rfl rfl (.as rfl) ?_
      refine .p rfl rfl (.as rfl) ?_
      refine .p rfl rfl (.as rfl) ?_
      refine .nil (.code (.seq (.seq (.keep [(8, _), (7, _), (9, _), (5, _), (6, _), (0, _)] ⟨rfl, rfl, rfl, rfl, rfl, rfl, trivial⟩ (.region ?_)))))
      refine .p rfl rfl (.mv rfl) ?_
      refine .p rfl rfl (.ne rfl rfl) ?_
      refine .p rfl rfl (.mv rfl) ?_
      refine .caseD 45 rfl (fun c45 => ?_) (fun c45 => ?_)
      · refine .skip rfl rfl ?_
        refine .skip rfl rfl ?_
        refine .p rfl rfl (.pickT rfl rfl) ?_
        refine .nil (.code (.keep [(48, _), (7, _), (9, _), (5, _), (6, _), (0, _)] ⟨rfl, rfl, rfl, rfl, rfl, rfl, trivial⟩ (.condT rfl (.seq (.keep [] trivial (.region ?_))))))
        refine .p rfl rfl (.as rfl) ?_
        refine .p rfl rfl (.as rfl) ?_
        refine .p rfl rfl (.as rfl) ?_
        refine .nil (.code ?_)
        refine .ret _ rfl ?_
        rw [readT_err2 hok1 (.inl c45)]
        exact ⟨_, rfl, OwnO.nil, N21.ext.trans (X24.trans X39)⟩
      · refine .p rfl rfl (.mv rfl) ?_
        refine .p rfl rfl (.gt rfl rfl) ?_
        refine .p rfl rfl (.pickF rfl rfl) ?_
        refine .nil (.code (.keep [(48, _), (7, _), (9, _), (5, _), (6, _), (0, _)] ⟨rfl, rfl, rfl, rfl, rfl, rfl, trivial⟩ ?_))
        refine .condD rfl (fun c48 => ?_) (fun c48 => ?_)
        · refine .seq (.keep [] trivial (.region ?_))
          refine .p rfl rfl (.as rfl) ?_
          refine .p rfl rfl (.as rfl) ?_
          refine .p rfl rfl (.as rfl) ?_
          refine .nil (.code ?_)
          refine .ret _ rfl ?_
          rw [readT_err2 hok1 (.inr (by omega))]
          exact ⟨_, rfl, OwnO.nil, N21.ext.trans (X24.trans X39)⟩
        · have hok2 : numP 64 (src.drop (readF src).2.1, false) = ((readF (src.drop (readF src).2.1)).1, ((src.drop (readF src).2.1).drop (readF (src.drop (readF src).2.1)).2.1, false)) := numP_ok (Decidable.not_not.1 c45) (by omega)
          obtain ⟨a51, c51, hv51, hc51, R51⟩ := Sl.cutE (tBytes.ext0 R36 X39) (readF (src.drop (readF src).2.1)).2.1 (src.length - (readF src).2.1) (by omega) (by omega)
          rw [List.take_of_length_le (by simp)] at R51
          have hX0 := N21.ext.trans (X24.trans X39)
          generalize hN0 : (readF (src.drop (readF src).2.1)).1 = N0 at hok2 ⊢
          have hN4 : N0 ≤ 64 := by omega
          generalize hM0 : (readF src).1 = M0 at hok1 ⊢
          have hM4 : M0 ≤ 2147483647 := by omega
          refine .skip (.code (.seq (.keep [(7, _), (9, _), (5, _), (6, _), (0, _)] ⟨rfl, rfl, rfl, rfl, rfl, trivial⟩ (.region ?_))))
          refine .p rfl rfl (.mv rfl) ?_
          refine .p rfl rfl (.mv rfl) ?_
          refine .p rfl rfl (.cast (.cutLo (s := 1) rfl rfl rfl rfl (by omega)) (show cutV 1 _ _ (((readF (src.drop (readF src).2.1)).2.1 : Nat) : Int).toNat (src.length - (readF src).2.1) = .slice a51 ((src.length - (readF src).2.1) - (readF (src.drop (readF src).2.1)).2.1) c51 by rw [Int.toNat_natCast]; exact hv51)) ?_
          refine .p rfl rfl (.as rfl) ?_
          refine .nil (.code (.seq (.keep [(5, _), (9, _), (6, _), (0, _)] ⟨rfl, rfl, rfl, rfl, trivial⟩ (.region ?_))))
          refine .p rfl rfl (.as rfl) ?_
          refine .nil (.code (.seq (.seq (.region ?_))))
          refine .p rfl rfl (.as rfl) ?_
          refine .nil (.code (.block ?_))
          refine .loop (S := Nat × List Change × Bs × Value × Value × (Nat → Prop) × World) (fun s => [(0, str src), (5, s.2.2.2.1), (6, .int .u64 (M0 : Nat)), (9, .int .u64 (N0 : Nat)), (10, s.2.2.2.2.1), (11, i64 s.1)]) (fun s => s.2.2.2.2.2.2) (fun s => s.1 ≤ N0 ∧ loopT (N0 - s.1) s.2.1 (s.2.2.1, false) = loopT N0 [] ((src.drop (readF src).2.1).drop (readF (src.drop (readF src).2.1)).2.1, false) ∧ s.2.2.1.length ≤ src.length ∧ s.2.1.length = s.1 ∧ (∀ k, s.2.2.2.2.2.1 k → w.heap.size ≤ k ∧ k < s.2.2.2.2.2.2.heap.size) ∧ tBytes.rep (fun k => ¬ s.2.2.2.2.2.1 k) s.2.2.2.2.2.2 s.2.2.2.1 s.2.2.1 ∧ OwnO tChange (fun _ => False) 36 s.2.2.2.2.2.2 s.2.2.2.2.1 s.2.1 s.2.2.2.2.2.1 ∧ Ext (fun _ => False) w s.2.2.2.2.2.2) (fun s => N0 - s.1) (0, [], _, _, _, fun _ => False, w39) ⟨rfl, rfl, rfl, rfl, rfl, rfl, trivial⟩ rfl ⟨Nat.zero_le _, rfl, (by show ((src.drop (readF src).2.1).drop _).length ≤ src.length; simp only [List.length_drop]; omega), rfl, fun _ h => h.elim, tBytes.mono R51 (fun _ _ _ h => h), OwnO.nil, hX0⟩ ?_
          rintro ⟨i, acc, inb, v5, v10, B, wi⟩ J ⟨hi', hloop, hlen, hacc, hB, hR, hO, hX⟩ again
          simp only at hi' hloop hlen hacc hB hR hO hX
          have hXs := hX.size
          have hn : ∀ k, wi.heap.size ≤ k → ¬ B k := fun k hk hb => by have := (hB k hb).2; omega
          change G _ [(0, str src), (5, v5), (6, .int .u64 (M0 : Nat)), (9, .int .u64 (N0 : Nat)), (10, v10), (11, i64 i)] _ _ wi
          refine .seq (.seq (.region ?_))
          refine .p rfl rfl (.mv rfl) ?_
          refine .p rfl rfl (.mv rfl) ?_
          refine .p rfl rfl (.convI rfl rfl rfl (by omega)) ?_
          refine .p rfl rfl (.lt rfl rfl) ?_
          refine .nil (.code (.keep [(55, _), (0, _), (5, _), (6, _), (9, _), (10, _), (11, _)] ⟨rfl, rfl, rfl, rfl, rfl, rfl, rfl, trivial⟩ ?_))
          refine .condD rfl (fun c55 => ?_) (fun c55 => ?_)
          · have hi : i < N0 := by omega
            refine .skip (.code (.seq (.block (.seq (.keep [(0, _), (5, _), (6, _), (9, _), (10, _), (11, _)] ⟨rfl, rfl, rfl, rfl, rfl, rfl, trivial⟩ (.region ?_))))))
            refine .p rfl rfl (.mv rfl) ?_
            refine .call (first := []) (captured := []) rfl rfl rfl rfl (RefCut_fn (allOf hR)) ?_
            rintro _ w60 ⟨v60, rfl, G60, X60⟩
            have z60 := X60.size
            have hle := cutF_le inb
            obtain ⟨a60, c60, rfl, hc60⟩ := OwnO.val G60
            have R60 := tBytes.mono (Gr.rep' G60) (P' := fun k => ¬ B k ∧ k < w60.heap.size) (fun k hk _ => ⟨hn k hk.1, hk.2⟩)
            refine .p rfl rfl (.mv rfl) ?_
            refine .p rfl rfl (.extract rfl rfl) ?_
            refine .p rfl rfl (.extract rfl rfl) ?_
            refine .p rfl rfl (.extract rfl rfl) ?_
            refine .p rfl rfl (.as rfl) ?_
            refine .p rfl rfl (.as rfl) ?_
            refine .p rfl rfl (.as rfl) ?_
            refine .nil (.code (.seq (.seq (.keep [(14, _), (13, _), (12, _), (0, _), (6, _), (9, _), (10, _), (11, _)] ⟨rfl, rfl, rfl, rfl, rfl, rfl, rfl, rfl, trivial⟩ (.region ?_)))))
            refine .p rfl rfl (.mv rfl) ?_
            refine .p rfl rfl (.ne rfl rfl) ?_
            refine .p rfl rfl (.mv rfl) ?_
            refine .caseD 66 rfl (fun c66 => ?_) (fun c66 => ?_)
            · refine .skip rfl rfl ?_
              refine .skip rfl rfl ?_
              refine .skip rfl rfl ?_
              refine .p rfl rfl (.pickT rfl rfl) ?_
              refine .nil (.code (.keep [(70, _), (13, _), (12, _), (0, _), (6, _), (9, _), (10, _), (11, _)] ⟨rfl, rfl, rfl, rfl, rfl, rfl, rfl, rfl, trivial⟩ (.condT rfl (.seq (.keep [] trivial (.region ?_))))))
              refine .p rfl rfl (.as rfl) ?_
              refine .p rfl rfl (.as rfl) ?_
              refine .p rfl rfl (.as rfl) ?_
              refine .nil (.code ?_)
              refine .ret _ rfl ?_
              rw [readT_none (by rw [hok1]; simp only; rw [hok2]; simp only; rw [← hloop, show N0 - i = (N0 - (i + 1)) + 1 by omega, loopT_T (.inl (textP_err c66))])]
              exact ⟨_, rfl, OwnO.nil, hX.trans X60⟩
            · refine .p rfl rfl (.mv rfl) ?_
              refine .p rfl rfl (.len rfl rfl) ?_
              refine .p rfl rfl (.eq rfl rfl) ?_
              refine .p rfl rfl (.pickF rfl rfl) ?_
              refine .nil (.code (.keep [(70, _), (13, _), (12, _), (0, _), (6, _), (9, _), (10, _), (11, _)] ⟨rfl, rfl, rfl, rfl, rfl, rfl, rfl, rfl, trivial⟩ ?_))
              refine .condD rfl (fun c70 => ?_) (fun c70 => ?_)
              · refine .seq (.keep [] trivial (.region ?_))
                refine .p rfl rfl (.as rfl) ?_
                refine .p rfl rfl (.as rfl) ?_
                refine .p rfl rfl (.as rfl) ?_
                refine .nil (.code ?_)
                refine .ret _ rfl ?_
                rw [readT_none (by rw [hok1]; simp only; rw [hok2]; simp only; rw [← hloop, show N0 - i = (N0 - (i + 1)) + 1 by omega, loopT_T (.inr (by rw [textP_ok (Decidable.not_not.1 c66)]; exact List.length_eq_zero_iff.1 (by have c70 : (((cutF inb).2.1.length : Nat) : Int) = 0 := c70; show (cutF inb).2.1.length = 0; omega)))])]
                exact ⟨_, rfl, OwnO.nil, hX.trans X60⟩
              · have h65 : (cutF inb).2.2 = 0 := Decidable.not_not.1 c66
                have hT := textP_ok (z := false) h65
                generalize (cutF inb).1 = key at hT hle ⊢
                generalize (cutF inb).2.1 = rb at hT hle R60 G60 hc60 c70 ⊢
                obtain ⟨x, rr, rfl⟩ : ∃ x rr, rb = x :: rr := by cases rb with | nil => exact absurd rfl c70 | cons x r => exact ⟨x, r, rfl⟩
                obtain ⟨b1, o1, e1, hPb, hc⟩ := Sl.byteAt R60 (k := 0) (by simp)
                cases e1
                have hne : ¬ ((textP (inb, false)).2.2 = true ∨ (textP (inb, false)).2.1 = []) := by rw [hT]; rintro (h | h) <;> cases h
                refine .skip (.code (.seq (.keep [(13, _), (12, _), (0, _), (6, _), (9, _), (10, _), (11, _)] ⟨rfl, rfl, rfl, rfl, rfl, rfl, rfl, trivial⟩ (.region ?_))))
                refine .p rfl rfl (.mv rfl) ?_
                refine .p rfl rfl (.mv rfl) ?_
                refine .p rfl rfl (.indexAddr1 rfl rfl rfl rfl (by simp)) ?_
                refine .p rfl rfl (.load rfl rfl rfl hc) ?_
                refine .p rfl rfl (.cast (.eq rfl rfl) (show _ = Value.bool (decide (x = 1)) from congrArg Value.bool (decide_eq_decide.2 ⟨fun h => UInt8.toNat_inj.1 (by have h : ((x.toNat : Nat) : Int) = 1 := h; show _ = 1; omega), fun h => by rw [h]; rfl⟩))) ?_
                refine .p rfl rfl (.build (cs := [str key, str [], .bool (decide (x = 1))]) rfl (fun _ => by kernel_rfl)) ?_
                refine .v rfl rfl (.alloc rfl rfl) ?_
                rintro _ w15a ⟨rfl, N15⟩
                refine .s rfl (.storeAll (n := 3) rfl rfl rfl rfl rfl N15.blk rfl) ?_
                intro w15 P15
                have X15 := N15.ext.then P15.ext (by rintro k rfl _; exact Nat.le_refl _)
                have B15 := P15.blk
                have z15 : w15.heap.size = w60.heap.size + 1 := by rw [P15.size, N15.size]
                refine .nil (.code (.seq (.keep [(15, _), (13, _), (0, _), (6, _), (9, _), (10, _), (11, _)] ⟨rfl, rfl, rfl, rfl, rfl, rfl, rfl, trivial⟩ (.region ?_))))
                refine .p rfl rfl (.mv rfl) ?_
                obtain ⟨a78, c78, hv78, hc78, R78⟩ := Sl.cutE (tBytes.ext0 R60 X15) 1 (x :: rr).length (by simp) (by simp)
                rw [List.take_length] at R78
                have R78 : tBytes.rep (fun k => ¬ B k ∧ k < w60.heap.size) w15 (.slice a78 rr.length c78) rr := R78
                refine .p rfl rfl (.cast (.cutLo (s := 1) rfl rfl rfl rfl (by simp; omega)) (show cutV 1 _ c60 (1 : Int).toNat (x :: rr).length = .slice a78 rr.length c78 from hv78)) ?_
                refine .p rfl rfl (.as rfl) ?_
                refine .nil (.code (.seq (.seq (.keep [(5, _), (15, _), (0, _), (6, _), (9, _), (10, _), (11, _)] ⟨rfl, rfl, rfl, rfl, rfl, rfl, rfl, trivial⟩ (.region ?_)))))
                refine .p rfl rfl (.fieldAddr rfl rfl rfl rfl) ?_
                refine .p rfl rfl (.load rfl rfl rfl (B15.cell 2)) ?_
                refine .p rfl rfl (.notD rfl) ?_
                refine .nil (.code (.keep [(81, _), (5, _), (15, _), (0, _), (6, _), (9, _), (10, _), (11, _)] ⟨rfl, rfl, rfl, rfl, rfl, rfl, rfl, rfl, trivial⟩ ?_))
                refine .meet (S := Value × World) (fun s => [(0, str src), (5, s.1), (6, .int .u64 (M0 : Nat)), (9, .int .u64 (N0 : Nat)), (10, v10), (11, i64 i), (15, .pointer (some ⟨w60.heap.size, 0, none⟩))]) (fun s => s.2) (fun s => Blk s.2 w60.heap.size 36 [str (entT (key, (x :: rr, false))).1.key, str (entT (key, (x :: rr, false))).1.value, .bool (entT (key, (x :: rr, false))).1.gone] ∧ (entT (key, (x :: rr, false))).2.2 = false ∧ tBytes.rep (fun k => ¬ B k) s.2 s.1 (entT (key, (x :: rr, false))).2.1 ∧ Ext (fun k => w60.heap.size ≤ k) w15 s.2) ?_ ?_
                · rintro ⟨v5n, wn⟩ ⟨Bn, hfn, Rn, Xn⟩
                  simp only at Bn hfn Rn Xn
                  have zn := Xn.size
                  have hBc : ∀ k, B k → ¬ (w60.heap.size ≤ k) := fun k hk h => by have := hB k hk; omega
                  have hOn := ((OwnO.ext0 hO X60).ext0 X15).ext Xn (fun k hk _ => hBc k hk) (fun _ h _ => h.elim)
                  obtain ⟨hek, hel⟩ := entT_len (key := key) (x := x) (r := rr) (z := false)
                  have hle2 : key.length + (rr.length + 1) ≤ inb.length := hle
                  have he1 : (entT (key, (x :: rr, false))).1.key.length < Lim := by rw [hek]; omega
                  have he2 : (entT (key, (x :: rr, false))).1.value.length < Lim := by omega
                  have hwn := ((hX.trans X60).trans X15).then Xn (by intro k hk _; have hk : w60.heap.size ≤ k := hk; omega)
                  refine .code (.region ?_)
                  refine .p rfl rfl (.mv rfl) ?_
                  refine .p rfl rfl (.loadA (n := 3) rfl rfl rfl rfl rfl Bn.cells) ?_
                  refine .v rfl rfl (.lits rfl rfl (fun _ => by kernel_rfl)) ?_
                  rintro _ w95 ⟨rfl, N95⟩
                  have z95 : w95.heap.size = wn.heap.size + 1 := N95.size
                  have hws := hwn.size
                  have hO95 := OwnO.ext0 (OwnO.mono hOn (B' := fun k => B k ∨ w95.heap.size ≤ k) (fun _ h _ => h) (fun _ h _ => .inl h)) N95.ext
                  refine .v rfl rfl (.appendLo (t := tChange) (Q := fun _ => False) (B := fun k => B k ∨ w95.heap.size ≤ k) (eb := 40) rfl hO95 (fun k hk => .inr hk) rfl (.inr (New.holds (xs := [(entT (key, (x :: rr, false))).1]) N95 (.cons (tChange.mk he1 he2) .nil) rfl)) rfl rfl rfl rfl rfl rfl rfl (by simp; omega) (by simp [Lim]; omega) (fun _ h _ => h.elim)) ?_
                  rintro r96 w96 ⟨G96, Y96⟩
                  have z96 := Y96.size
                  refine .p rfl rfl (.as rfl) ?_
                  refine .nil (.blk (.code (.keep [(10, _), (0, _), (5, _), (6, _), (9, _), (11, _)] ⟨rfl, rfl, rfl, rfl, rfl, rfl, trivial⟩ (.region ?_))))
                  refine .p rfl rfl (.mv rfl) ?_
                  refine .p rfl rfl (.add rfl rfl (by omega)) ?_
                  refine .p rfl rfl (.as rfl) ?_
                  refine .nil ?_
                  have RZ := tBytes.mono (P' := fun k => ¬ ((B k ∨ w95.heap.size ≤ k) ∧ k < w96.heap.size)) (tBytes.ext0 Rn N95.ext) (fun k hk hlt h => h.1.elim hk (fun h => by omega))
                  have RZ := tBytes.ext RZ Y96 (fun k hk hlt he => hk ⟨he, by omega⟩)
                  have hent : (entT (key, (x :: rr, false))).2 = ((entT (key, (x :: rr, false))).2.1, false) := Prod.ext rfl hfn
                  exact (again (i + 1, acc ++ [(entT (key, (x :: rr, false))).1], (entT (key, (x :: rr, false))).2.1, v5n, r96, (fun k => (B k ∨ w95.heap.size ≤ k) ∧ k < w96.heap.size), w96) ⟨by show i + 1 ≤ N0; omega, by rw [← hloop, show N0 - i = (N0 - (i + 1)) + 1 by omega, loopT_F hne, hT]; simp only; rw [hent], by show (entT (key, (x :: rr, false))).2.1.length ≤ _; omega, by show (acc ++ [_]).length = i + 1; simp [hacc], (fun k hk => ⟨by rcases hk.1 with h | h; exact (hB k h).1; omega, hk.2⟩), RZ, OwnO.mono G96 (fun _ h _ => h) (fun k h hlt => ⟨h, hlt⟩), (hwn.trans N95.ext).then Y96 (fun k h _ => by rcases h with h | h; exact (hB k h).1; omega)⟩ (by show N0 - (i + 1) < N0 - i; omega)).of ⟨rfl, rfl, rfl, rfl, rfl, rfl, trivial⟩
                · intro meet
                  refine .condD rfl (fun c81 => ?_) (fun c81 => ?_)
                  · refine .seq (.keep [(5, _), (15, _), (0, _), (6, _), (9, _), (10, _), (11, _)] ⟨rfl, rfl, rfl, rfl, rfl, rfl, rfl, trivial⟩ (.region ?_))
                    refine .p rfl rfl (.mv rfl) ?_
                    refine .call (first := []) (captured := []) rfl rfl rfl rfl (RefCut_fn (allOf R78)) ?_
                    rintro _ w84 ⟨v84, rfl, G84, X84⟩
                    have z84 := X84.size
                    have hle84 := cutF_le rr
                    obtain ⟨a84, c84, rfl, hc84⟩ := OwnO.val G84
                    have B84 := B15.ext X84 (fun x => x)
                    refine .p rfl rfl (.mv rfl) ?_
                    refine .p rfl rfl (.extract rfl rfl) ?_
                    refine .p rfl rfl (.extract rfl rfl) ?_
                    refine .p rfl rfl (.extract rfl rfl) ?_
                    refine .p rfl rfl (.as rfl) ?_
                    refine .p rfl rfl (.as rfl) ?_
                    refine .p rfl rfl (.as rfl) ?_
                    refine .nil (.code (.seq (.seq (.keep [(18, _), (17, _), (16, _), (15, _), (0, _), (6, _), (9, _), (10, _), (11, _)] ⟨rfl, rfl, rfl, rfl, rfl, rfl, rfl, rfl, rfl, trivial⟩ (.region ?_)))))
                    refine .p rfl rfl (.mv rfl) ?_
                    refine .p rfl rfl (.ne rfl rfl) ?_
                    refine .nil (.code (.keep [(89, _), (17, _), (16, _), (15, _), (0, _), (6, _), (9, _), (10, _), (11, _)] ⟨rfl, rfl, rfl, rfl, rfl, rfl, rfl, rfl, rfl, trivial⟩ ?_))
                    refine .condD rfl (fun c89 => ?_) (fun c89 => ?_)
                    · refine .seq (.keep [] trivial (.region ?_))
                      refine .p rfl rfl (.as rfl) ?_
                      refine .p rfl rfl (.as rfl) ?_
                      refine .p rfl rfl (.as rfl) ?_
                      refine .nil (.code ?_)
                      refine .ret _ rfl ?_
                      rw [readT_none (by rw [hok1]; simp only; rw [hok2]; simp only; rw [← hloop, show N0 - i = (N0 - (i + 1)) + 1 by omega, loopT_F hne, hT, loopT_bad (by rw [entT_0 c81]; exact textP_err c89)])]
                      exact ⟨_, rfl, OwnO.nil, ((hX.trans X60).trans X15).trans X84⟩
                    · refine .skip (.code (.seq (.keep [(17, _), (16, _), (15, _), (0, _), (6, _), (9, _), (10, _), (11, _)] ⟨rfl, rfl, rfl, rfl, rfl, rfl, rfl, rfl, trivial⟩ (.region ?_))))
                      refine .p rfl rfl (.mv rfl) ?_
                      refine .p rfl rfl (.fieldAddr rfl rfl rfl rfl) ?_
                      refine .s rfl (.store rfl rfl rfl rfl rfl B84 (by simp)) ?_
                      intro w91 P91
                      refine .nil (.code (.keep [(17, _), (15, _), (0, _), (6, _), (9, _), (10, _), (11, _)] ⟨rfl, rfl, rfl, rfl, rfl, rfl, rfl, trivial⟩ (.region ?_)))
                      refine .p rfl rfl (.mv rfl) ?_
                      refine .p rfl rfl (.as rfl) ?_
                      refine .nil ?_
                      exact (meet (.slice a84 (cutF rr).2.1.length c84, w91) ⟨by rw [entT_0 c81, textP_ok (Decidable.not_not.1 c89)]; have h9 := P91.blk; rw [decide_eq_false c81] at h9; exact h9, by rw [entT_0 c81, textP_ok (Decidable.not_not.1 c89)], by rw [entT_0 c81, textP_ok (Decidable.not_not.1 c89)]; exact tBytes.mono (tBytes.ext (Gr.rep' G84) P91.ext (fun k hk _ he => by have he : k = w60.heap.size := he; have := hk.1; omega)) (fun k hk _ => hn k (by have := hk.1; omega)), (X84.mono (fun _ _ h => h.elim)).trans (P91.ext.mono (by rintro k _ rfl; exact Nat.le_refl _))⟩).of ⟨rfl, rfl, rfl, rfl, rfl, rfl, rfl, trivial⟩
                  · refine .skip ?_
                    have c81 := Decidable.not_not.1 c81
                    exact (meet (_, w15) ⟨by rw [entT_1 c81]; have h9 := B15; rw [decide_eq_true c81] at h9; exact h9, by rw [entT_1 c81], by rw [entT_1 c81]; exact tBytes.mono R78 (fun k hk _ => hk.1), .refl _⟩).of ⟨rfl, rfl, rfl, rfl, rfl, rfl, rfl, trivial⟩
          · obtain rfl : i = N0 := by omega
            rw [Nat.sub_self, loopT_0, if_neg Bool.false_ne_true] at hloop
            have hRo := OwnO.rep hO (R := All) (fun _ _ _ => trivial) (fun _ h _ => h.elim)
            refine .exit rfl (.code (.seq (.keep [(0, _), (6, _), (10, _)] ⟨rfl, rfl, rfl, trivial⟩ (.region ?_))))
            refine .p rfl rfl (.mv rfl) ?_
            refine .p rfl rfl (.mv rfl) ?_
            refine .p rfl rfl (.convI rfl rfl rfl (by omega)) ?_
            refine .call (first := []) (captured := []) rfl rfl rfl rfl (RefTWrite_fn hRo) ?_
            rintro _ w101 ⟨rfl, X101⟩
            refine .p rfl rfl (.mv rfl) ?_
            refine .p rfl rfl (.extract rfl rfl) ?_
            refine .p rfl rfl (.extract rfl rfl) ?_
            refine .p rfl rfl (.as rfl) ?_
            refine .p rfl rfl (.as rfl) ?_
            refine .nil (.code (.seq (.seq (.keep [(8, _), (19, _), (0, _), (6, _), (10, _)] ⟨rfl, rfl, rfl, rfl, rfl, trivial⟩ (.region ?_)))))
            refine .p rfl rfl (.mv rfl) ?_
            refine .p rfl rfl (.ne rfl rfl) ?_
            refine .p rfl rfl (.mv rfl) ?_
            refine .caseD 106 rfl (fun c106 => ?_) (fun c106 => ?_)
            · refine .skip rfl rfl ?_
              refine .skip rfl rfl ?_
              refine .skip rfl rfl ?_
              refine .p rfl rfl (.pickT rfl rfl) ?_
              refine .nil (.code (.keep [(110, _), (6, _), (10, _)] ⟨rfl, rfl, rfl, trivial⟩ (.condT rfl (.seq (.keep [] trivial (.region ?_))))))
              refine .p rfl rfl (.as rfl) ?_
              refine .p rfl rfl (.as rfl) ?_
              refine .p rfl rfl (.as rfl) ?_
              refine .nil (.code ?_)
              refine .ret _ rfl ?_
              rw [readT_some (l := acc) (by rw [hok1]; simp only; rw [hok2]; exact hloop.symm), hok1, if_pos (.inl c106)]
              exact ⟨_, rfl, OwnO.nil, hX.trans X101⟩
            · refine .p rfl rfl (.mv rfl) ?_
              refine .p rfl rfl (.mv rfl) ?_
              refine .p rfl rfl (.neS rfl rfl) ?_
              refine .p rfl rfl (.pickF rfl rfl) ?_
              refine .nil (.code (.keep [(110, _), (6, _), (10, _)] ⟨rfl, rfl, rfl, trivial⟩ ?_))
              refine .condD rfl (fun c110 => ?_) (fun c110 => ?_)
              · refine .seq (.keep [] trivial (.region ?_))
                refine .p rfl rfl (.as rfl) ?_
                refine .p rfl rfl (.as rfl) ?_
                refine .p rfl rfl (.as rfl) ?_
                refine .nil (.code ?_)
                refine .ret _ rfl ?_
                rw [readT_some (l := acc) (by rw [hok1]; simp only; rw [hok2]; exact hloop.symm), hok1, if_pos (.inr c110)]
                exact ⟨_, rfl, OwnO.nil, hX.trans X101⟩
              · refine .skip (.code (.seq (.keep [(6, _), (10, _)] ⟨rfl, rfl, trivial⟩ (.region ?_))))
                refine .p rfl rfl (.mv rfl) ?_
                refine .p rfl rfl (.mv rfl) ?_
                refine .p rfl rfl (.convI rfl rfl rfl (by omega)) ?_
                refine .p rfl rfl (.as rfl) ?_
                refine .p rfl rfl (.as rfl) ?_
                refine .p rfl rfl (.as rfl) ?_
                refine .nil (.code ?_)
                refine .ret _ rfl ?_
                rw [readT_some (l := acc) (by rw [hok1]; simp only; rw [hok2]; exact hloop.symm), hok1, if_neg (fun h => h.elim c106 c110)]
                exact ⟨_, rfl, OwnO.mono (OwnO.ext0 hO X101) (fun _ h _ => h) (fun k h _ => (hB k h).1), hX.trans X101⟩
end Go.Proofs.Ytlkidbafmgmhdaa
