
/-
  The document's own page.Read.
-/
import Derived.Test.YthkgadhamecnlaaRef08
import Derived.Test.YthkgadhamecnlaaRBRead
import Derived.Test.YthkgadhamecnlaaPRead
import Derived.Test.YthkgadhamecnlaaLaw08d
import Derived.Test.YthkgadhamecnlaaTabOpen
import Derived.Test.YthkgadhamecnlaaRef09
import Derived.Test.YthkgadhamecnlaaRef01b
import Derived.Test.YthkgadhamecnlaaTabAll
import Derived.Test.YthkgadhamecnlaaEntEq
import Derived.Test.YthkgadhamecnlaaLaw08b
set_option linter.unusedVariables false
set_option linter.unusedSimpArgs false
set_option maxRecDepth 20000
namespace Go.Proofs.Ythkgadhamecnlaa
open Go page
namespace page
theorem numP_T {m : Nat} {s : RS} (h : s.2 = true) : (numP m s).2.2 = true := by unfold numP; split; rfl; exact h
theorem textP_T {s : RS} (h : s.2 = true) : (textP s).2.2 = true := by show (s.2 || _) = true; rw [h]; rfl
theorem flagP_T {s : RS} (h : s.2 = true) : (flagP s).2.2 = true := by
  obtain ⟨l, q⟩ := s
  cases l with
  | nil => rfl
  | cons c r => exact h
theorem entR_fail {ahead : Bs} {s : RS} (h : (headR ahead s).2.2.2.2 = true) : (entR ahead s).2.2 = true := by
  unfold entR
  split
  · exact h
  · exact textP_T h
theorem head_fail1 {ahead inn : Bs} (h : ¬ (readF inn).2.2 = 0 ∨ ahead.length < (readF inn).1) : (headR ahead (inn, false)).2.2.2.2 = true := by
  refine flagP_T (numP_T (textP_T ?_))
  unfold numP
  rw [if_pos h]
theorem num_ok {m : Nat} {inn : Bs} {q : Bool} (h : ¬ (¬ (readF inn).2.2 = 0 ∨ m < (readF inn).1)) : numP m (inn, q) = ((readF inn).1, (inn.drop (readF inn).2.1, q)) := by unfold numP; rw [if_neg h]
theorem text_ok {inn : Bs} {q : Bool} (h : (cutF inn).2.2 = 0) : textP (inn, q) = ((cutF inn).1, ((cutF inn).2.1, q)) := by unfold textP; rw [h]; simp
theorem head_fail2 {ahead inn : Bs} (h1 : ¬ (¬ (readF inn).2.2 = 0 ∨ ahead.length < (readF inn).1)) (h2 : ¬ (cutF (inn.drop (readF inn).2.1)).2.2 = 0) : (headR ahead (inn, false)).2.2.2.2 = true := by
  refine flagP_T (numP_T ?_)
  rw [num_ok h1]
  show (false || decide _) = true
  rw [decide_eq_true h2]; rfl
def in2 (inn : Bs) : Bs := (cutF (inn.drop (readF inn).2.1)).2.1
theorem head_mid {ahead inn : Bs} (h1 : ¬ (¬ (readF inn).2.2 = 0 ∨ ahead.length < (readF inn).1)) (h2 : (cutF (inn.drop (readF inn).2.1)).2.2 = 0) : headR ahead (inn, false) = (ahead.take (readF inn).1 ++ (cutF (inn.drop (readF inn).2.1)).1, (numP 2147483647 (in2 inn, false)).1, decide ((flagP (numP 2147483647 (in2 inn, false)).2).1 = 1), (flagP (numP 2147483647 (in2 inn, false)).2).2) := by
  rw [headR_eq, num_ok h1]
  simp only
  rw [text_ok h2]
  rfl
theorem head_fail3 {ahead inn : Bs} (h1 : ¬ (¬ (readF inn).2.2 = 0 ∨ ahead.length < (readF inn).1)) (h2 : (cutF (inn.drop (readF inn).2.1)).2.2 = 0) (h3 : (¬ (readF (in2 inn)).2.2 = 0 ∨ 2147483647 < (readF (in2 inn)).1) ∨ (in2 inn).length = (readF (in2 inn)).2.1) : (headR ahead (inn, false)).2.2.2.2 = true := by
  rw [head_mid h1 h2]
  show (flagP _).2.2 = true
  by_cases h : ¬ (readF (in2 inn)).2.2 = 0 ∨ 2147483647 < (readF (in2 inn)).1
  · refine flagP_T ?_
    unfold numP
    rw [if_pos h]
  · rw [num_ok h]
    have hl := h3.resolve_left h
    simp only
    rw [List.drop_of_length_le (by omega)]
    rfl
theorem head_ok {ahead inn : Bs} (h1 : ¬ (¬ (readF inn).2.2 = 0 ∨ ahead.length < (readF inn).1)) (h2 : (cutF (inn.drop (readF inn).2.1)).2.2 = 0) (h3 : ¬ (¬ (readF (in2 inn)).2.2 = 0 ∨ 2147483647 < (readF (in2 inn)).1)) (h4 : (readF (in2 inn)).2.1 < (in2 inn).length) :
    headR ahead (inn, false) = (ahead.take (readF inn).1 ++ (cutF (inn.drop (readF inn).2.1)).1, (readF (in2 inn)).1, decide ((in2 inn)[(readF (in2 inn)).2.1] = 1), ((in2 inn).drop ((readF (in2 inn)).2.1 + 1), false)) := by
  rw [head_mid h1 h2, num_ok h3]
  simp only
  rw [List.drop_eq_getElem_cons h4]
  rfl
theorem ent_gone {ahead inn : Bs} {k : Bs} {s : Nat} {r : RS} (h : headR ahead (inn, false) = (k, s, true, r)) : entR ahead (inn, false) = (⟨k, [], s, true⟩, r) := by unfold entR; rw [h]; rfl
theorem ent_here {ahead inn : Bs} {k : Bs} {s : Nat} {r : RS} (h : headR ahead (inn, false) = (k, s, false, r)) : entR ahead (inn, false) = (⟨k, (textP r).1, s, false⟩, (textP r).2) := by unfold entR; rw [h]; rfl
def in0 (b : Bs) : Bs := b.take (b.length - 4)
theorem read_size {b : Bs} (h : b.length < 5 ∨ 65536 < b.length) : readE b = ([], 8) := by unfold readE; rw [if_pos (h.elim .inl (fun h => .inr (.inl h)))]
theorem read_num {b : Bs} (h : ¬ (readF (in0 b)).2.2 = 0 ∨ 4096 < (readF (in0 b)).1) : readE b = ([], 8) := by
  by_cases hb : badB b
  · unfold readE; rw [if_pos hb]
  · refine readE_none hb ?_
    have e : numP 4096 (b.take (b.length - 4), false) = (0, (b.take (b.length - 4), true)) := if_pos h
    rw [e]
    rfl
theorem read_fail {b : Bs} (h : ¬ (¬ (readF (in0 b)).2.2 = 0 ∨ 4096 < (readF (in0 b)).1)) (hl : loopR (readF (in0 b)).1 [] [] ((in0 b).drop (readF (in0 b)).2.1, false) = none) : readE b = ([], 8) := by
  by_cases hb : badB b
  · unfold readE; rw [if_pos hb]
  · refine readE_none hb ?_
    have e : numP 4096 (b.take (b.length - 4), false) = _ := num_ok h
    rw [e]
    exact hl
theorem read_end {b : Bs} {l : List Entry} (h : ¬ (¬ (readF (in0 b)).2.2 = 0 ∨ 4096 < (readF (in0 b)).1)) (hl : loopR (readF (in0 b)).1 [] [] ((in0 b).drop (readF (in0 b)).2.1, false) = some l) (hm : ¬ (makeE l).2 = 0 ∨ ¬ (makeE l).1 = b) : readE b = ([], 8) := by
  by_cases hb : badB b
  · unfold readE; rw [if_pos hb]
  · have e : numP 4096 (b.take (b.length - 4), false) = _ := num_ok h
    rw [readE_some (l := l) hb (by rw [e]; exact hl), if_pos hm]
theorem read_made {b : Bs} {l : List Entry} (h1 : (makeE l).2 = 0) (h2 : (makeE l).1 = b) : readE b = (l, 0) := by rw [← h2, make_ok h1]; exact read_page h1
end page
set_option maxHeartbeats 1000000 in
theorem RefPRead_fn {w : World} {v : Value} {b : Bs} (h : tBytes.rep All w v b) : Fn Try.prog 86 [v] w (fun r w2 => ∃ v', r = .tuple #[v', i64 (readE b).2] ∧ OwnO tEntry (fun _ => False) 33 w2 v' (readE b).1 (fun k => w.heap.size ≤ k) ∧ Ext (fun _ => False) w w2) := by
  obtain ⟨a, cap, rfl, hcap⟩ := Sl.val h
  refine Fn.enter (fun w => Try.call86 _ w) Try.func86 rfl ?_
  refine .seq (.region ?_)
  refine .p rfl rfl (.as rfl) ?_
  refine .p rfl rfl (.as rfl) ?_
  refine .nil (.code (.seq (.seq (.keep [(0, _)] ⟨rfl, trivial⟩ (.region ?_)))))
  refine .p rfl rfl (.mv rfl) ?_
  refine .p rfl rfl (.len rfl rfl) ?_
  refine .p rfl rfl (.lt rfl rfl) ?_
  refine .p rfl rfl (.mv rfl) ?_
  refine .caseD 28 rfl (fun c28 => ?_) (fun c28 => ?_)
  · refine .skip rfl rfl ?_
    refine .skip rfl rfl ?_
    refine .skip rfl rfl ?_
    refine .p rfl rfl (.pickT rfl rfl) ?_
    refine .nil (.code (.keep [(32, _), (0, _)] ⟨rfl, rfl, trivial⟩ (.condT rfl (.seq (.keep [] trivial (.region ?_))))))
    refine .p rfl rfl (.as rfl) ?_
    refine .p rfl rfl (.as rfl) ?_
    refine .nil (.code ?_)
    refine .ret _ rfl ?_
    rw [read_size (by omega)]
    exact ⟨_, rfl, OwnO.nil, .refl _⟩
  · refine .p rfl rfl (.mv rfl) ?_
    refine .p rfl rfl (.len rfl rfl) ?_
    refine .p rfl rfl (.gt rfl rfl) ?_
    refine .p rfl rfl (.pickF rfl rfl) ?_
    refine .nil (.code (.keep [(32, _), (0, _)] ⟨rfl, rfl, trivial⟩ ?_))
    refine .condD rfl (fun c32 => ?_) (fun c32 => ?_)
    · refine .seq (.keep [] trivial (.region ?_))
      refine .p rfl rfl (.as rfl) ?_
      refine .p rfl rfl (.as rfl) ?_
      refine .nil (.code ?_)
      refine .ret _ rfl ?_
      rw [read_size (by omega)]
      exact ⟨_, rfl, OwnO.nil, .refl _⟩
    · obtain ⟨a37, c37, hv37, hc37, R37⟩ := Sl.cutH h (b.length - 4) (by omega)
      have R37 : tBytes.rep All w (.slice a37 (b.length - 4) c37) (in0 b) := R37
      have hl0 := Sl.len R37
      refine .skip (.code (.seq (.keep [(0, _)] ⟨rfl, trivial⟩ (.region ?_))))
      refine .p rfl rfl (.mv rfl) ?_
      refine .p rfl rfl (.mv rfl) ?_
      refine .p rfl rfl (.len rfl rfl) ?_
      refine .p rfl rfl (.sub rfl rfl (by omega)) ?_
      refine .p rfl rfl (.cast (.cutHi (s := 1) rfl rfl rfl rfl (by omega)) (show cutV 1 a cap 0 ((b.length : Int) - 4).toNat = .slice a37 (b.length - 4) c37 by rw [show ((b.length : Int) - 4).toNat = b.length - 4 by omega]; exact hv37)) ?_
      refine .p rfl rfl (.as rfl) ?_
      refine .nil (.code (.seq (.keep [(4, _), (0, _)] ⟨rfl, rfl, trivial⟩ (.region ?_))))
      refine .p rfl rfl (.mv rfl) ?_
      refine .call (first := []) (captured := []) rfl rfl rfl rfl (RefRead_fn R37) ?_
      rintro _ w40 ⟨rfl, X40⟩
      obtain ⟨hr1, hr2⟩ := readF_bd (in0 b)
      refine .p rfl rfl (.mv rfl) ?_
      refine .p rfl rfl (.extract rfl rfl) ?_
      refine .p rfl rfl (.extract rfl rfl) ?_
      refine .p rfl rfl (.extract rfl rfl) ?_
      refine .p rfl rfl (.as rfl) ?_
      refine .p rfl rfl (.as rfl) ?_
      refine .p rfl rfl (.as rfl) ?_
      refine .nil (.code (.seq (.seq (.keep [(7, _), (6, _), (5, _), (4, _), (0, _)] ⟨rfl, rfl, rfl, rfl, rfl, trivial⟩ (.region ?_)))))
      refine .p rfl rfl (.mv rfl) ?_
      refine .p rfl rfl (.ne rfl rfl) ?_
      refine .p rfl rfl (.mv rfl) ?_
      refine .caseD 46 rfl (fun c46 => ?_) (fun c46 => ?_)
      · refine .skip rfl rfl ?_
        refine .skip rfl rfl ?_
        refine .p rfl rfl (.pickT rfl rfl) ?_
        refine .nil (.code (.keep [(49, _), (6, _), (5, _), (4, _), (0, _)] ⟨rfl, rfl, rfl, rfl, rfl, trivial⟩ (.condT rfl (.seq (.keep [] trivial (.region ?_))))))
        refine .p rfl rfl (.as rfl) ?_
        refine .p rfl rfl (.as rfl) ?_
        refine .nil (.code ?_)
        refine .ret _ rfl ?_
        rw [read_num (.inl c46)]
        exact ⟨_, rfl, OwnO.nil, X40⟩
      · refine .p rfl rfl (.mv rfl) ?_
        refine .p rfl rfl (.gt rfl rfl) ?_
        refine .p rfl rfl (.pickF rfl rfl) ?_
        refine .nil (.code (.keep [(49, _), (6, _), (5, _), (4, _), (0, _)] ⟨rfl, rfl, rfl, rfl, rfl, trivial⟩ ?_))
        refine .condD rfl (fun c49 => ?_) (fun c49 => ?_)
        · refine .seq (.keep [] trivial (.region ?_))
          refine .p rfl rfl (.as rfl) ?_
          refine .p rfl rfl (.as rfl) ?_
          refine .nil (.code ?_)
          refine .ret _ rfl ?_
          rw [read_num (.inr (by omega))]
          exact ⟨_, rfl, OwnO.nil, X40⟩
        · have hnm : ¬ (¬ (readF (in0 b)).2.2 = 0 ∨ 4096 < (readF (in0 b)).1) := by rintro (x | x); exact c46 x; omega
          obtain ⟨a52, c52, hv52, hc52, R52⟩ := Sl.cutL R37 (readF (in0 b)).2.1 (by omega)
          have hdl : ((in0 b).drop (readF (in0 b)).2.1).length ≤ b.length := by rw [List.length_drop]; omega
          refine .skip (.code (.seq (.keep [(6, _), (5, _), (4, _), (0, _)] ⟨rfl, rfl, rfl, rfl, trivial⟩ (.region ?_))))
          refine .p rfl rfl (.mv rfl) ?_
          refine .p rfl rfl (.mv rfl) ?_
          refine .p rfl rfl (.cast (.cutLo (s := 1) rfl rfl rfl rfl (by omega)) (show cutV 1 a37 c37 (((readF (in0 b)).2.1 : Nat) : Int).toNat (b.length - 4) = _ from hv52)) ?_
          refine .p rfl rfl (.as rfl) ?_
          refine .nil (.code (.seq (.keep [(4, _), (5, _), (0, _)] ⟨rfl, rfl, rfl, trivial⟩ (.region ?_))))
          refine .p rfl rfl (.as rfl) ?_
          refine .nil (.code (.seq (.region ?_)))
          refine .p rfl rfl (.as rfl) ?_
          refine .nil (.code (.seq (.seq (.region ?_))))
          refine .p rfl rfl (.as rfl) ?_
          refine .nil (.code (.block ?_))
          refine .loop (S := Nat × Bs × Bs × List Entry × Value × Value × (Nat → Prop) × World) (fun s => [(0, .slice a b.length cap), (4, s.2.2.2.2.1), (5, .int .u64 (((readF (in0 b)).1 : Nat) : Int)), (8, s.2.2.2.2.2.1), (9, str s.2.1), (10, i64 s.1)]) (fun s => s.2.2.2.2.2.2.2) (fun s => s.1 ≤ (readF (in0 b)).1 ∧ loopR (readF (in0 b)).1 [] [] ((in0 b).drop (readF (in0 b)).2.1, false) = loopR ((readF (in0 b)).1 - s.1) s.2.1 s.2.2.2.1 (s.2.2.1, false) ∧ s.2.1.length + s.2.2.1.length ≤ b.length ∧ s.2.2.2.1.length ≤ s.1 ∧ (∀ k, s.2.2.2.2.2.2.1 k → w.heap.size ≤ k ∧ k < s.2.2.2.2.2.2.2.heap.size) ∧ tBytes.rep (fun k => ¬ s.2.2.2.2.2.2.1 k) s.2.2.2.2.2.2.2 s.2.2.2.2.1 s.2.2.1 ∧ OwnO tEntry (fun _ => False) 33 s.2.2.2.2.2.2.2 s.2.2.2.2.2.1 s.2.2.2.1 s.2.2.2.2.2.2.1 ∧ Ext (fun _ => False) w s.2.2.2.2.2.2.2) (fun s => (readF (in0 b)).1 - s.1) (0, [], (in0 b).drop (readF (in0 b)).2.1, [], _, _, (fun _ => False), w40) ⟨rfl, rfl, rfl, rfl, rfl, rfl, trivial⟩ rfl ⟨Nat.zero_le _, rfl, by show 0 + ((in0 b).drop (readF (in0 b)).2.1).length ≤ b.length; omega, Nat.le_refl _, fun _ h => h.elim, tBytes.mono (tBytes.ext0 R52 X40) (fun _ _ _ h => h), OwnO.nil, X40⟩ ?_
          rintro ⟨i, last, inn, acc, v4, v8, B, wi⟩ J ⟨hi', hlp, hll, hal, hBb, hin, hO, hX⟩ again
          simp only at hi' hlp hll hal hBb hin hO hX
          have zwi := hX.size
          change G _ [(0, .slice a b.length cap), (4, v4), (5, .int .u64 (((readF (in0 b)).1 : Nat) : Int)), (8, v8), (9, str last), (10, i64 i)] _ _ wi
          refine .seq (.seq (.region ?_))
          refine .p rfl rfl (.mv rfl) ?_
          refine .p rfl rfl (.mv rfl) ?_
          refine .p rfl rfl (.convI rfl rfl rfl (by omega)) ?_
          refine .p rfl rfl (.lt rfl rfl) ?_
          refine .nil (.code (.keep [(56, _), (0, _), (4, _), (5, _), (8, _), (9, _), (10, _)] ⟨rfl, rfl, rfl, rfl, rfl, rfl, rfl, trivial⟩ ?_))
          refine .condD rfl (fun c56 => ?_) (fun c56 => ?_)
          · have hi : i < (readF (in0 b)).1 := by omega
            obtain ⟨a4, c4, rfl, hc4⟩ := Sl.val hin
            have hm : (readF (in0 b)).1 - i = ((readF (in0 b)).1 - (i + 1)) + 1 := by omega
            refine .skip (.code (.seq (.block (.seq (.keep [(0, _), (4, _), (5, _), (8, _), (9, _), (10, _)] ⟨rfl, rfl, rfl, rfl, rfl, rfl, trivial⟩ (.region ?_))))))
            refine .p rfl rfl (.mv rfl) ?_
            refine .call (first := []) (captured := []) rfl rfl rfl rfl (RefRead_fn (tBytes.mono hin (fun _ _ _ => trivial))) ?_
            rintro _ w61 ⟨rfl, X61⟩
            obtain ⟨hp1, hp2⟩ := readF_bd inn
            refine .p rfl rfl (.mv rfl) ?_
            refine .p rfl rfl (.extract rfl rfl) ?_
            refine .p rfl rfl (.extract rfl rfl) ?_
            refine .p rfl rfl (.extract rfl rfl) ?_
            refine .p rfl rfl (.as rfl) ?_
            refine .p rfl rfl (.as rfl) ?_
            refine .p rfl rfl (.as rfl) ?_
            refine .nil (.code (.seq (.seq (.keep [(13, _), (12, _), (11, _), (0, _), (4, _), (5, _), (8, _), (9, _), (10, _)] ⟨rfl, rfl, rfl, rfl, rfl, rfl, rfl, rfl, rfl, trivial⟩ (.region ?_)))))
            refine .p rfl rfl (.mv rfl) ?_
            refine .p rfl rfl (.ne rfl rfl) ?_
            refine .p rfl rfl (.mv rfl) ?_
            refine .caseD 67 rfl (fun c67 => ?_) (fun c67 => ?_)
            · refine .skip rfl rfl ?_
              refine .skip rfl rfl ?_
              refine .skip rfl rfl ?_
              refine .skip rfl rfl ?_
              refine .skip rfl rfl ?_
              refine .p rfl rfl (.pickT rfl rfl) ?_
              refine .nil (.code (.keep [(73, _), (12, _), (11, _), (0, _), (4, _), (5, _), (8, _), (9, _), (10, _)] ⟨rfl, rfl, rfl, rfl, rfl, rfl, rfl, rfl, rfl, trivial⟩ (.condT rfl (.seq (.keep [] trivial (.region ?_))))))
              refine .p rfl rfl (.as rfl) ?_
              refine .p rfl rfl (.as rfl) ?_
              refine .nil (.code ?_)
              refine .ret _ rfl ?_
              rw [read_fail hnm (by rw [hlp, hm, loopR_T (entR_fail (head_fail1 (.inl c67)))])]
              exact ⟨_, rfl, OwnO.nil, hX.trans X61⟩
            · refine .p rfl rfl (.mv rfl) ?_
              refine .p rfl rfl (.mv rfl) ?_
              refine .p rfl rfl (.lenS rfl rfl) ?_
              refine .p rfl rfl (.convU rfl rfl rfl (by omega)) ?_
              refine .p rfl rfl (.gt rfl rfl) ?_
              refine .p rfl rfl (.pickF rfl rfl) ?_
              refine .nil (.code (.keep [(73, _), (12, _), (11, _), (0, _), (4, _), (5, _), (8, _), (9, _), (10, _)] ⟨rfl, rfl, rfl, rfl, rfl, rfl, rfl, rfl, rfl, trivial⟩ ?_))
              refine .condD rfl (fun c73 => ?_) (fun c73 => ?_)
              · refine .seq (.keep [] trivial (.region ?_))
                refine .p rfl rfl (.as rfl) ?_
                refine .p rfl rfl (.as rfl) ?_
                refine .nil (.code ?_)
                refine .ret _ rfl ?_
                rw [read_fail hnm (by rw [hlp, hm, loopR_T (entR_fail (head_fail1 (.inr (by omega))))])]
                exact ⟨_, rfl, OwnO.nil, hX.trans X61⟩
              · have hh1 : ¬ (¬ (readF inn).2.2 = 0 ∨ last.length < (readF inn).1) := by rintro (x | x); exact c67 x; omega
                obtain ⟨a77, c77, hv77, hc77, R77⟩ := Sl.cutL hin (readF inn).2.1 hp2
                refine .skip (.code (.seq (.keep [(12, _), (11, _), (0, _), (4, _), (5, _), (8, _), (9, _), (10, _)] ⟨rfl, rfl, rfl, rfl, rfl, rfl, rfl, rfl, trivial⟩ (.region ?_))))
                refine .p rfl rfl (.mv rfl) ?_
                refine .p rfl rfl (.mv rfl) ?_
                refine .p rfl rfl (.cast (.cutLo (s := 1) rfl rfl rfl rfl (by omega)) (show cutV 1 a4 c4 (((readF inn).2.1 : Nat) : Int).toNat inn.length = _ from hv77)) ?_
                refine .call (first := []) (captured := []) rfl rfl rfl rfl (RefCut_fn (tBytes.mono (tBytes.ext0 R77 X61) (fun _ _ _ => trivial))) ?_
                rintro _ w78 ⟨v78, rfl, G78, X78⟩
                have G78 : Gr w78 v78 (in2 inn) w61.heap.size := G78
                obtain ⟨a78, c78, rfl, hc78⟩ := OwnO.val G78
                have hcl := cutF_le (inn.drop (readF inn).2.1)
                rw [List.length_drop] at hcl
                have hcl : (cutF (inn.drop (readF inn).2.1)).1.length + (in2 inn).length ≤ inn.length - (readF inn).2.1 := hcl
                refine .p rfl rfl (.mv rfl) ?_
                refine .p rfl rfl (.extract rfl rfl) ?_
                refine .p rfl rfl (.extract rfl rfl) ?_
                refine .p rfl rfl (.extract rfl rfl) ?_
                refine .p rfl rfl (.as rfl) ?_
                refine .p rfl rfl (.as rfl) ?_
                refine .p rfl rfl (.as rfl) ?_
                refine .nil (.code (.seq (.seq (.keep [(16, _), (15, _), (14, _), (11, _), (0, _), (5, _), (8, _), (9, _), (10, _)] ⟨rfl, rfl, rfl, rfl, rfl, rfl, rfl, rfl, rfl, trivial⟩ (.region ?_)))))
                refine .p rfl rfl (.mv rfl) ?_
                refine .p rfl rfl (.ne rfl rfl) ?_
                refine .nil (.code (.keep [(83, _), (15, _), (14, _), (11, _), (0, _), (5, _), (8, _), (9, _), (10, _)] ⟨rfl, rfl, rfl, rfl, rfl, rfl, rfl, rfl, rfl, trivial⟩ ?_))
                refine .condD rfl (fun c83 => ?_) (fun c83 => ?_)
                · refine .seq (.keep [] trivial (.region ?_))
                  refine .p rfl rfl (.as rfl) ?_
                  refine .p rfl rfl (.as rfl) ?_
                  refine .nil (.code ?_)
                  refine .ret _ rfl ?_
                  rw [read_fail hnm (by rw [hlp, hm, loopR_T (entR_fail (head_fail2 hh1 c83))])]
                  exact ⟨_, rfl, OwnO.nil, (hX.trans X61).trans X78⟩
                · have hh2 : (cutF (inn.drop (readF inn).2.1)).2.2 = 0 := Decidable.not_not.1 c83
                  refine .skip (.code (.seq (.keep [(15, _), (14, _), (11, _), (0, _), (5, _), (8, _), (9, _), (10, _)] ⟨rfl, rfl, rfl, rfl, rfl, rfl, rfl, rfl, trivial⟩ (.region ?_))))
                  refine .p rfl rfl (.mv rfl) ?_
                  refine .call (first := []) (captured := []) rfl rfl rfl rfl (RefRead_fn (Gr.rep G78)) ?_
                  rintro _ w86 ⟨rfl, X86⟩
                  obtain ⟨hs1, hs2⟩ := readF_bd (in2 inn)
                  have Xi := (X61.trans X78).trans X86
                  refine .p rfl rfl (.mv rfl) ?_
                  refine .p rfl rfl (.extract rfl rfl) ?_
                  refine .p rfl rfl (.extract rfl rfl) ?_
                  refine .p rfl rfl (.extract rfl rfl) ?_
                  refine .p rfl rfl (.as rfl) ?_
                  refine .p rfl rfl (.as rfl) ?_
                  refine .p rfl rfl (.as rfl) ?_
                  refine .nil (.code (.seq (.seq (.keep [(19, _), (18, _), (17, _), (15, _), (14, _), (11, _), (0, _), (5, _), (8, _), (9, _), (10, _)] ⟨rfl, rfl, rfl, rfl, rfl, rfl, rfl, rfl, rfl, rfl, rfl, trivial⟩ (.region ?_)))))
                  refine .p rfl rfl (.mv rfl) ?_
                  refine .p rfl rfl (.ne rfl rfl) ?_
                  refine .p rfl rfl (.mv rfl) ?_
                  refine .caseD 92 rfl (fun c92 => ?_) (fun c92 => ?_)
                  · refine .skip rfl rfl ?_
                    refine .skip rfl rfl ?_
                    refine .p rfl rfl (.pickT rfl rfl) ?_
                    refine .p rfl rfl (.mv rfl) ?_
                    refine .skip rfl rfl ?_
                    refine .skip rfl rfl ?_
                    refine .skip rfl rfl ?_
                    refine .skip rfl rfl ?_
                    refine .p rfl rfl (.pickT rfl rfl) ?_
                    refine .nil (.code (.keep [(101, _), (18, _), (17, _), (15, _), (14, _), (11, _), (0, _), (5, _), (8, _), (9, _), (10, _)] ⟨rfl, rfl, rfl, rfl, rfl, rfl, rfl, rfl, rfl, rfl, rfl, trivial⟩ (.condT rfl (.seq (.keep [] trivial (.region ?_))))))
                    refine .p rfl rfl (.as rfl) ?_
                    refine .p rfl rfl (.as rfl) ?_
                    refine .nil (.code ?_)
                    refine .ret _ rfl ?_
                    rw [read_fail hnm (by rw [hlp, hm, loopR_T (entR_fail (head_fail3 hh1 hh2 (.inl (.inl c92))))])]
                    exact ⟨_, rfl, OwnO.nil, hX.trans Xi⟩
                  · refine .p rfl rfl (.mv rfl) ?_
                    refine .p rfl rfl (.gt rfl rfl) ?_
                    refine .p rfl rfl (.pickF rfl rfl) ?_
                    refine .p rfl rfl (.mv rfl) ?_
                    refine .caseD 96 rfl (fun c96 => ?_) (fun c96 => ?_)
                    · refine .skip rfl rfl ?_
                      refine .skip rfl rfl ?_
                      refine .skip rfl rfl ?_
                      refine .skip rfl rfl ?_
                      refine .p rfl rfl (.pickT rfl rfl) ?_
                      refine .nil (.code (.keep [(101, _), (18, _), (17, _), (15, _), (14, _), (11, _), (0, _), (5, _), (8, _), (9, _), (10, _)] ⟨rfl, rfl, rfl, rfl, rfl, rfl, rfl, rfl, rfl, rfl, rfl, trivial⟩ (.condT rfl (.seq (.keep [] trivial (.region ?_))))))
                      refine .p rfl rfl (.as rfl) ?_
                      refine .p rfl rfl (.as rfl) ?_
                      refine .nil (.code ?_)
                      refine .ret _ rfl ?_
                      rw [read_fail hnm (by rw [hlp, hm, loopR_T (entR_fail (head_fail3 hh1 hh2 (.inl (.inr (by omega)))))])]
                      exact ⟨_, rfl, OwnO.nil, hX.trans Xi⟩
                    · refine .p rfl rfl (.mv rfl) ?_
                      refine .p rfl rfl (.len rfl rfl) ?_
                      refine .p rfl rfl (.mv rfl) ?_
                      refine .p rfl rfl (.eq rfl rfl) ?_
                      refine .p rfl rfl (.pickF rfl rfl) ?_
                      refine .nil (.code (.keep [(101, _), (18, _), (17, _), (15, _), (14, _), (11, _), (0, _), (5, _), (8, _), (9, _), (10, _)] ⟨rfl, rfl, rfl, rfl, rfl, rfl, rfl, rfl, rfl, rfl, rfl, trivial⟩ ?_))
                      refine .condD rfl (fun c101 => ?_) (fun c101 => ?_)
                      · refine .seq (.keep [] trivial (.region ?_))
                        refine .p rfl rfl (.as rfl) ?_
                        refine .p rfl rfl (.as rfl) ?_
                        refine .nil (.code ?_)
                        refine .ret _ rfl ?_
                        rw [read_fail hnm (by rw [hlp, hm, loopR_T (entR_fail (head_fail3 hh1 hh2 (.inr (by omega))))])]
                        exact ⟨_, rfl, OwnO.nil, hX.trans Xi⟩
                      · have hh3 : ¬ (¬ (readF (in2 inn)).2.2 = 0 ∨ 2147483647 < (readF (in2 inn)).1) := by rintro (x | x); exact c92 x; omega
                        have hh4 : (readF (in2 inn)).2.1 < (in2 inn).length := by omega
                        have hH := head_ok hh1 hh2 hh3 hh4
                        obtain ⟨a119, c119, hv119, hc119, R119⟩ := Sl.cutL (Gr.rep' G78) ((readF (in2 inn)).2.1 + 1) (by omega)
                        refine .skip (.code (.seq (.keep [(18, _), (17, _), (15, _), (14, _), (11, _), (0, _), (5, _), (8, _), (9, _), (10, _)] ⟨rfl, rfl, rfl, rfl, rfl, rfl, rfl, rfl, rfl, rfl, trivial⟩ (.mix (fun _ => False) [14, 15] (by kernel_rfl) (by kernel_rfl) (by kernel_rfl) ?_))))
                        refine .p rfl rfl rfl (fun wx hx => .mv rfl) ?_
                        refine .p rfl rfl rfl (fun wx hx => .mv rfl) ?_
                        refine .p rfl rfl rfl (fun wx hx => .convI rfl rfl rfl (by omega)) ?_
                        refine .p rfl rfl rfl (fun wx hx => .cast (.cutSHi rfl rfl rfl (by omega)) (show _ = str (last.take (readF inn).1) by rw [Int.toNat_natCast])) ?_
                        refine .p rfl rfl rfl (fun wx hx => .mv rfl) ?_
                        refine .p rfl rfl rfl (fun wx hx => .addS rfl rfl (by rw [List.length_take]; omega)) ?_
                        refine .p rfl rfl rfl (fun wx hx => .mv rfl) ?_
                        obtain ⟨bq, oq, cq, uq, eq, _, hcsq, hreq⟩ := Sl.at (tBytes.ext0 (Gr.rep G78) X86) (i := (readF (in2 inn)).2.1) (List.getElem?_eq_getElem (by omega))
                        injection eq with ea _ _
                        subst ea
                        cases hreq
                        refine .p rfl rfl rfl (fun wx hx => .convI rfl rfl rfl (by omega)) ?_
                        refine .p rfl rfl rfl (fun wx hx => .mv rfl) ?_
                        refine .p rfl rfl rfl (fun wx hx => .mv rfl) ?_
                        refine .p rfl rfl rfl (fun wx hx => .indexAddr1 rfl rfl rfl rfl (by omega)) ?_
                        refine .p rfl rfl rfl (fun wx hx => .load rfl rfl rfl (cell_at rfl (hcsq.ext hx (fun x => x)) rfl)) ?_
                        refine .p rfl rfl rfl (fun wx hx => .cast (.eq rfl rfl) (show Value.bool (decide (((in2 inn)[(readF (in2 inn)).2.1].toNat : Int) = 1)) = Value.bool (decide ((in2 inn)[(readF (in2 inn)).2.1] = 1)) from congrArg Value.bool (decide_eq_decide.2 ⟨fun hh => UInt8.toNat_inj.1 (by show _ = 1; omega), fun hh => by rw [hh]; rfl⟩))) ?_
                        refine .p rfl rfl rfl (fun wx hx => .build (cs := [str (last.take (readF inn).1 ++ (cutF (inn.drop (readF inn).2.1)).1), str [], i64 (((readF (in2 inn)).1 : Nat) : Int), .bool (decide ((in2 inn)[(readF (in2 inn)).2.1] = 1))]) rfl (fun _ => by kernel_rfl)) ?_
                        refine .v rfl rfl rfl (.alloc rfl rfl) (by rintro _ _ ⟨_, hN⟩; exact hN.ext0) ?_
                        rintro _ w20 ⟨rfl, N20⟩
                        refine .s rfl rfl (.storeAll (n := 4) rfl rfl rfl rfl rfl N20.blk rfl) (by intro _ hP; exact N20.ext.then hP.ext (by rintro k rfl _; exact Nat.le_refl _)) ?_
                        intro w20b P20
                        have X20 := N20.ext.then P20.ext (by rintro k rfl _; exact Nat.le_refl _)
                        have B20 := P20.blk
                        refine .nil (.code (.seq (.keep [(20, _), (18, _), (15, _), (0, _), (5, _), (8, _), (10, _)] ⟨rfl, rfl, rfl, rfl, rfl, rfl, rfl, trivial⟩ (.region ?_))))
                        refine .p rfl rfl (.mv rfl) ?_
                        refine .p rfl rfl (.mv rfl) ?_
                        refine .p rfl rfl (.add rfl rfl (by omega)) ?_
                        refine .p rfl rfl (.cast (.cutLo (s := 1) rfl rfl rfl rfl (by omega)) (show cutV 1 (some ⟨bq, oq, none⟩) c78 ((((readF (in2 inn)).2.1 : Nat) : Int) + 1).toNat (in2 inn).length = _ from hv119)) ?_
                        refine .p rfl rfl (.as rfl) ?_
                        refine .nil (.code (.seq (.seq (.keep [(4, _), (20, _), (0, _), (5, _), (8, _), (10, _)] ⟨rfl, rfl, rfl, rfl, rfl, rfl, trivial⟩ (.region ?_)))))
                        refine .p rfl rfl (.fieldAddr rfl rfl rfl rfl) ?_
                        refine .p rfl rfl (.load rfl rfl rfl (B20.cell 3)) ?_
                        refine .p rfl rfl (.notD rfl) ?_
                        refine .nil (.code (.keep [(122, _), (4, _), (20, _), (0, _), (5, _), (8, _), (10, _)] ⟨rfl, rfl, rfl, rfl, rfl, rfl, rfl, trivial⟩ ?_))
                        refine .meet (S := Entry × Bs × Value × World) (fun s => [(0, .slice a b.length cap), (5, .int .u64 (((readF (in0 b)).1 : Nat) : Int)), (8, v8), (10, i64 i), (4, s.2.2.1), (20, .pointer (some ⟨w86.heap.size, 0, none⟩))]) (fun s => s.2.2.2) (fun s => entR last (inn, false) = (s.1, (s.2.1, false)) ∧ s.1.key.length + s.2.1.length ≤ last.length + inn.length ∧ s.1.value.length ≤ b.length ∧ 0 ≤ s.1.seq ∧ s.1.seq ≤ 2147483647 ∧ tBytes.rep (fun k => wi.heap.size ≤ k ∧ k < s.2.2.2.heap.size) s.2.2.2 s.2.2.1 s.2.1 ∧ Blk s.2.2.2 w86.heap.size 33 [str s.1.key, str s.1.value, i64 s.1.seq, .bool s.1.gone] ∧ Ext (fun _ => False) wi s.2.2.2) ?_ ?_
                        · rintro ⟨x, inn2, v4, wm⟩ ⟨hent, hxl, hxv, hx0, hx1, Rm, Bm, Xm⟩
                          simp only at hent hxl hxv hx0 hx1 Rm Bm Xm
                          have zwm : w86.heap.size < wm.heap.size := Bm.lt
                          have zwi86 := Xi.size
                          refine .code (.seq (.region ?_))
                          refine .p rfl rfl (.mv rfl) ?_
                          refine .p rfl rfl (.loadA (n := 4) rfl rfl rfl rfl rfl Bm.cells) ?_
                          refine .v rfl rfl (.lits rfl rfl (fun _ => by kernel_rfl)) ?_
                          rintro _ w136 ⟨rfl, N136⟩
                          have z136 : w136.heap.size = wm.heap.size + 1 := N136.size
                          refine .v rfl rfl (.appendLo (t := tEntry) (Q := fun _ => False) (xs := acc) (ys := [x]) (B := fun k => B k ∨ w136.heap.size ≤ k) (eb := 48) rfl (OwnO.mono (OwnO.ext0 (OwnO.ext0 hO Xm) N136.ext) (fun _ h _ => h) (fun k h _ => .inl h)) (fun k hk => .inr hk) rfl (.inr (New.holds (t := tEntry) (us := [_]) (xs := [x]) N136 (.cons (tEntry.mk (x := x) (by simp only [Lim]; omega) (by simp only [Lim]; omega) (by omega)) .nil) rfl)) rfl rfl rfl rfl rfl rfl rfl (by simp; omega) (by simp [Lim]; omega) (fun _ h _ => h.elim)) ?_
                          rintro r137 w137 ⟨O137, Y137⟩
                          have zXm := Xm.size
                          have z137 := Y137.size
                          have z86m := zwm
                          have RMY : tBytes.rep (fun k => ¬ (B k ∨ (w136.heap.size ≤ k ∧ k < w137.heap.size))) w137 _ inn2 := tBytes.mono (tBytes.ext (tBytes.ext0 Rm N136.ext) Y137 (fun k hk _ hB => by have hk : wi.heap.size ≤ k ∧ k < wm.heap.size := hk; rcases hB with hB | hB; (have := hBb k hB; omega); omega)) (fun k hk _ hB => by have hk : wi.heap.size ≤ k ∧ k < wm.heap.size := hk; rcases hB with hB | hB; (have := hBb k hB; omega); omega)
                          refine .p rfl rfl (.as rfl) ?_
                          refine .nil (.code (.keep [(8, _), (0, _), (5, _), (10, _), (4, _), (20, _)] ⟨rfl, rfl, rfl, rfl, rfl, rfl, trivial⟩ (.region ?_)))
                          refine .p rfl rfl (.fieldAddr rfl rfl rfl rfl) ?_
                          refine .p rfl rfl (.load rfl rfl rfl (((Bm.ext N136.ext (fun x => x)).ext Y137 (fun hh => by rcases hh with hh | hh; (have := hBb _ hh; omega); omega)).cell 0)) ?_
                          refine .p rfl rfl (.as rfl) ?_
                          refine .nil (.blk (.code (.keep [(9, _), (8, _), (0, _), (5, _), (10, _), (4, _)] ⟨rfl, rfl, rfl, rfl, rfl, rfl, trivial⟩ (.region ?_))))
                          refine .p rfl rfl (.mv rfl) ?_
                          refine .p rfl rfl (.add rfl rfl (by omega)) ?_
                          refine .p rfl rfl (.as rfl) ?_
                          refine .nil ?_
                          exact (again (i + 1, x.key, inn2, acc ++ [x], _, r137, (fun k => B k ∨ (w136.heap.size ≤ k ∧ k < w137.heap.size)), w137) ⟨by show i + 1 ≤ _; omega, by rw [hlp, hm, loopR_F (by rw [hent]), hent], by show x.key.length + inn2.length ≤ _; omega, by show (acc ++ [x]).length ≤ i + 1; rw [List.length_append]; exact Nat.succ_le_succ hal, fun k h => by
                              show _ ∧ k < w137.heap.size
                              rcases h with h | h
                              · have := hBb k h; omega
                              · omega, RMY, OwnO.mono O137 (fun _ h _ => h) (fun k h hk => h.imp id (fun h => ⟨h, hk⟩)), ((hX.trans Xm).trans N136.ext).then Y137 (fun k h _ => by rcases h with h | h; exact (hBb k h).1; omega)⟩ (by show _ - (i + 1) < _ - i; omega)).of ⟨rfl, rfl, rfl, rfl, rfl, rfl, trivial⟩
                        · intro meet
                          refine .condD rfl (fun c122 => ?_) (fun c122 => ?_)
                          · refine .seq (.keep [(4, _), (20, _), (0, _), (5, _), (8, _), (10, _)] ⟨rfl, rfl, rfl, rfl, rfl, rfl, trivial⟩ (.region ?_))
                            refine .p rfl rfl (.mv rfl) ?_
                            refine .call (first := []) (captured := []) rfl rfl rfl rfl (RefCut_fn (tBytes.mono (tBytes.ext0 R119 (X86.trans X20)) (fun _ _ _ => trivial))) ?_
                            rintro _ w125 ⟨v125, rfl, G125, X125⟩
                            obtain ⟨a125, c125, rfl, hc125⟩ := OwnO.val G125
                            have hcl3 := cutF_le ((in2 inn).drop ((readF (in2 inn)).2.1 + 1))
                            rw [List.length_drop] at hcl3
                            refine .p rfl rfl (.mv rfl) ?_
                            refine .p rfl rfl (.extract rfl rfl) ?_
                            refine .p rfl rfl (.extract rfl rfl) ?_
                            refine .p rfl rfl (.extract rfl rfl) ?_
                            refine .p rfl rfl (.as rfl) ?_
                            refine .p rfl rfl (.as rfl) ?_
                            refine .p rfl rfl (.as rfl) ?_
                            refine .nil (.code (.seq (.seq (.keep [(23, _), (22, _), (21, _), (20, _), (0, _), (5, _), (8, _), (10, _)] ⟨rfl, rfl, rfl, rfl, rfl, rfl, rfl, rfl, trivial⟩ (.region ?_)))))
                            refine .p rfl rfl (.mv rfl) ?_
                            refine .p rfl rfl (.ne rfl rfl) ?_
                            refine .nil (.code (.keep [(130, _), (22, _), (21, _), (20, _), (0, _), (5, _), (8, _), (10, _)] ⟨rfl, rfl, rfl, rfl, rfl, rfl, rfl, rfl, trivial⟩ ?_))
                            refine .condD rfl (fun c130 => ?_) (fun c130 => ?_)
                            · refine .seq (.keep [] trivial (.region ?_))
                              refine .p rfl rfl (.as rfl) ?_
                              refine .p rfl rfl (.as rfl) ?_
                              refine .nil (.code ?_)
                              refine .ret _ rfl ?_
                              have hg := decide_eq_false c122
                              rw [hg] at hH
                              have hen := ent_here hH
                              rw [read_fail hnm (by rw [hlp, hm, loopR_T (by rw [hen]; show (false || decide _) = true; rw [decide_eq_true c130]; rfl)])]
                              exact ⟨_, rfl, OwnO.nil, ((hX.trans Xi).trans X20).trans X125⟩
                            · have hh5 : (cutF ((in2 inn).drop ((readF (in2 inn)).2.1 + 1))).2.2 = 0 := Decidable.not_not.1 c130
                              refine .skip (.code (.seq (.keep [(22, _), (21, _), (20, _), (0, _), (5, _), (8, _), (10, _)] ⟨rfl, rfl, rfl, rfl, rfl, rfl, rfl, trivial⟩ (.region ?_))))
                              refine .p rfl rfl (.mv rfl) ?_
                              refine .p rfl rfl (.fieldAddr rfl rfl rfl rfl) ?_
                              refine .s rfl (.store rfl rfl rfl rfl rfl (B20.ext X125 (fun x => x)) (by simp)) ?_
                              intro w28 P28
                              refine .nil (.code (.keep [(22, _), (20, _), (0, _), (5, _), (8, _), (10, _)] ⟨rfl, rfl, rfl, rfl, rfl, rfl, trivial⟩ (.region ?_)))
                              refine .p rfl rfl (.mv rfl) ?_
                              refine .p rfl rfl (.as rfl) ?_
                              refine .nil ?_
                              have hg := decide_eq_false c122
                              rw [hg] at hH
                              have hen := ent_here hH
                              rw [text_ok hh5] at hen
                              have B28 := P28.blk
                              rw [hg] at B28
                              exact (meet (⟨last.take (readF inn).1 ++ (cutF (inn.drop (readF inn).2.1)).1, (cutF ((in2 inn).drop ((readF (in2 inn)).2.1 + 1))).1, (((readF (in2 inn)).1 : Nat) : Int), false⟩, _, _, w28) ⟨hen, by show (last.take _ ++ _).length + (cutF _).2.1.length ≤ _; rw [List.length_append, List.length_take]; omega, by show (cutF _).1.length ≤ _; omega, by show (0 : Int) ≤ (((readF (in2 inn)).1 : Nat) : Int); omega, by show (((readF (in2 inn)).1 : Nat) : Int) ≤ _; omega, tBytes.mono (tBytes.ext (Gr.rep' G125) P28.ext (fun k hk _ e => by have hk : w20b.heap.size ≤ k ∧ k < w125.heap.size := hk; have e : k = w86.heap.size := e; have := B20.lt; omega)) (fun k hk hl => by have hk : w20b.heap.size ≤ k ∧ k < w125.heap.size := hk; have := (Xi.trans X20).size; exact ⟨by omega, hl⟩), B28, ((Xi.trans X20).trans X125).then P28.ext (fun k e _ => by have e : k = w86.heap.size := e; have := Xi.size; omega)⟩).of ⟨rfl, rfl, rfl, rfl, rfl, rfl, trivial⟩
                          · refine .skip ?_
                            have hg := decide_eq_true (Decidable.not_not.1 c122)
                            rw [hg] at hH B20
                            have hen := ent_gone hH
                            exact (meet (⟨last.take (readF inn).1 ++ (cutF (inn.drop (readF inn).2.1)).1, [], (((readF (in2 inn)).1 : Nat) : Int), true⟩, _, _, w20b) ⟨hen, by show (last.take _ ++ _).length + (List.drop _ _).length ≤ _; rw [List.length_append, List.length_take, List.length_drop]; omega, Nat.zero_le _, by show (0 : Int) ≤ (((readF (in2 inn)).1 : Nat) : Int); omega, by show (((readF (in2 inn)).1 : Nat) : Int) ≤ _; omega, tBytes.mono (tBytes.ext0 R119 (X86.trans X20)) (fun k hk hl => by have hk : w61.heap.size ≤ k ∧ k < w78.heap.size := hk; have := X61.size; exact ⟨by omega, hl⟩), B20, Xi.trans X20⟩).of ⟨rfl, rfl, rfl, rfl, rfl, rfl, trivial⟩
          · obtain rfl : i = (readF (in0 b)).1 := by omega
            rw [Nat.sub_self, loopR_0, if_neg (by exact Bool.false_ne_true)] at hlp
            refine .exit rfl (.code (.seq (.keep [(0, _), (8, _)] ⟨rfl, rfl, trivial⟩ (.region ?_))))
            refine .p rfl rfl (.mv rfl) ?_
            refine .call (first := []) (captured := []) rfl rfl rfl rfl (RefMake_fn (OwnO.rep hO (fun _ _ _ => trivial) (fun _ h _ => h.elim))) ?_
            rintro _ w142 ⟨v142, rfl, G142, X142⟩
            refine .p rfl rfl (.mv rfl) ?_
            refine .p rfl rfl (.extract rfl rfl) ?_
            refine .p rfl rfl (.extract rfl rfl) ?_
            refine .p rfl rfl (.as rfl) ?_
            refine .p rfl rfl (.as rfl) ?_
            refine .nil (.code (.seq (.seq (.keep [(7, _), (24, _), (0, _), (8, _)] ⟨rfl, rfl, rfl, rfl, trivial⟩ (.region ?_)))))
            refine .p rfl rfl (.mv rfl) ?_
            refine .p rfl rfl (.ne rfl rfl) ?_
            refine .p rfl rfl (.mv rfl) ?_
            refine .caseD 147 rfl (fun c147 => ?_) (fun c147 => ?_)
            · refine .skip rfl rfl ?_
              refine .skip rfl rfl ?_
              refine .skip rfl rfl ?_
              refine .skip rfl rfl ?_
              refine .skip rfl rfl ?_
              refine .p rfl rfl (.pickT rfl rfl) ?_
              refine .nil (.code (.keep [(153, _), (8, _)] ⟨rfl, rfl, trivial⟩ (.condT rfl (.seq (.keep [] trivial (.region ?_))))))
              refine .p rfl rfl (.as rfl) ?_
              refine .p rfl rfl (.as rfl) ?_
              refine .nil (.code ?_)
              refine .ret _ rfl ?_
              rw [read_end hnm hlp (.inl c147)]
              exact ⟨_, rfl, OwnO.nil, hX.trans X142⟩
            · refine .p rfl rfl (.mv rfl) ?_
              refine .p rfl rfl (.bytesStr rfl (Gr.rep G142) rfl rfl rfl) ?_
              refine .p rfl rfl (.mv rfl) ?_
              refine .p rfl rfl (.bytesStr rfl (tBytes.ext0 h (hX.trans X142)) rfl rfl rfl) ?_
              refine .p rfl rfl (.neS rfl rfl) ?_
              refine .p rfl rfl (.pickF rfl rfl) ?_
              refine .nil (.code (.keep [(153, _), (8, _)] ⟨rfl, rfl, trivial⟩ ?_))
              refine .condD rfl (fun c153 => ?_) (fun c153 => ?_)
              · refine .seq (.keep [] trivial (.region ?_))
                refine .p rfl rfl (.as rfl) ?_
                refine .p rfl rfl (.as rfl) ?_
                refine .nil (.code ?_)
                refine .ret _ rfl ?_
                rw [read_end hnm hlp (.inr c153)]
                exact ⟨_, rfl, OwnO.nil, hX.trans X142⟩
              · refine .skip (.code (.seq (.keep [(8, _)] ⟨rfl, trivial⟩ (.region ?_))))
                refine .p rfl rfl (.mv rfl) ?_
                refine .p rfl rfl (.as rfl) ?_
                refine .p rfl rfl (.as rfl) ?_
                refine .nil (.code ?_)
                refine .ret _ rfl ?_
                rw [read_made (Decidable.not_not.1 c147) (Decidable.not_not.1 c153)]
                exact ⟨_, rfl, OwnO.mono (OwnO.ext0 hO X142) (fun _ h _ => h) (fun k h _ => (hBb k h).1), hX.trans X142⟩
end Go.Proofs.Ythkgadhamecnlaa
namespace Go.Proofs.Ythkgadhamecnlaa
open Go page table
namespace table
theorem fst_flat {q : List Entry} {r : List (List Entry)} (hq : q ≠ []) : fstK (q :: r).flatten = fstK q := by
  cases q with
  | nil => exact absurd rfl hq
  | cons x q => rfl
theorem lst_app {a q : List Entry} (hq : q ≠ []) : lstK (a ++ q) = lstK q := by
  unfold lstK
  rw [List.getLastD_eq_getLast?, List.getLastD_eq_getLast?, List.getLast?_append]
  cases e : q.getLast? with
  | none => exact absurd (List.getLast?_eq_none_iff.1 e) hq
  | some z => rfl
theorem ends_open {b : Bs} {l : List Entry} (h : makeT l = (b, 0)) (hp : 0 < l.length) : endsT b = (l[0].key, l[l.length - 1].key, 0) := by
  have hck := (makeT_ok h).1
  have hne : partF l ≠ [] := partF_ne (List.length_pos_iff.1 hp)
  have hpl := List.length_pos_iff.2 hne
  unfold endsT
  rw [open_back h]
  simp only [List.length_map]
  rw [List.getD_eq_getElem?_getD, List.getD_eq_getElem?_getD, List.getElem?_map, List.getElem?_map, List.getElem?_eq_getElem hpl, List.getElem?_eq_getElem (show (partF l).length - 1 < (partF l).length by omega), ← fst_eq hp, ← lst_eq hp]
  have e1 : fstK l = fstK (partF l)[0] := by
    have h0 : partF l = (partF l)[0] :: (partF l).drop 1 := by
      have := List.drop_eq_getElem_cons hpl
      simpa using this
    conv => lhs; rw [← part_flat l, h0]
    exact fst_flat (partF_mem hck _ (List.getElem_mem hpl)).1
  have e2 : lstK l = lstK (partF l)[(partF l).length - 1] := by
    have h0 : partF l = (partF l).take ((partF l).length - 1) ++ [(partF l)[(partF l).length - 1]] := by
      rw [← List.take_succ_eq_append_getElem (by omega), List.take_of_length_le (by omega)]
    have h1 : l = ((partF l).take ((partF l).length - 1)).flatten ++ (partF l)[(partF l).length - 1] := by
      conv => lhs; rw [← part_flat l, h0]
      rw [List.flatten_append]; simp
    conv => lhs; rw [h1]
    exact lst_app (partF_mem hck _ (List.getElem_mem (by omega))).1
  rw [e1, e2]
  rfl
/-- the rows by the document's own way -/
noncomputable def rowsN (b : Bs) : Option (List Row) := rowsF (readF (idxB b)).1 (allB b) ((idxB b).drop (readF (idxB b)).2.1)
theorem rowsN_open {b : Bs} {rows : List Row} (h : openF b = some rows) : rowsN b = some rows ∧ (readF (idxB b)).1 ≤ 4096 := by
  obtain ⟨h1, h2⟩ := open_iff h
  obtain ⟨g1, g2, g3⟩ := rows_table h1
  obtain ⟨hck, hne, hb, hle⟩ := makeT_ok h1
  have hps : (partF (entsR rows)).length ≤ (pagesB (partF (entsR rows))).length := by
    have := flat_ge ((partF (entsR rows)).map pageB) (fun q hq => by
      obtain ⟨p, _, rfl⟩ := List.mem_map.1 hq
      have := page_pos p
      omega)
    rw [List.length_map] at this
    exact this
  have hbl : b.length = (tableB (entsR rows)).length := by rw [hb]
  have hlb : (pagesB (partF (entsR rows))).length ≤ (tableB (entsR rows)).length := tableB_le _
  have hlen : (partF (entsR rows)).length ≤ (entsR rows).length := by
    have := flat_ge (partF (entsR rows)) (fun q hq => List.length_pos_iff.2 (partF_mem hck q hq).1)
    rw [part_flat] at this
    exact this
  refine ⟨?_, by rw [g3]; have := (check_ok hck).1; omega⟩
  have hm : manyR b = (readF (idxB b)).1 := by unfold manyR; rw [g3]; omega
  have : rowsN b = rowsB b := by unfold rowsN rowsB; rw [hm]
  rw [this, g1, ← h2]
theorem open_nope {b : Bs} (h : ∀ rows, openF b ≠ some rows) : openF b = none := by
  cases ho : openF b with
  | none => rfl
  | some rows => exact absurd ho (h rows)
theorem many_no {b : Bs} (h : 4096 < (readF (idxB b)).1) : openF b = none := open_nope (fun rows ho => by have := (rowsN_open ho).2; omega)
theorem rowsN_no {b : Bs} (h : rowsN b = none) : openF b = none := open_nope (fun rows ho => by have := (rowsN_open ho).1; rw [h] at this; cases this)
theorem made_no {b : Bs} {rows : List Row} (h : rowsN b = some rows) (hm : ¬ makeT (entsR rows) = (b, 0)) : openF b = none := open_nope (fun rows' ho => by
  have h2 := (rowsN_open ho).1
  rw [h] at h2
  cases h2
  exact hm (open_made ho))
theorem made_yes {b : Bs} {l : List Entry} (hm : makeT l = (b, 0)) : ∃ rows, openF b = some rows ∧ l = entsR rows := ⟨_, open_back hm, by rw [ents_rows, part_flat]⟩
theorem cut_end {b : Bs} (h : 28 ≤ b.length) : (b.take (b.length - 20)).drop (b.length - 28) = (endB b).take 8 ∧ (b.take (b.length - 12)).drop (b.length - 20) = ((endB b).take 16).drop 8 := by
  unfold endB
  refine ⟨?_, ?_⟩
  · rw [List.drop_take, show b.length - 20 - (b.length - 28) = 8 by omega]
  · rw [List.drop_take, show b.length - 12 - (b.length - 20) = 8 by omega, List.drop_take, List.drop_drop, show b.length - 28 + 8 = b.length - 20 by omega]
theorem range_no {b lo hi : Bs} (h : openF b = none) : rangeT b lo hi = ([], 90) := by unfold rangeT; rw [h]
theorem range_all {b : Bs} {rows : List Row} (h : openF b = some rows) : rangeT b [] [] = (entsR rows, 0) := by
  have e : (entsR rows).filter (fun x => !outK [] [] x) = entsR rows := List.filter_eq_self.2 (fun x _ => by
    have : Op.bytesLess x.key [] = false := by
      rw [bytesLess_eq]
      cases x.key with
      | nil => rfl
      | cons c k => rfl
    unfold outK
    rw [this]; rfl)
  unfold rangeT
  rw [h]
  simp only
  rw [if_neg (by simp), e]
theorem cut_in {b : Bs} (hnk : nB b + kB b ≤ b.length - 28) : (b.take (nB b + kB b)).drop (nB b) = idxB b ∧ b.take (nB b) = allB b := by
  unfold idxB allB inB
  rw [List.take_take, List.take_take, show min (nB b + kB b) (b.length - 28) = nB b + kB b by omega, show min (nB b) (b.length - 28) = nB b by omega]
  exact ⟨rfl, rfl⟩
end table
set_option maxHeartbeats 1000000 in
theorem RefTRead_fn {w : World} {v : Value} {b : Bs} (h : tBytes.rep All w v b) : Fn Try.prog 59 [v] w (fun r w2 => ∃ v' q l, r = .tuple #[v', .bool q] ∧ OwnO tEntry (fun _ => False) 33 w2 v' l (fun k => w.heap.size ≤ k) ∧ ((q = true ∧ ∃ rows, openF b = some rows ∧ l = entsR rows) ∨ (q = false ∧ openF b = none)) ∧ Ext (fun _ => False) w w2) := by
  obtain ⟨a, cap, rfl, hcap⟩ := Sl.val h
  have h := tBytes.mono h (P' := fun k => k < w.heap.size) (fun k _ hk => hk)
  refine Fn.enter (fun w => Try.call59 _ w) Try.func59 rfl ?_
  refine .seq (.region ?_)
  refine .p rfl rfl (.as rfl) ?_
  refine .p rfl rfl (.as rfl) ?_
  refine .nil (.code (.seq (.keep [(0, _)] ⟨rfl, trivial⟩ (.region ?_))))
  refine .p rfl rfl (.mv rfl) ?_
  refine .p rfl rfl (.len rfl rfl) ?_
  refine .p rfl rfl (.as rfl) ?_
  refine .nil (.code (.seq (.seq (.keep [(4, _), (0, _)] ⟨rfl, rfl, trivial⟩ (.region ?_)))))
  refine .p rfl rfl (.mv rfl) ?_
  refine .p rfl rfl (.lt rfl rfl) ?_
  refine .p rfl rfl (.mv rfl) ?_
  refine .caseD 32 rfl (fun c32 => ?_) (fun c32 => ?_)
  · refine .skip rfl rfl ?_
    refine .skip rfl rfl ?_
    refine .p rfl rfl (.pickT rfl rfl) ?_
    refine .nil (.code (.keep [(35, _), (4, _), (0, _)] ⟨rfl, rfl, rfl, trivial⟩ (.condT rfl (.seq (.keep [] trivial (.region ?_))))))
    refine .p rfl rfl (.as rfl) ?_
    refine .p rfl rfl (.as rfl) ?_
    refine .nil (.code ?_)
    refine .ret _ rfl ?_
    exact ⟨_, _, [], rfl, OwnO.nil, .inr ⟨rfl, open_bad1 (fun ho => by have := ho.1; omega)⟩, .refl _⟩
  · refine .p rfl rfl (.mv rfl) ?_
    refine .p rfl rfl (.gt rfl rfl) ?_
    refine .p rfl rfl (.pickF rfl rfl) ?_
    refine .nil (.code (.keep [(35, _), (4, _), (0, _)] ⟨rfl, rfl, rfl, trivial⟩ ?_))
    refine .condD rfl (fun c35 => ?_) (fun c35 => ?_)
    · refine .seq (.keep [] trivial (.region ?_))
      refine .p rfl rfl (.as rfl) ?_
      refine .p rfl rfl (.as rfl) ?_
      refine .nil (.code ?_)
      refine .ret _ rfl ?_
      exact ⟨_, _, [], rfl, OwnO.nil, .inr ⟨rfl, open_bad1 (fun ho => by have := ho.2.1; omega)⟩, .refl _⟩
    · obtain ⟨he1, he2⟩ := cut_end (b := b) (by omega)
      obtain ⟨a42, c42, hv42, hc42, R42⟩ := Sl.cutE h (b.length - 28) (b.length - 20) (by omega) (by omega)
      rw [he1] at R42
      obtain ⟨a52, c52, hv52, hc52, R52⟩ := Sl.cutE h (b.length - 20) (b.length - 12) (by omega) (by omega)
      rw [he2] at R52
      refine .skip (.code (.seq (.keep [(4, _), (0, _)] ⟨rfl, rfl, trivial⟩ (.region ?_))))
      refine .p rfl rfl (.mv rfl) ?_
      refine .p rfl rfl (.mv rfl) ?_
      refine .p rfl rfl (.sub rfl rfl (by omega)) ?_
      refine .p rfl rfl (.mv rfl) ?_
      refine .p rfl rfl (.sub rfl rfl (by omega)) ?_
      refine .p rfl rfl (.cast (.cut (s := 1) rfl rfl rfl rfl rfl (by omega)) (show cutV 1 a cap ((b.length : Int) - 28).toNat ((b.length : Int) - 20).toNat = .slice a42 (b.length - 20 - (b.length - 28)) c42 by rw [show ((b.length : Int) - 28).toNat = b.length - 28 by omega, show ((b.length : Int) - 20).toNat = b.length - 20 by omega]; exact hv42)) ?_
      refine .call (first := []) (captured := []) rfl rfl rfl rfl (RefGet_fn (tBytes.mono R42 (fun _ _ _ => trivial))) ?_
      rintro _ w43 ⟨rfl, S43⟩
      rw [show (if ((endB b).take 8).length = 8 then getTo ((endB b).take 8) 8 else 0) = nB b from rfl]
      have X43 : Ext (fun _ => False) w w43 := Ext.same S43
      refine .p rfl rfl (.mv rfl) ?_
      refine .p rfl rfl (.extract rfl rfl) ?_
      refine .p rfl rfl (.extract rfl rfl) ?_
      refine .p rfl rfl (.as rfl) ?_
      refine .p rfl rfl (.as rfl) ?_
      refine .nil (.code (.seq (.keep [(5, _), (4, _), (0, _)] ⟨rfl, rfl, rfl, trivial⟩ (.region ?_))))
      refine .p rfl rfl (.mv rfl) ?_
      refine .p rfl rfl (.mv rfl) ?_
      refine .p rfl rfl (.sub rfl rfl (by omega)) ?_
      refine .p rfl rfl (.mv rfl) ?_
      refine .p rfl rfl (.sub rfl rfl (by omega)) ?_
      refine .p rfl rfl (.cast (.cut (s := 1) rfl rfl rfl rfl rfl (by omega)) (show cutV 1 a cap ((b.length : Int) - 20).toNat ((b.length : Int) - 12).toNat = .slice a52 (b.length - 12 - (b.length - 20)) c52 by rw [show ((b.length : Int) - 20).toNat = b.length - 20 by omega, show ((b.length : Int) - 12).toNat = b.length - 12 by omega]; exact hv52)) ?_
      refine .call (first := []) (captured := []) rfl rfl rfl rfl (RefGet_fn (tBytes.mono (tBytes.ext0 R52 X43) (fun _ _ _ => trivial))) ?_
      rintro _ w53 ⟨rfl, S53⟩
      rw [show (if (((endB b).take 16).drop 8).length = 8 then getTo (((endB b).take 16).drop 8) 8 else 0) = kB b from rfl]
      have X53 : Ext (fun _ => False) w43 w53 := Ext.same S53
      have Z53 := X43.trans X53
      have hnb : nB b < 18446744073709551616 := get8_bd ((endB b).take 8)
      have hkb : kB b < 18446744073709551616 := get8_bd (((endB b).take 16).drop 8)
      have hil : (inB b).length = b.length - 28 := by unfold inB; rw [List.length_take]; omega
      refine .p rfl rfl (.mv rfl) ?_
      refine .p rfl rfl (.extract rfl rfl) ?_
      refine .p rfl rfl (.extract rfl rfl) ?_
      refine .p rfl rfl (.as rfl) ?_
      refine .p rfl rfl (.as rfl) ?_
      refine .nil (.code (.seq (.seq (.keep [(7, _), (5, _), (4, _), (0, _)] ⟨rfl, rfl, rfl, rfl, trivial⟩ (.region ?_)))))
      refine .p rfl rfl (.mv rfl) ?_
      refine .p rfl rfl (.mv rfl) ?_
      refine .p rfl rfl (.convU rfl rfl rfl (by omega)) ?_
      refine .p rfl rfl (.gt rfl rfl) ?_
      refine .p rfl rfl (.mv rfl) ?_
      refine .caseD 60 rfl (fun c60 => ?_) (fun c60 => ?_)
      · refine .skip rfl rfl ?_
        refine .skip rfl rfl ?_
        refine .skip rfl rfl ?_
        refine .skip rfl rfl ?_
        refine .p rfl rfl (.pickT rfl rfl) ?_
        refine .p rfl rfl (.mv rfl) ?_
        refine .skip rfl rfl ?_
        refine .skip rfl rfl ?_
        refine .skip rfl rfl ?_
        refine .skip rfl rfl ?_
        refine .skip rfl rfl ?_
        refine .skip rfl rfl ?_
        refine .skip rfl rfl ?_
        refine .p rfl rfl (.pickT rfl rfl) ?_
        refine .nil (.code (.keep [(74, _), (7, _), (5, _), (0, _)] ⟨rfl, rfl, rfl, rfl, trivial⟩ (.condT rfl (.seq (.keep [] trivial (.region ?_))))))
        refine .p rfl rfl (.as rfl) ?_
        refine .p rfl rfl (.as rfl) ?_
        refine .nil (.code ?_)
        refine .ret _ rfl ?_
        exact ⟨_, _, [], rfl, OwnO.nil, .inr ⟨rfl, open_bad2 (by omega)⟩, Z53⟩
      · refine .p rfl rfl (.mv rfl) ?_
        refine .p rfl rfl (.mv rfl) ?_
        refine .p rfl rfl (.convU rfl rfl rfl (by omega)) ?_
        refine .p rfl rfl (.gt rfl rfl) ?_
        refine .p rfl rfl (.pickF rfl rfl) ?_
        refine .p rfl rfl (.mv rfl) ?_
        refine .caseD 66 rfl (fun c66 => ?_) (fun c66 => ?_)
        · refine .skip rfl rfl ?_
          refine .skip rfl rfl ?_
          refine .skip rfl rfl ?_
          refine .skip rfl rfl ?_
          refine .skip rfl rfl ?_
          refine .skip rfl rfl ?_
          refine .skip rfl rfl ?_
          refine .p rfl rfl (.pickT rfl rfl) ?_
          refine .nil (.code (.keep [(74, _), (7, _), (5, _), (0, _)] ⟨rfl, rfl, rfl, rfl, trivial⟩ (.condT rfl (.seq (.keep [] trivial (.region ?_))))))
          refine .p rfl rfl (.as rfl) ?_
          refine .p rfl rfl (.as rfl) ?_
          refine .nil (.code ?_)
          refine .ret _ rfl ?_
          exact ⟨_, _, [], rfl, OwnO.nil, .inr ⟨rfl, open_bad2 (by omega)⟩, Z53⟩
        · refine .p rfl rfl (.mv rfl) ?_
          refine .p rfl rfl (.mv rfl) ?_
          refine .p rfl rfl (.addU rfl rfl (by omega)) ?_
          refine .p rfl rfl (.convI rfl rfl rfl (by omega)) ?_
          refine .p rfl rfl (.mv rfl) ?_
          refine .p rfl rfl (.sub rfl rfl (by omega)) ?_
          refine .p rfl rfl (.gt rfl rfl) ?_
          refine .p rfl rfl (.pickF rfl rfl) ?_
          refine .nil (.code (.keep [(74, _), (7, _), (5, _), (0, _)] ⟨rfl, rfl, rfl, rfl, trivial⟩ ?_))
          refine .condD rfl (fun c74 => ?_) (fun c74 => ?_)
          · refine .seq (.keep [] trivial (.region ?_))
            refine .p rfl rfl (.as rfl) ?_
            refine .p rfl rfl (.as rfl) ?_
            refine .nil (.code ?_)
            refine .ret _ rfl ?_
            exact ⟨_, _, [], rfl, OwnO.nil, .inr ⟨rfl, open_bad2 (by omega)⟩, Z53⟩
          · have hnk : ¬ ((inB b).length < nB b ∨ (inB b).length - nB b < kB b) := by omega
            have hidx := idxB_length hnk
            obtain ⟨hi1, hi2⟩ := cut_in (b := b) (by omega)
            obtain ⟨a82, c82, hv82, hc82, R82⟩ := Sl.cutE h (nB b) (nB b + kB b) (by omega) (by omega)
            rw [Nat.add_sub_cancel_left] at hv82 hc82 R82
            rw [hi1] at R82
            obtain ⟨a101, c101, hv101, hc101, R101⟩ := Sl.cutH h (nB b) (by omega)
            rw [hi2] at R101
            refine .skip (.code (.seq (.keep [(7, _), (5, _), (0, _)] ⟨rfl, rfl, rfl, trivial⟩ (.region ?_))))
            refine .p rfl rfl (.mv rfl) ?_
            refine .p rfl rfl (.mv rfl) ?_
            refine .p rfl rfl (.convI rfl rfl rfl (by omega)) ?_
            refine .p rfl rfl (.mv rfl) ?_
            refine .p rfl rfl (.mv rfl) ?_
            refine .p rfl rfl (.addU rfl rfl (by omega)) ?_
            refine .p rfl rfl (.convI rfl rfl rfl (by omega)) ?_
            refine .p rfl rfl (.cast (.cut (s := 1) rfl rfl rfl rfl rfl (by omega)) (show cutV 1 a cap ((nB b : Nat) : Int).toNat ((nB b : Int) + (kB b : Int)).toNat = .slice a82 (kB b) c82 by rw [show ((nB b : Int) + (kB b : Int)).toNat = nB b + kB b by omega]; exact hv82)) ?_
            refine .p rfl rfl (.as rfl) ?_
            refine .nil (.code (.seq (.keep [(9, _), (5, _), (0, _)] ⟨rfl, rfl, rfl, trivial⟩ (.region ?_))))
            refine .p rfl rfl (.mv rfl) ?_
            refine .call (first := []) (captured := []) rfl rfl rfl rfl (RefRead_fn (tBytes.mono (tBytes.ext0 R82 Z53) (fun _ _ _ => trivial))) ?_
            rintro _ w85 ⟨rfl, X85⟩
            obtain ⟨hr1, hr2⟩ := readF_bd (idxB b)
            rw [hidx] at hr2
            have Z85 := Z53.trans X85
            have z85 := Z85.size
            refine .p rfl rfl (.mv rfl) ?_
            refine .p rfl rfl (.extract rfl rfl) ?_
            refine .p rfl rfl (.extract rfl rfl) ?_
            refine .p rfl rfl (.extract rfl rfl) ?_
            refine .p rfl rfl (.as rfl) ?_
            refine .p rfl rfl (.as rfl) ?_
            refine .p rfl rfl (.as rfl) ?_
            refine .nil (.code (.seq (.seq (.keep [(12, _), (11, _), (10, _), (9, _), (5, _), (0, _)] ⟨rfl, rfl, rfl, rfl, rfl, rfl, trivial⟩ (.region ?_)))))
            refine .p rfl rfl (.mv rfl) ?_
            refine .p rfl rfl (.ne rfl rfl) ?_
            refine .p rfl rfl (.mv rfl) ?_
            refine .caseD 91 rfl (fun c91 => ?_) (fun c91 => ?_)
            · refine .skip rfl rfl ?_
              refine .skip rfl rfl ?_
              refine .p rfl rfl (.pickT rfl rfl) ?_
              refine .nil (.code (.keep [(94, _), (11, _), (10, _), (9, _), (5, _), (0, _)] ⟨rfl, rfl, rfl, rfl, rfl, rfl, trivial⟩ (.condT rfl (.seq (.keep [] trivial (.region ?_))))))
              refine .p rfl rfl (.as rfl) ?_
              refine .p rfl rfl (.as rfl) ?_
              refine .nil (.code ?_)
              refine .ret _ rfl ?_
              exact ⟨_, _, [], rfl, OwnO.nil, .inr ⟨rfl, open_bad3 c91⟩, Z85⟩
            · refine .p rfl rfl (.mv rfl) ?_
              refine .p rfl rfl (.gt rfl rfl) ?_
              refine .p rfl rfl (.pickF rfl rfl) ?_
              refine .nil (.code (.keep [(94, _), (11, _), (10, _), (9, _), (5, _), (0, _)] ⟨rfl, rfl, rfl, rfl, rfl, rfl, trivial⟩ ?_))
              refine .condD rfl (fun c94 => ?_) (fun c94 => ?_)
              · refine .seq (.keep [] trivial (.region ?_))
                refine .p rfl rfl (.as rfl) ?_
                refine .p rfl rfl (.as rfl) ?_
                refine .nil (.code ?_)
                refine .ret _ rfl ?_
                exact ⟨_, _, [], rfl, OwnO.nil, .inr ⟨rfl, many_no (by omega)⟩, Z85⟩
              · obtain ⟨a97, c97, hv97, hc97, R97⟩ := Sl.cutL R82 (readF (idxB b)).2.1 hr2
                have hal0 := Sl.len R101
                refine .skip (.code (.seq (.keep [(11, _), (10, _), (9, _), (5, _), (0, _)] ⟨rfl, rfl, rfl, rfl, rfl, trivial⟩ (.region ?_))))
                refine .p rfl rfl (.mv rfl) ?_
                refine .p rfl rfl (.mv rfl) ?_
                refine .p rfl rfl (.cast (.cutLo (s := 1) rfl rfl rfl rfl (by omega)) (show cutV 1 a82 c82 (((readF (idxB b)).2.1 : Nat) : Int).toNat (kB b) = _ from hv97)) ?_
                refine .p rfl rfl (.as rfl) ?_
                refine .nil (.code (.seq (.keep [(9, _), (10, _), (5, _), (0, _)] ⟨rfl, rfl, rfl, rfl, trivial⟩ (.region ?_))))
                refine .p rfl rfl (.mv rfl) ?_
                refine .p rfl rfl (.mv rfl) ?_
                refine .p rfl rfl (.convI rfl rfl rfl (by omega)) ?_
                refine .p rfl rfl (.cast (.cutHi (s := 1) rfl rfl rfl rfl (by omega)) (show cutV 1 a cap 0 ((nB b : Nat) : Int).toNat = _ from hv101)) ?_
                refine .p rfl rfl (.as rfl) ?_
                refine .nil (.code (.seq (.keep [(13, _), (9, _), (10, _), (0, _)] ⟨rfl, rfl, rfl, rfl, trivial⟩ (.region ?_))))
                refine .p rfl rfl (.as rfl) ?_
                refine .nil (.code (.seq (.seq (.region ?_))))
                refine .p rfl rfl (.as rfl) ?_
                refine .nil (.code (.block ?_))
                refine .loop (S := Nat × List Row × Bs × Bs × Value × Value × Value × (Nat → Prop) × World) (fun s => [(0, .slice a b.length cap), (9, s.2.2.2.2.2.1), (10, .int .u64 (((readF (idxB b)).1 : Nat) : Int)), (13, s.2.2.2.2.1), (14, s.2.2.2.2.2.2.1), (15, i64 s.1)]) (fun s => s.2.2.2.2.2.2.2.2) (fun s => s.1 ≤ (readF (idxB b)).1 ∧ rowsN b = (rowsF ((readF (idxB b)).1 - s.1) s.2.2.1 s.2.2.2.1).map (s.2.1 ++ ·) ∧ (entsR s.2.1).length ≤ s.1 * 4096 ∧ s.2.2.1.length ≤ b.length ∧ (∀ k, s.2.2.2.2.2.2.2.1 k → w.heap.size ≤ k ∧ k < s.2.2.2.2.2.2.2.2.heap.size) ∧ tBytes.rep (fun k => k < w.heap.size) s.2.2.2.2.2.2.2.2 s.2.2.2.2.1 s.2.2.1 ∧ tBytes.rep (fun k => ¬ s.2.2.2.2.2.2.2.1 k) s.2.2.2.2.2.2.2.2 s.2.2.2.2.2.1 s.2.2.2.1 ∧ OwnO tEntry (fun _ => False) 33 s.2.2.2.2.2.2.2.2 s.2.2.2.2.2.2.1 (entsR s.2.1) s.2.2.2.2.2.2.2.1 ∧ Ext (fun _ => False) w s.2.2.2.2.2.2.2.2) (fun s => (readF (idxB b)).1 - s.1) (0, [], allB b, (idxB b).drop (readF (idxB b)).2.1, _, _, _, (fun _ => False), w85) ⟨rfl, rfl, rfl, rfl, rfl, rfl, trivial⟩ rfl ⟨Nat.zero_le _, by show rowsN b = (rowsF (readF (idxB b)).1 _ _).map ([] ++ ·); unfold rowsN; cases rowsF (readF (idxB b)).1 (allB b) ((idxB b).drop (readF (idxB b)).2.1) <;> rfl, Nat.zero_le _, by show (allB b).length ≤ _; omega, fun _ h => h.elim, tBytes.ext0 R101 Z85, tBytes.mono (tBytes.ext0 R97 Z85) (fun _ _ _ h => h), OwnO.nil, Z85⟩ ?_
                rintro ⟨i, done, all, idx, v13, v9, v14, B, wi⟩ J ⟨hi', hrw, hel, hal, hBb, hA, hI, hO, hX⟩ again
                simp only at hi' hrw hel hal hBb hA hI hO hX
                have zwi := hX.size
                change G _ [(0, .slice a b.length cap), (9, v9), (10, .int .u64 (((readF (idxB b)).1 : Nat) : Int)), (13, v13), (14, v14), (15, i64 i)] _ _ wi
                refine .seq (.seq (.region ?_))
                refine .p rfl rfl (.mv rfl) ?_
                refine .p rfl rfl (.mv rfl) ?_
                refine .p rfl rfl (.convI rfl rfl rfl (by omega)) ?_
                refine .p rfl rfl (.lt rfl rfl) ?_
                refine .nil (.code (.keep [(105, _), (0, _), (9, _), (10, _), (13, _), (14, _), (15, _)] ⟨rfl, rfl, rfl, rfl, rfl, rfl, rfl, trivial⟩ ?_))
                refine .condD rfl (fun c105 => ?_) (fun c105 => ?_)
                · have hi : i < (readF (idxB b)).1 := by omega
                  obtain ⟨a13, c13, rfl, hc13⟩ := Sl.val hA
                  obtain ⟨a9, c9, rfl, hc9⟩ := Sl.val hI
                  have hm : (readF (idxB b)).1 - i = ((readF (idxB b)).1 - (i + 1)) + 1 := by omega
                  rw [hm] at hrw
                  obtain ⟨hb1, hb2⟩ := readF_bd (cutF (cutF idx).2.1).2.1
                  refine .skip (.code (.seq (.block (.seq (.keep [(0, _), (9, _), (10, _), (13, _), (14, _), (15, _)] ⟨rfl, rfl, rfl, rfl, rfl, rfl, trivial⟩ (.region ?_))))))
                  refine .p rfl rfl (.mv rfl) ?_
                  refine .call (first := []) (captured := []) rfl rfl rfl rfl (RefCut_fn (tBytes.mono hI (fun _ _ _ => trivial))) ?_
                  rintro _ w110 ⟨v110, rfl, G110, X110⟩
                  have z110 := X110.size
                  refine .p rfl rfl (.mv rfl) ?_
                  refine .p rfl rfl (.extract rfl rfl) ?_
                  refine .p rfl rfl (.extract rfl rfl) ?_
                  refine .p rfl rfl (.extract rfl rfl) ?_
                  refine .p rfl rfl (.as rfl) ?_
                  refine .p rfl rfl (.as rfl) ?_
                  refine .p rfl rfl (.as rfl) ?_
                  refine .nil (.code (.seq (.keep [(18, _), (17, _), (0, _), (10, _), (13, _), (14, _), (15, _)] ⟨rfl, rfl, rfl, rfl, rfl, rfl, rfl, trivial⟩ (.region ?_))))
                  refine .p rfl rfl (.mv rfl) ?_
                  refine .call (first := []) (captured := []) rfl rfl rfl rfl (RefCut_fn (Gr.rep G110)) ?_
                  rintro _ w116 ⟨v116, rfl, G116, X116⟩
                  obtain ⟨a116, c116, rfl, hc116⟩ := OwnO.val G116
                  have z116 := X116.size
                  refine .p rfl rfl (.mv rfl) ?_
                  refine .p rfl rfl (.extract rfl rfl) ?_
                  refine .p rfl rfl (.extract rfl rfl) ?_
                  refine .p rfl rfl (.extract rfl rfl) ?_
                  refine .p rfl rfl (.as rfl) ?_
                  refine .p rfl rfl (.as rfl) ?_
                  refine .p rfl rfl (.as rfl) ?_
                  refine .nil (.code (.seq (.keep [(21, _), (20, _), (18, _), (0, _), (10, _), (13, _), (14, _), (15, _)] ⟨rfl, rfl, rfl, rfl, rfl, rfl, rfl, rfl, trivial⟩ (.region ?_))))
                  refine .p rfl rfl (.mv rfl) ?_
                  refine .call (first := []) (captured := []) rfl rfl rfl rfl (RefRead_fn (Gr.rep G116)) ?_
                  rintro _ w122 ⟨rfl, X122⟩
                  have z122 := X122.size
                  have Xi := (X110.trans X116).trans X122
                  refine .p rfl rfl (.mv rfl) ?_
                  refine .p rfl rfl (.extract rfl rfl) ?_
                  refine .p rfl rfl (.extract rfl rfl) ?_
                  refine .p rfl rfl (.extract rfl rfl) ?_
                  refine .p rfl rfl (.as rfl) ?_
                  refine .p rfl rfl (.as rfl) ?_
                  refine .p rfl rfl (.as rfl) ?_
                  refine .nil (.code (.seq (.seq (.keep [(24, _), (23, _), (22, _), (21, _), (20, _), (18, _), (0, _), (10, _), (13, _), (14, _), (15, _)] ⟨rfl, rfl, rfl, rfl, rfl, rfl, rfl, rfl, rfl, rfl, rfl, trivial⟩ (.region ?_)))))
                  refine .p rfl rfl (.mv rfl) ?_
                  refine .p rfl rfl (.ne rfl rfl) ?_
                  refine .p rfl rfl (.mv rfl) ?_
                  refine .caseD 128 rfl (fun c128 => ?_) (fun c128 => ?_)
                  · refine .skip rfl rfl ?_
                    refine .skip rfl rfl ?_
                    refine .p rfl rfl (.pickT rfl rfl) ?_
                    refine .p rfl rfl (.mv rfl) ?_
                    refine .skip rfl rfl ?_
                    refine .skip rfl rfl ?_
                    refine .p rfl rfl (.pickT rfl rfl) ?_
                    refine .p rfl rfl (.mv rfl) ?_
                    refine .skip rfl rfl ?_
                    refine .skip rfl rfl ?_
                    refine .skip rfl rfl ?_
                    refine .skip rfl rfl ?_
                    refine .skip rfl rfl ?_
                    refine .p rfl rfl (.pickT rfl rfl) ?_
                    refine .nil (.code (.keep [(142, _), (23, _), (22, _), (20, _), (0, _), (10, _), (13, _), (14, _), (15, _)] ⟨rfl, rfl, rfl, rfl, rfl, rfl, rfl, rfl, rfl, trivial⟩ (.condT rfl (.seq (.keep [] trivial (.region ?_))))))
                    refine .p rfl rfl (.as rfl) ?_
                    refine .p rfl rfl (.as rfl) ?_
                    refine .nil (.code ?_)
                    refine .ret _ rfl ?_
                    exact ⟨_, _, [], rfl, OwnO.nil, .inr ⟨rfl, rowsN_no (by rw [hrw, rowsF_bad1 (.inl c128)]; rfl)⟩, hX.trans Xi⟩
                  · refine .p rfl rfl (.mv rfl) ?_
                    refine .p rfl rfl (.ne rfl rfl) ?_
                    refine .p rfl rfl (.pickF rfl rfl) ?_
                    refine .p rfl rfl (.mv rfl) ?_
                    refine .caseD 132 rfl (fun c132 => ?_) (fun c132 => ?_)
                    · refine .skip rfl rfl ?_
                      refine .skip rfl rfl ?_
                      refine .p rfl rfl (.pickT rfl rfl) ?_
                      refine .p rfl rfl (.mv rfl) ?_
                      refine .skip rfl rfl ?_
                      refine .skip rfl rfl ?_
                      refine .skip rfl rfl ?_
                      refine .skip rfl rfl ?_
                      refine .skip rfl rfl ?_
                      refine .p rfl rfl (.pickT rfl rfl) ?_
                      refine .nil (.code (.keep [(142, _), (23, _), (22, _), (20, _), (0, _), (10, _), (13, _), (14, _), (15, _)] ⟨rfl, rfl, rfl, rfl, rfl, rfl, rfl, rfl, rfl, trivial⟩ (.condT rfl (.seq (.keep [] trivial (.region ?_))))))
                      refine .p rfl rfl (.as rfl) ?_
                      refine .p rfl rfl (.as rfl) ?_
                      refine .nil (.code ?_)
                      refine .ret _ rfl ?_
                      exact ⟨_, _, [], rfl, OwnO.nil, .inr ⟨rfl, rowsN_no (by rw [hrw, rowsF_bad1 (.inr (.inl c132))]; rfl)⟩, hX.trans Xi⟩
                    · refine .p rfl rfl (.mv rfl) ?_
                      refine .p rfl rfl (.ne rfl rfl) ?_
                      refine .p rfl rfl (.pickF rfl rfl) ?_
                      refine .p rfl rfl (.mv rfl) ?_
                      refine .caseD 136 rfl (fun c136 => ?_) (fun c136 => ?_)
                      · refine .skip rfl rfl ?_
                        refine .skip rfl rfl ?_
                        refine .skip rfl rfl ?_
                        refine .skip rfl rfl ?_
                        refine .skip rfl rfl ?_
                        refine .p rfl rfl (.pickT rfl rfl) ?_
                        refine .nil (.code (.keep [(142, _), (23, _), (22, _), (20, _), (0, _), (10, _), (13, _), (14, _), (15, _)] ⟨rfl, rfl, rfl, rfl, rfl, rfl, rfl, rfl, rfl, trivial⟩ (.condT rfl (.seq (.keep [] trivial (.region ?_))))))
                        refine .p rfl rfl (.as rfl) ?_
                        refine .p rfl rfl (.as rfl) ?_
                        refine .nil (.code ?_)
                        refine .ret _ rfl ?_
                        exact ⟨_, _, [], rfl, OwnO.nil, .inr ⟨rfl, rowsN_no (by rw [hrw, rowsF_bad1 (.inr (.inr (.inl c136)))]; rfl)⟩, hX.trans Xi⟩
                      · refine .p rfl rfl (.mv rfl) ?_
                        refine .p rfl rfl (.mv rfl) ?_
                        refine .p rfl rfl (.len rfl rfl) ?_
                        refine .p rfl rfl (.convU rfl rfl rfl (by omega)) ?_
                        refine .p rfl rfl (.gt rfl rfl) ?_
                        refine .p rfl rfl (.pickF rfl rfl) ?_
                        refine .nil (.code (.keep [(142, _), (23, _), (22, _), (20, _), (0, _), (10, _), (13, _), (14, _), (15, _)] ⟨rfl, rfl, rfl, rfl, rfl, rfl, rfl, rfl, rfl, trivial⟩ ?_))
                        refine .condD rfl (fun c142 => ?_) (fun c142 => ?_)
                        · refine .seq (.keep [] trivial (.region ?_))
                          refine .p rfl rfl (.as rfl) ?_
                          refine .p rfl rfl (.as rfl) ?_
                          refine .nil (.code ?_)
                          refine .ret _ rfl ?_
                          exact ⟨_, _, [], rfl, OwnO.nil, .inr ⟨rfl, rowsN_no (by rw [hrw, rowsF_bad1 (.inr (.inr (.inr (by omega))))]; rfl)⟩, hX.trans Xi⟩
                        · have hnbr : ¬ badRow all idx := by
                            rintro (x | x | x | x)
                            · exact c128 x
                            · exact c132 x
                            · exact c136 x
                            · omega
                          have hsz : sizeR idx ≤ all.length := by unfold sizeR; omega
                          obtain ⟨a147, c147, hv147, hc147, R147⟩ := Sl.cutH hA (sizeR idx) hsz
                          obtain ⟨a159, c159, hv159, hc159, R159⟩ := Sl.cutL hA (sizeR idx) hsz
                          obtain ⟨a162, c162, hv162, hc162, R162⟩ := Sl.cutL (Gr.rep' G116) (readF (cutF (cutF idx).2.1).2.1).2.1 hb2
                          refine .skip (.code (.seq (.keep [(23, _), (22, _), (20, _), (0, _), (10, _), (13, _), (14, _), (15, _)] ⟨rfl, rfl, rfl, rfl, rfl, rfl, rfl, rfl, trivial⟩ (.region ?_))))
                          refine .p rfl rfl (.mv rfl) ?_
                          refine .p rfl rfl (.mv rfl) ?_
                          refine .p rfl rfl (.convI rfl rfl rfl (by omega)) ?_
                          refine .p rfl rfl (.cast (.cutHi (s := 1) rfl rfl rfl rfl (by omega)) (show cutV 1 a13 c13 0 (((readF (cutF (cutF idx).2.1).2.1).1 : Nat) : Int).toNat = _ from hv147)) ?_
                          refine .call (first := []) (captured := []) rfl rfl rfl rfl (RefPRead_fn (tBytes.mono (tBytes.ext0 R147 Xi) (fun _ _ _ => trivial))) ?_
                          rintro _ w148 ⟨v148, rfl, O148, X148⟩
                          have z148 := X148.size
                          obtain ⟨a148, c148, rfl, hc148⟩ := OwnO.val O148
                          refine .p rfl rfl (.mv rfl) ?_
                          refine .p rfl rfl (.extract rfl rfl) ?_
                          refine .p rfl rfl (.extract rfl rfl) ?_
                          refine .p rfl rfl (.as rfl) ?_
                          refine .p rfl rfl (.as rfl) ?_
                          refine .nil (.code (.seq (.seq (.keep [(26, _), (25, _), (23, _), (22, _), (20, _), (0, _), (10, _), (13, _), (14, _), (15, _)] ⟨rfl, rfl, rfl, rfl, rfl, rfl, rfl, rfl, rfl, rfl, trivial⟩ (.region ?_)))))
                          refine .p rfl rfl (.mv rfl) ?_
                          refine .p rfl rfl (.ne rfl rfl) ?_
                          refine .nil (.code (.keep [(152, _), (25, _), (23, _), (22, _), (20, _), (0, _), (10, _), (13, _), (14, _), (15, _)] ⟨rfl, rfl, rfl, rfl, rfl, rfl, rfl, rfl, rfl, rfl, trivial⟩ ?_))
                          refine .condD rfl (fun c152 => ?_) (fun c152 => ?_)
                          · refine .seq (.keep [] trivial (.region ?_))
                            refine .p rfl rfl (.as rfl) ?_
                            refine .p rfl rfl (.as rfl) ?_
                            refine .nil (.code ?_)
                            refine .ret _ rfl ?_
                            exact ⟨_, _, [], rfl, OwnO.nil, .inr ⟨rfl, rowsN_no (by rw [hrw, rowsF_bad2 c152]; rfl)⟩, (hX.trans Xi).trans X148⟩
                          · have hre : (readE (all.take (sizeR idx))).2 = 0 := Decidable.not_not.1 c152
                            rw [rowsF_step hnbr hre, map_snoc] at hrw
                            have hfew := readE_few hre
                            refine .skip (.code (.seq (.keep [(25, _), (23, _), (22, _), (20, _), (0, _), (10, _), (13, _), (14, _), (15, _)] ⟨rfl, rfl, rfl, rfl, rfl, rfl, rfl, rfl, rfl, trivial⟩ (.region ?_))))
                            refine .p rfl rfl (.mv rfl) ?_
                            refine .p rfl rfl (.mv rfl) ?_
                            refine .v rfl rfl (.appendLo (t := tEntry) (Q := fun _ => False) (xs := entsR done) (ys := (readE (all.take (sizeR idx))).1) (B := fun k => B k ∨ w148.heap.size ≤ k) (eb := 48) rfl (OwnO.mono (OwnO.ext0 hO (Xi.trans X148)) (fun _ h _ => h) (fun k h _ => .inl h)) (fun k hk => .inr hk) rfl (Sl.holds (Q' := All) (OwnO.rep O148 (fun _ _ _ => trivial) (fun _ h _ => h.elim)) (fun _ _ h => entry_any h)) rfl rfl rfl rfl rfl rfl rfl (by omega) (by simp only [Lim]; omega) (fun _ h _ => h.elim)) ?_
                            rintro r155 w155 ⟨O155, Y155⟩
                            have z155 := Y155.size
                            refine .p rfl rfl (.as rfl) ?_
                            refine .nil (.code (.seq (.keep [(14, _), (23, _), (22, _), (20, _), (0, _), (10, _), (13, _), (15, _)] ⟨rfl, rfl, rfl, rfl, rfl, rfl, rfl, rfl, trivial⟩ (.region ?_))))
                            refine .p rfl rfl (.mv rfl) ?_
                            refine .p rfl rfl (.mv rfl) ?_
                            refine .p rfl rfl (.convI rfl rfl rfl (by omega)) ?_
                            refine .p rfl rfl (.cast (.cutLo (s := 1) rfl rfl rfl rfl (by omega)) (show cutV 1 a13 c13 (((readF (cutF (cutF idx).2.1).2.1).1 : Nat) : Int).toNat all.length = _ from hv159)) ?_
                            refine .p rfl rfl (.as rfl) ?_
                            refine .nil (.code (.keep [(13, _), (14, _), (23, _), (20, _), (0, _), (10, _), (15, _)] ⟨rfl, rfl, rfl, rfl, rfl, rfl, rfl, trivial⟩ (.region ?_)))
                            refine .p rfl rfl (.mv rfl) ?_
                            refine .p rfl rfl (.mv rfl) ?_
                            refine .p rfl rfl (.cast (.cutLo (s := 1) rfl rfl rfl rfl (by omega)) (show cutV 1 a116 c116 (((readF (cutF (cutF idx).2.1).2.1).2.1 : Nat) : Int).toNat (cutF (cutF idx).2.1).2.1.length = _ from hv162)) ?_
                            refine .p rfl rfl (.as rfl) ?_
                            refine .nil (.blk (.code (.keep [(9, _), (13, _), (14, _), (0, _), (10, _), (15, _)] ⟨rfl, rfl, rfl, rfl, rfl, rfl, trivial⟩ (.region ?_))))
                            refine .p rfl rfl (.mv rfl) ?_
                            refine .p rfl rfl (.add rfl rfl (by omega)) ?_
                            refine .p rfl rfl (.as rfl) ?_
                            refine .nil ?_
                            exact (again (i + 1, done ++ [rowR all idx], all.drop (sizeR idx), restR idx, _, _, r155, (fun k => B k ∨ (w148.heap.size ≤ k ∧ k < w155.heap.size)), w155) ⟨by show i + 1 ≤ _; omega, hrw, by show (entsR (done ++ [_])).length ≤ (i + 1) * 4096; rw [entsR_snoc, List.length_append]; have : (rowR all idx).ents.length ≤ 4096 := hfew; omega, by show (all.drop _).length ≤ _; rw [List.length_drop]; omega, fun k h => by
                                show _ ∧ k < w155.heap.size
                                rcases h with h | h
                                · have := hBb k h; omega
                                · omega, tBytes.ext (tBytes.ext0 R159 (Xi.trans X148)) Y155 (fun k hk _ hB => by have hk : k < w.heap.size := hk; rcases hB with hB | hB; (have := hBb k hB; omega); omega), tBytes.mono (tBytes.ext (tBytes.ext0 R162 (X122.trans X148)) Y155 (fun k hk _ hB => by have hk : w110.heap.size ≤ k ∧ k < w116.heap.size := hk; rcases hB with hB | hB; (have := hBb k hB; omega); omega)) (fun k hk _ hB => by have hk : w110.heap.size ≤ k ∧ k < w116.heap.size := hk; rcases hB with hB | hB; (have := hBb k hB; omega); omega),
                                by show OwnO tEntry _ _ w155 r155 (entsR (done ++ [_])) _; rw [entsR_snoc]; exact OwnO.mono O155 (fun _ h _ => h) (fun k h hk => h.imp id (fun h => ⟨h, hk⟩)), ((hX.trans Xi).trans X148).then Y155 (fun k h _ => by rcases h with h | h; exact (hBb k h).1; omega)⟩ (by show _ - (i + 1) < _ - i; omega)).of ⟨rfl, rfl, rfl, rfl, rfl, rfl, trivial⟩
                · obtain rfl : i = (readF (idxB b)).1 := by omega
                  rw [Nat.sub_self] at hrw
                  have hrw : rowsN b = some (done ++ []) := hrw
                  rw [List.append_nil] at hrw
                  refine .exit rfl (.code (.seq (.keep [(0, _), (14, _)] ⟨rfl, rfl, trivial⟩ (.region ?_))))
                  refine .p rfl rfl (.mv rfl) ?_
                  refine .call (first := []) (captured := []) rfl rfl rfl rfl (RefTMake_fn (OwnO.rep hO (fun _ _ _ => trivial) (fun _ h _ => h.elim))) ?_
                  rintro _ w165 ⟨v165, rfl, G165, X165⟩
                  refine .p rfl rfl (.mv rfl) ?_
                  refine .p rfl rfl (.extract rfl rfl) ?_
                  refine .p rfl rfl (.extract rfl rfl) ?_
                  refine .p rfl rfl (.as rfl) ?_
                  refine .p rfl rfl (.as rfl) ?_
                  refine .nil (.code (.seq (.keep [(12, _), (27, _), (0, _), (14, _)] ⟨rfl, rfl, rfl, rfl, trivial⟩ (.draws (by kernel_rfl) (by kernel_rfl) ?_))))
                  refine .p rfl rfl (.mv rfl) ?_
                  refine .p rfl rfl (.mv rfl) ?_
                  refine .p rfl rfl (.eq rfl rfl) ?_
                  refine .p rfl rfl (.mv rfl) ?_
                  refine .caseD 171 rfl (fun c171 => ?_) (fun c171 => ?_)
                  · refine .p rfl rfl (.mv rfl) ?_
                    refine .p rfl rfl (.bytesStr rfl (Gr.rep G165) rfl rfl rfl) ?_
                    refine .p rfl rfl (.mv rfl) ?_
                    refine .p rfl rfl (.bytesStr rfl (tBytes.ext0 (tBytes.mono h (fun _ _ _ => trivial)) (hX.trans X165)) rfl rfl rfl) ?_
                    refine .p rfl rfl (.eqS rfl rfl) ?_
                    refine .p rfl rfl (.pickT rfl rfl) ?_
                    refine .p rfl rfl (.as rfl) ?_
                    refine .p rfl rfl (.as rfl) ?_
                    refine .nil (.code ?_)
                    refine .ret _ rfl ?_
                    by_cases hbe : (makeT (entsR done)).1 = b
                    · exact ⟨_, true, _, by rw [decide_eq_true hbe]; rfl, OwnO.mono (OwnO.ext0 hO X165) (fun _ h _ => h) (fun k h _ => (hBb k h).1), .inl ⟨rfl, made_yes (Prod.ext hbe c171)⟩, hX.trans X165⟩
                    · exact ⟨_, false, _, by rw [decide_eq_false hbe]; rfl, OwnO.mono (OwnO.ext0 hO X165) (fun _ h _ => h) (fun k h _ => (hBb k h).1), .inr ⟨rfl, made_no hrw (fun e => hbe (congrArg (·.1) e))⟩, hX.trans X165⟩
                  · refine .skip rfl rfl ?_
                    refine .skip rfl rfl ?_
                    refine .skip rfl rfl ?_
                    refine .skip rfl rfl ?_
                    refine .skip rfl rfl ?_
                    refine .p rfl rfl (.pickF rfl rfl) ?_
                    refine .p rfl rfl (.as rfl) ?_
                    refine .p rfl rfl (.as rfl) ?_
                    refine .nil (.code ?_)
                    refine .ret _ rfl ?_
                    exact ⟨_, false, _, rfl, OwnO.mono (OwnO.ext0 hO X165) (fun _ h _ => h) (fun k h _ => (hBb k h).1), .inr ⟨rfl, made_no hrw (fun e => c171 (congrArg (·.2) e))⟩, hX.trans X165⟩
theorem RefTCheck_fn {w : World} {v : Value} {b : Bs} (h : tBytes.rep All w v b) : Fn Try.prog 31 [v] w (fun r w2 => r = i64 (checkT b) ∧ Ext (fun _ => False) w w2) := by
  refine Fn.enter (fun w => Try.call31 _ w) Try.func31 rfl ?_
  refine .seq (.region ?_)
  refine .p rfl rfl (.as rfl) ?_
  refine .nil (.code (.seq (.keep [(0, _)] ⟨rfl, trivial⟩ (.region ?_))))
  refine .p rfl rfl (.mv rfl) ?_
  refine .call (first := []) (captured := []) rfl rfl rfl rfl (RefTRead_fn h) ?_
  rintro _ w7 ⟨v7, q7, l, rfl, O7, ho7, X7⟩
  have z7 := X7.size
  refine .p rfl rfl (.mv rfl) ?_
  refine .p rfl rfl (.extract rfl rfl) ?_
  refine .p rfl rfl (.extract rfl rfl) ?_
  refine .p rfl rfl (.as rfl) ?_
  refine .p rfl rfl (.as rfl) ?_
  refine .nil (.code (.seq (.seq (.keep [(4, _)] ⟨rfl, trivial⟩ (.region ?_)))))
  refine .p rfl rfl (.mv rfl) ?_
  refine .p rfl rfl (.not rfl) ?_
  refine .nil (.code (.keep [(11, _)] ⟨rfl, trivial⟩ ?_))
  refine .cond rfl (fun c11 => ?_) (fun c11 => ?_)
  · rcases ho7 with ⟨hq, _⟩ | ⟨_, ho⟩
    case inl => exact absurd c11 (by rw [hq]; decide)
    refine .seq (.keep [] trivial (.region ?_))
    refine .p rfl rfl (.as rfl) ?_
    refine .nil (.code ?_)
    refine .ret _ rfl ?_
    exact ⟨by unfold checkT; rw [ho]; rfl, X7⟩
  · rcases ho7 with ⟨_, rows, ho, rfl⟩ | ⟨hq, _⟩
    case inr => exact absurd c11 (by rw [hq]; decide)
    have hmade := open_made ho
    refine .skip (.code (.seq (.keep [] trivial (.region ?_))))
    refine .p rfl rfl (.as rfl) ?_
    refine .nil (.code ?_)
    refine .ret _ rfl ?_
    exact ⟨by unfold checkT; rw [ho]; rfl, X7⟩
namespace table
def newP (l : List Entry) (key : Bs) (seq : Int) : Entry × Bool := match newest l key seq with
  | some x => (x, true)
  | none => (page.zeroE, false)
theorem newP_at {l : List Entry} {key : Bs} {seq : Int} {i : Nat} (hi : i < l.length) (hf : fitK key seq l[i] = true) (ha : ∀ j (h : j < l.length), j < i → fitK key seq l[j] = false) : newP l key seq = (l[i], true) := by
  have : newest l key seq = some l[i] := by
    unfold newest
    rw [List.find?_eq_some_iff_getElem]
    exact ⟨hf, i, hi, rfl, fun j hj => by rw [ha j (by omega) hj]; rfl⟩
  unfold newP
  rw [this]
theorem newP_no {l : List Entry} {key : Bs} {seq : Int} (ha : ∀ j (h : j < l.length), fitK key seq l[j] = false) : newP l key seq = (page.zeroE, false) := by
  have : newest l key seq = none := newest_none (fun x hx => by
    obtain ⟨j, hj, rfl⟩ := List.getElem_of_mem hx
    exact ha j hj)
  unfold newP
  rw [this]
theorem findT_new {b key : Bs} {seq : Int} {rows : List Row} (h : openF b = some rows) (hk : ¬ (key = [] ∨ 256 < key.length)) (hs : ¬ (seq < 0 ∨ 2147483647 < seq)) : findT b key seq = ((newP (entsR rows) key seq).1, (newP (entsR rows) key seq).2, 0) := by
  unfold newP
  cases hn : newest (entsR rows) key seq with
  | none => exact findT_miss h hk hs hn
  | some x => exact findT_some h hk hs hn
end table
theorem RefNewest_fn {w : World} {v : Value} {l : List Entry} {key : Bs} {seq : Int} (h : (Sl tEntry).rep All w v l) : Fn Try.prog 60 [v, str key, i64 seq] w (fun r w2 => r = .tuple #[.agg #[str (newP l key seq).1.key, str (newP l key seq).1.value, i64 (newP l key seq).1.seq, .bool (newP l key seq).1.gone], .bool (newP l key seq).2] ∧ Ext (fun _ => False) w w2) := by
  obtain ⟨a, cap, rfl, hcap⟩ := Sl.val h
  have hlim := Sl.lim h
  simp only [Lim] at hlim
  refine Fn.enter (fun w => Try.call60 _ w) Try.func60 rfl ?_
  refine .seq (.region ?_)
  refine .v rfl rfl (.alloc rfl rfl) ?_
  rintro _ w6 ⟨rfl, N6⟩
  have z6 := N6.size
  refine .p rfl rfl (.as rfl) ?_
  refine .nil (.code (.seq (.seq (.keep [(6, _), (0, _), (1, _), (2, _)] ⟨rfl, rfl, rfl, rfl, trivial⟩ (.region ?_)))))
  refine .p rfl rfl (.as rfl) ?_
  refine .nil (.code (.block ?_))
  refine .loop (S := Nat) (fun s => [(0, .slice a l.length cap), (1, str key), (2, i64 seq), (6, .pointer (some ⟨w.heap.size, 0, none⟩)), (8, i64 s)]) (fun s => w6) (fun s => s ≤ l.length ∧ ∀ j (h : j < l.length), j < s → fitK key seq l[j] = false) (fun s => l.length - s) 0 ⟨rfl, rfl, rfl, rfl, rfl, trivial⟩ rfl ⟨Nat.zero_le _, fun j _ h => absurd h (Nat.not_lt_zero _)⟩ ?_
  rintro i J ⟨hi', ha⟩ again
  refine .seq (.seq (.region ?_))
  refine .p rfl rfl (.mv rfl) ?_
  refine .p rfl rfl (.mv rfl) ?_
  refine .p rfl rfl (.len rfl rfl) ?_
  refine .p rfl rfl (.lt rfl rfl) ?_
  refine .nil (.code (.keep [(12, _), (0, _), (1, _), (2, _), (6, _), (8, _)] ⟨rfl, rfl, rfl, rfl, rfl, rfl, trivial⟩ ?_))
  refine .condD rfl (fun c12 => ?_) (fun c12 => ?_)
  · have hi : i < l.length := by omega
    obtain ⟨b0, o0, c0, ue, e, _, hcs, hre⟩ := Sl.at h (List.getElem?_eq_getElem hi)
    cases e
    obtain ⟨rfl, h1, h2, h3⟩ := tEntry.val hre
    refine .skip (.code (.seq (.block (.seq (.keep [(0, _), (1, _), (2, _), (6, _), (8, _)] ⟨rfl, rfl, rfl, rfl, rfl, trivial⟩ (.region ?_))))))
    refine .p rfl rfl (.mv rfl) ?_
    refine .p rfl rfl (.mv rfl) ?_
    refine .p rfl rfl (.indexAddr (s := 4) rfl rfl rfl rfl (by omega)) ?_
    refine .p rfl rfl (.fieldAddr rfl rfl rfl rfl) ?_
    refine .p rfl rfl (.load rfl rfl rfl ((hcs.ext N6.ext (fun x => x)) 0 _ rfl)) ?_
    refine .p rfl rfl (.mv rfl) ?_
    refine .p rfl rfl (.eqS rfl rfl) ?_
    refine .p rfl rfl (.mv rfl) ?_
    refine .caseD 22 rfl (fun c22 => ?_) (fun c22 => ?_)
    · refine .p rfl rfl (.mv rfl) ?_
      refine .p rfl rfl (.mv rfl) ?_
      refine .p rfl rfl (.indexAddr (s := 4) rfl rfl rfl rfl (by omega)) ?_
      refine .p rfl rfl (.fieldAddr rfl rfl rfl rfl) ?_
      refine .p rfl rfl (.load rfl rfl rfl ((hcs.ext N6.ext (fun x => x)) 2 _ rfl)) ?_
      refine .p rfl rfl (.mv rfl) ?_
      refine .p rfl rfl (.le rfl rfl) ?_
      refine .p rfl rfl (.pickT rfl rfl) ?_
      refine .nil (.code (.keep [(30, _), (0, _), (1, _), (2, _), (6, _), (8, _)] ⟨rfl, rfl, rfl, rfl, rfl, rfl, trivial⟩ ?_))
      refine .condD rfl (fun c30 => ?_) (fun c30 => ?_)
      · refine .seq (.keep [(0, _), (6, _), (8, _)] ⟨rfl, rfl, rfl, trivial⟩ (.region ?_))
        refine .p rfl rfl (.mv rfl) ?_
        refine .p rfl rfl (.mv rfl) ?_
        refine .p rfl rfl (.indexAddr (s := 4) rfl rfl rfl rfl (by omega)) ?_
        refine .p rfl rfl (.loadA (n := 4) rfl rfl rfl rfl rfl (hcs.ext N6.ext (fun x => x))) ?_
        refine .s rfl (.storeAll (n := 4) rfl rfl rfl rfl rfl N6.blk rfl) ?_
        intro wz Pf
        refine .p rfl rfl (.as rfl) ?_
        refine .nil (.code ?_)
        refine .retR (.cell (n := 4) rfl rfl rfl rfl rfl (Pf.blk.cells) (.tmp rfl .nil)) ?_
        rw [newP_at hi (by unfold fitK; rw [decide_eq_true c22, decide_eq_true c30]; rfl) ha]
        exact ⟨rfl, N6.ext.then Pf.ext (by rintro k rfl _; exact Nat.le_refl _)⟩
      · refine .skip (.blk (.code (.keep [(0, _), (1, _), (2, _), (6, _), (8, _)] ⟨rfl, rfl, rfl, rfl, rfl, trivial⟩ (.region ?_))))
        refine .p rfl rfl (.mv rfl) ?_
        refine .p rfl rfl (.add rfl rfl (by omega)) ?_
        refine .p rfl rfl (.as rfl) ?_
        refine .nil ?_
        have hfit : fitK key seq l[i] = false := by unfold fitK; first | (rw [decide_eq_false c30, Bool.and_false]) | (rw [decide_eq_false c22, Bool.false_and])
        exact (again (i + 1) ⟨by omega, (fun j hj hlt => by
          rcases Nat.lt_or_ge j i with h2 | h2
          · exact ha j hj h2
          · have : j = i := by omega
            subst this
            exact hfit)⟩ (by show _ - (i + 1) < _ - i; omega)).of ⟨rfl, rfl, rfl, rfl, rfl, trivial⟩
    · refine .skip rfl rfl ?_
      refine .skip rfl rfl ?_
      refine .skip rfl rfl ?_
      refine .skip rfl rfl ?_
      refine .skip rfl rfl ?_
      refine .skip rfl rfl ?_
      refine .skip rfl rfl ?_
      refine .p rfl rfl (.pickF rfl rfl) ?_
      refine .nil (.code (.keep [(30, _), (0, _), (1, _), (2, _), (6, _), (8, _)] ⟨rfl, rfl, rfl, rfl, rfl, rfl, trivial⟩ (.condF rfl (.skip (.blk (.code (.keep [(0, _), (1, _), (2, _), (6, _), (8, _)] ⟨rfl, rfl, rfl, rfl, rfl, trivial⟩ (.region ?_))))))))
      refine .p rfl rfl (.mv rfl) ?_
      refine .p rfl rfl (.add rfl rfl (by omega)) ?_
      refine .p rfl rfl (.as rfl) ?_
      refine .nil ?_
      have hfit : fitK key seq l[i] = false := by unfold fitK; first | (rw [decide_eq_false c30, Bool.and_false]) | (rw [decide_eq_false c22, Bool.false_and])
      exact (again (i + 1) ⟨by omega, (fun j hj hlt => by
        rcases Nat.lt_or_ge j i with h2 | h2
        · exact ha j hj h2
        · have : j = i := by omega
          subst this
          exact hfit)⟩ (by show _ - (i + 1) < _ - i; omega)).of ⟨rfl, rfl, rfl, rfl, rfl, trivial⟩
  · refine .exit rfl (.code (.seq (.keep [(6, _)] ⟨rfl, trivial⟩ (.region ?_))))
    refine .p rfl rfl (.build (vs := []) (cs := [str [], str [], i64 0, .bool false]) rfl (fun _ => by kernel_rfl)) ?_
    refine .s rfl (.storeAll (n := 4) rfl rfl rfl rfl rfl N6.blk rfl) ?_
    intro wz Pf
    refine .p rfl rfl (.as rfl) ?_
    refine .nil (.code ?_)
    refine .retR (.cell (n := 4) rfl rfl rfl rfl rfl (Pf.blk.cells) (.tmp rfl .nil)) ?_
    rw [newP_no (fun j hj => ha j hj (by omega))]
    exact ⟨rfl, N6.ext.then Pf.ext (by rintro k rfl _; exact Nat.le_refl _)⟩
theorem RefTFind_fn {w : World} {v : Value} {b key : Bs} {seq : Int} (h : tBytes.rep All w v b) : Fn Try.prog 26 [v, str key, i64 seq] w (fun r w2 => r = .tuple #[.agg #[str (findT b key seq).1.key, str (findT b key seq).1.value, i64 (findT b key seq).1.seq, .bool (findT b key seq).1.gone], .bool (findT b key seq).2.1, i64 (findT b key seq).2.2] ∧ Ext (fun _ => False) w w2) := by
  refine Fn.enter (fun w => Try.call26 _ w) Try.func26 rfl ?_
  refine .seq (.region ?_)
  refine .v rfl rfl (.alloc rfl rfl) ?_
  rintro _ w6 ⟨rfl, N6⟩
  have z6 := N6.size
  refine .p rfl rfl (.as rfl) ?_
  refine .p rfl rfl (.as rfl) ?_
  refine .nil (.code (.seq (.keep [(6, _), (0, _), (1, _), (2, _)] ⟨rfl, rfl, rfl, rfl, trivial⟩ (.region ?_))))
  refine .p rfl rfl (.mv rfl) ?_
  refine .call (first := []) (captured := []) rfl rfl rfl rfl (RefTRead_fn (tBytes.ext0 h N6.ext)) ?_
  rintro _ w15 ⟨v15, q15, l, rfl, O15, ho15, X15⟩
  have z15 := X15.size
  refine .p rfl rfl (.mv rfl) ?_
  refine .p rfl rfl (.extract rfl rfl) ?_
  refine .p rfl rfl (.extract rfl rfl) ?_
  refine .p rfl rfl (.as rfl) ?_
  refine .p rfl rfl (.as rfl) ?_
  refine .nil (.code (.seq (.seq (.keep [(10, _), (9, _), (6, _), (1, _), (2, _)] ⟨rfl, rfl, rfl, rfl, rfl, trivial⟩ (.region ?_)))))
  refine .p rfl rfl (.mv rfl) ?_
  refine .p rfl rfl (.not rfl) ?_
  refine .nil (.code (.keep [(19, _), (9, _), (6, _), (1, _), (2, _)] ⟨rfl, rfl, rfl, rfl, rfl, trivial⟩ ?_))
  refine .cond rfl (fun c19 => ?_) (fun c19 => ?_)
  · rcases ho15 with ⟨hq, _⟩ | ⟨_, ho⟩
    case inl => exact absurd c19 (by rw [hq]; decide)
    refine .seq (.keep [(6, _)] ⟨rfl, trivial⟩ (.region ?_))
    refine .p rfl rfl (.build (vs := []) (cs := [str [], str [], i64 0, .bool false]) rfl (fun _ => by kernel_rfl)) ?_
    refine .s rfl (.storeAll (n := 4) rfl rfl rfl rfl rfl (N6.blk.ext X15 (fun x => x)) rfl) ?_
    intro wz Pf
    refine .p rfl rfl (.as rfl) ?_
    refine .p rfl rfl (.as rfl) ?_
    refine .nil (.code ?_)
    refine .retR (.cell (n := 4) rfl rfl rfl rfl rfl (Pf.blk.cells) (.tmp rfl (.tmp rfl .nil))) ?_
    rw [findT_none ho]
    exact ⟨rfl, (N6.ext.trans X15).then Pf.ext (by rintro k rfl _; show w.heap.size ≤ _; omega)⟩
  · rcases ho15 with ⟨_, rows, ho, rfl⟩ | ⟨hq, _⟩
    case inr => exact absurd c19 (by rw [hq]; decide)
    have hmade := open_made ho
    refine .skip (.code (.seq (.seq (.keep [(9, _), (6, _), (1, _), (2, _)] ⟨rfl, rfl, rfl, rfl, trivial⟩ (.region ?_)))))
    refine .p rfl rfl (.mv rfl) ?_
    refine .p rfl rfl (.lenS rfl rfl) ?_
    refine .p rfl rfl (.lt rfl rfl) ?_
    refine .p rfl rfl (.mv rfl) ?_
    refine .caseD 24 rfl (fun c24 => ?_) (fun c24 => ?_)
    · refine .skip rfl rfl ?_
      refine .skip rfl rfl ?_
      refine .skip rfl rfl ?_
      refine .p rfl rfl (.pickT rfl rfl) ?_
      refine .nil (.code (.keep [(28, _), (9, _), (6, _), (1, _), (2, _)] ⟨rfl, rfl, rfl, rfl, rfl, trivial⟩ (.condT rfl (.seq (.keep [(6, _)] ⟨rfl, trivial⟩ (.region ?_))))))
      refine .p rfl rfl (.build (vs := []) (cs := [str [], str [], i64 0, .bool false]) rfl (fun _ => by kernel_rfl)) ?_
      refine .s rfl (.storeAll (n := 4) rfl rfl rfl rfl rfl (N6.blk.ext X15 (fun x => x)) rfl) ?_
      intro wz Pf
      refine .p rfl rfl (.as rfl) ?_
      refine .p rfl rfl (.as rfl) ?_
      refine .nil (.code ?_)
      refine .retR (.cell (n := 4) rfl rfl rfl rfl rfl (Pf.blk.cells) (.tmp rfl (.tmp rfl .nil))) ?_
      rw [findT_key ho (by first | exact .inr (by omega) | exact .inl (List.length_eq_zero_iff.1 (by omega)))]
      exact ⟨rfl, (N6.ext.trans X15).then Pf.ext (by rintro k rfl _; show w.heap.size ≤ _; omega)⟩
    · refine .p rfl rfl (.mv rfl) ?_
      refine .p rfl rfl (.lenS rfl rfl) ?_
      refine .p rfl rfl (.gt rfl rfl) ?_
      refine .p rfl rfl (.pickF rfl rfl) ?_
      refine .nil (.code (.keep [(28, _), (9, _), (6, _), (1, _), (2, _)] ⟨rfl, rfl, rfl, rfl, rfl, trivial⟩ ?_))
      refine .condD rfl (fun c28 => ?_) (fun c28 => ?_)
      · refine .seq (.keep [(6, _)] ⟨rfl, trivial⟩ (.region ?_))
        refine .p rfl rfl (.build (vs := []) (cs := [str [], str [], i64 0, .bool false]) rfl (fun _ => by kernel_rfl)) ?_
        refine .s rfl (.storeAll (n := 4) rfl rfl rfl rfl rfl (N6.blk.ext X15 (fun x => x)) rfl) ?_
        intro wz Pf
        refine .p rfl rfl (.as rfl) ?_
        refine .p rfl rfl (.as rfl) ?_
        refine .nil (.code ?_)
        refine .retR (.cell (n := 4) rfl rfl rfl rfl rfl (Pf.blk.cells) (.tmp rfl (.tmp rfl .nil))) ?_
        rw [findT_key ho (by first | exact .inr (by omega) | exact .inl (List.length_eq_zero_iff.1 (by omega)))]
        exact ⟨rfl, (N6.ext.trans X15).then Pf.ext (by rintro k rfl _; show w.heap.size ≤ _; omega)⟩
      · refine .skip (.code (.seq (.seq (.keep [(9, _), (6, _), (1, _), (2, _)] ⟨rfl, rfl, rfl, rfl, trivial⟩ (.region ?_)))))
        refine .p rfl rfl (.mv rfl) ?_
        refine .p rfl rfl (.lt rfl rfl) ?_
        refine .p rfl rfl (.mv rfl) ?_
        refine .caseD 32 rfl (fun c32 => ?_) (fun c32 => ?_)
        · refine .skip rfl rfl ?_
          refine .skip rfl rfl ?_
          refine .p rfl rfl (.pickT rfl rfl) ?_
          refine .nil (.code (.keep [(35, _), (9, _), (6, _), (1, _), (2, _)] ⟨rfl, rfl, rfl, rfl, rfl, trivial⟩ (.condT rfl (.seq (.keep [(6, _)] ⟨rfl, trivial⟩ (.region ?_))))))
          refine .p rfl rfl (.build (vs := []) (cs := [str [], str [], i64 0, .bool false]) rfl (fun _ => by kernel_rfl)) ?_
          refine .s rfl (.storeAll (n := 4) rfl rfl rfl rfl rfl (N6.blk.ext X15 (fun x => x)) rfl) ?_
          intro wz Pf
          refine .p rfl rfl (.as rfl) ?_
          refine .p rfl rfl (.as rfl) ?_
          refine .nil (.code ?_)
          refine .retR (.cell (n := 4) rfl rfl rfl rfl rfl (Pf.blk.cells) (.tmp rfl (.tmp rfl .nil))) ?_
          rw [findT_seq ho (fun hh => hh.elim (fun e => by rw [e] at c24; exact c24 (by decide)) (by omega)) (by first | exact .inl (by omega) | exact .inr (by omega))]
          exact ⟨rfl, (N6.ext.trans X15).then Pf.ext (by rintro k rfl _; show w.heap.size ≤ _; omega)⟩
        · refine .p rfl rfl (.mv rfl) ?_
          refine .p rfl rfl (.gt rfl rfl) ?_
          refine .p rfl rfl (.pickF rfl rfl) ?_
          refine .nil (.code (.keep [(35, _), (9, _), (6, _), (1, _), (2, _)] ⟨rfl, rfl, rfl, rfl, rfl, trivial⟩ ?_))
          refine .condD rfl (fun c35 => ?_) (fun c35 => ?_)
          · refine .seq (.keep [(6, _)] ⟨rfl, trivial⟩ (.region ?_))
            refine .p rfl rfl (.build (vs := []) (cs := [str [], str [], i64 0, .bool false]) rfl (fun _ => by kernel_rfl)) ?_
            refine .s rfl (.storeAll (n := 4) rfl rfl rfl rfl rfl (N6.blk.ext X15 (fun x => x)) rfl) ?_
            intro wz Pf
            refine .p rfl rfl (.as rfl) ?_
            refine .p rfl rfl (.as rfl) ?_
            refine .nil (.code ?_)
            refine .retR (.cell (n := 4) rfl rfl rfl rfl rfl (Pf.blk.cells) (.tmp rfl (.tmp rfl .nil))) ?_
            rw [findT_seq ho (fun hh => hh.elim (fun e => by rw [e] at c24; exact c24 (by decide)) (by omega)) (by first | exact .inl (by omega) | exact .inr (by omega))]
            exact ⟨rfl, (N6.ext.trans X15).then Pf.ext (by rintro k rfl _; show w.heap.size ≤ _; omega)⟩
          · refine .skip (.code (.seq (.keep [(9, _), (6, _), (1, _), (2, _)] ⟨rfl, rfl, rfl, rfl, trivial⟩ (.region ?_))))
            refine .p rfl rfl (.mv rfl) ?_
            refine .p rfl rfl (.mv rfl) ?_
            refine .p rfl rfl (.mv rfl) ?_
            refine .call (first := []) (captured := []) rfl rfl rfl rfl (RefNewest_fn (key := key) (seq := seq) (OwnO.rep O15 (fun _ _ _ => trivial) (fun _ h _ => h.elim))) ?_
            rintro _ w41 ⟨rfl, X41⟩
            have z41 := X41.size
            refine .p rfl rfl (.mv rfl) ?_
            refine .p rfl rfl (.extract rfl rfl) ?_
            refine .p rfl rfl (.extract rfl rfl) ?_
            refine .v rfl rfl (.alloc rfl rfl) ?_
            rintro _ w11 ⟨rfl, N11⟩
            have z11 := N11.size
            refine .s rfl (.storeAll (n := 4) rfl rfl rfl rfl rfl N11.blk rfl) ?_
            intro w12 P11
            have X11 := N11.ext.then P11.ext (by rintro k rfl _; exact Nat.le_refl _)
            have B11 := P11.blk
            refine .p rfl rfl (.as rfl) ?_
            refine .nil (.code (.seq (.keep [(12, _), (11, _), (6, _)] ⟨rfl, rfl, rfl, trivial⟩ (.region ?_))))
            refine .p rfl rfl (.loadA (n := 4) rfl rfl rfl rfl rfl B11.cells) ?_
            refine .p rfl rfl (.mv rfl) ?_
            refine .s rfl (.storeAll (n := 4) rfl rfl rfl rfl rfl (((N6.blk.ext X15 (fun x => x)).ext X41 (fun x => x)).ext X11 (fun x => x)) rfl) ?_
            intro wz Pf
            refine .p rfl rfl (.as rfl) ?_
            refine .p rfl rfl (.as rfl) ?_
            refine .nil (.code ?_)
            refine .retR (.cell (n := 4) rfl rfl rfl rfl rfl (Pf.blk.cells) (.tmp rfl (.tmp rfl .nil))) ?_
            rw [findT_new ho (fun hh => hh.elim (fun e => by rw [e] at c24; exact c24 (by decide)) (by omega)) (by omega)]
            exact ⟨rfl, (((N6.ext.trans X15).trans X41).trans X11).then Pf.ext (by rintro k rfl _; show w.heap.size ≤ _; omega)⟩
theorem RefTRange_fn {w : World} {v : Value} {b lo hi : Bs} (h : tBytes.rep All w v b) : Fn Try.prog 27 [v, str lo, str hi] w (fun r w2 => ∃ v', r = .tuple #[v', i64 (rangeT b lo hi).2] ∧ OwnO tEntry (fun _ => False) 33 w2 v' (rangeT b lo hi).1 (fun k => w.heap.size ≤ k) ∧ Ext (fun _ => False) w w2) := by
  refine Fn.enter (fun w => Try.call27 _ w) Try.func27 rfl ?_
  refine .seq (.region ?_)
  refine .p rfl rfl (.as rfl) ?_
  refine .p rfl rfl (.as rfl) ?_
  refine .nil (.code (.seq (.keep [(0, _), (1, _), (2, _)] ⟨rfl, rfl, rfl, trivial⟩ (.region ?_))))
  refine .p rfl rfl (.mv rfl) ?_
  refine .call (first := []) (captured := []) rfl rfl rfl rfl (RefTRead_fn h) ?_
  rintro _ w14 ⟨v14, q14, l, rfl, O14, ho14, X14⟩
  have z14 := X14.size
  refine .p rfl rfl (.mv rfl) ?_
  refine .p rfl rfl (.extract rfl rfl) ?_
  refine .p rfl rfl (.extract rfl rfl) ?_
  refine .p rfl rfl (.as rfl) ?_
  refine .p rfl rfl (.as rfl) ?_
  refine .nil (.code (.seq (.seq (.keep [(9, _), (8, _), (1, _), (2, _)] ⟨rfl, rfl, rfl, rfl, trivial⟩ (.region ?_)))))
  refine .p rfl rfl (.mv rfl) ?_
  refine .p rfl rfl (.not rfl) ?_
  refine .nil (.code (.keep [(18, _), (8, _), (1, _), (2, _)] ⟨rfl, rfl, rfl, rfl, trivial⟩ ?_))
  refine .cond rfl (fun c18 => ?_) (fun c18 => ?_)
  · rcases ho14 with ⟨hq, _⟩ | ⟨_, ho⟩
    case inl => exact absurd c18 (by rw [hq]; decide)
    refine .seq (.keep [] trivial (.region ?_))
    refine .p rfl rfl (.as rfl) ?_
    refine .p rfl rfl (.as rfl) ?_
    refine .nil (.code ?_)
    refine .ret _ rfl ?_
    rw [range_no ho]
    exact ⟨_, rfl, OwnO.nil, X14⟩
  · rcases ho14 with ⟨_, rows, ho, rfl⟩ | ⟨hq, _⟩
    case inr => exact absurd c18 (by rw [hq]; decide)
    have hmade := open_made ho
    have hl4 := (check_ok (makeT_ok hmade).1).1
    obtain ⟨a14, c14, rfl, hc14⟩ := OwnO.val O14
    have R14 := (OwnO.rep O14 (fun _ _ _ => trivial) (fun _ h _ => h.elim))
    refine .skip (.code (.seq (.seq (.keep [(8, _), (1, _), (2, _)] ⟨rfl, rfl, rfl, trivial⟩ (.region ?_)))))
    refine .p rfl rfl (.mv rfl) ?_
    refine .p rfl rfl (.lenS rfl rfl) ?_
    refine .p rfl rfl (.gt rfl rfl) ?_
    refine .p rfl rfl (.mv rfl) ?_
    refine .caseD 22 rfl (fun c22 => ?_) (fun c22 => ?_)
    · refine .skip rfl rfl ?_
      refine .skip rfl rfl ?_
      refine .skip rfl rfl ?_
      refine .p rfl rfl (.pickT rfl rfl) ?_
      refine .nil (.code (.keep [(26, _), (8, _), (1, _), (2, _)] ⟨rfl, rfl, rfl, rfl, trivial⟩ (.condT rfl (.seq (.keep [] trivial (.region ?_))))))
      refine .p rfl rfl (.as rfl) ?_
      refine .p rfl rfl (.as rfl) ?_
      refine .nil (.code ?_)
      refine .ret _ rfl ?_
      rw [show rangeT b lo hi = ([], 3) by unfold rangeT; rw [ho]; simp only; rw [if_pos (by omega)]]
      exact ⟨_, rfl, OwnO.nil, X14⟩
    · refine .p rfl rfl (.mv rfl) ?_
      refine .p rfl rfl (.lenS rfl rfl) ?_
      refine .p rfl rfl (.gt rfl rfl) ?_
      refine .p rfl rfl (.pickF rfl rfl) ?_
      refine .nil (.code (.keep [(26, _), (8, _), (1, _), (2, _)] ⟨rfl, rfl, rfl, rfl, trivial⟩ ?_))
      refine .condD rfl (fun c26 => ?_) (fun c26 => ?_)
      · refine .seq (.keep [] trivial (.region ?_))
        refine .p rfl rfl (.as rfl) ?_
        refine .p rfl rfl (.as rfl) ?_
        refine .nil (.code ?_)
        refine .ret _ rfl ?_
        rw [show rangeT b lo hi = ([], 3) by unfold rangeT; rw [ho]; simp only; rw [if_pos (by omega)]]
        exact ⟨_, rfl, OwnO.nil, X14⟩
      · refine .skip (.code (.seq (.keep [(8, _), (1, _), (2, _)] ⟨rfl, rfl, rfl, trivial⟩ (.region ?_))))
        refine .p rfl rfl (.as rfl) ?_
        refine .nil (.code (.seq (.seq (.region ?_))))
        refine .p rfl rfl (.as rfl) ?_
        refine .nil (.code (.block ?_))
        refine .loop (S := Nat × Value × World) (fun s => [(1, str lo), (2, str hi), (8, .slice a14 (entsR rows).length c14), (10, s.2.1), (11, i64 s.1)]) (fun s => s.2.2) (fun s => s.1 ≤ (entsR rows).length ∧ OwnO tEntry (fun _ => False) 33 s.2.2 s.2.1 (((entsR rows).take s.1).filter (fun x => !outK lo hi x)) (fun k => w14.heap.size ≤ k) ∧ Ext (fun _ => False) w14 s.2.2) (fun s => (entsR rows).length - s.1) (0, _, w14) ⟨rfl, rfl, rfl, rfl, rfl, trivial⟩ rfl ⟨Nat.zero_le _, OwnO.nil, .refl _⟩ ?_
        rintro ⟨i, v10, wi⟩ J ⟨hi', hO, hX⟩ again
        simp only at hi' hO hX
        have zwi := hX.size
        change G _ [(1, str lo), (2, str hi), (8, .slice a14 (entsR rows).length c14), (10, v10), (11, i64 i)] _ _ wi
        refine .seq (.seq (.region ?_))
        refine .p rfl rfl (.mv rfl) ?_
        refine .p rfl rfl (.mv rfl) ?_
        refine .p rfl rfl (.len rfl rfl) ?_
        refine .p rfl rfl (.lt rfl rfl) ?_
        refine .nil (.code (.keep [(30, _), (1, _), (2, _), (8, _), (10, _), (11, _)] ⟨rfl, rfl, rfl, rfl, rfl, rfl, trivial⟩ ?_))
        refine .condD rfl (fun c30 => ?_) (fun c30 => ?_)
        · have hil : i < (entsR rows).length := by omega
          obtain ⟨b0, o0, c0, ue, e, _, hcs, hre⟩ := Sl.at R14 (List.getElem?_eq_getElem hil)
          injection e with ea _ _
          subst ea
          obtain ⟨rfl, h1, h2, h3⟩ := tEntry.val hre
          have hfs := filter_step (q := (fun x => !outK lo hi x)) hil
          refine .skip (.code (.seq (.block (.seq (.keep [(1, _), (2, _), (8, _), (10, _), (11, _)] ⟨rfl, rfl, rfl, rfl, rfl, trivial⟩ (.region ?_))))))
          refine .p rfl rfl (.mv rfl) ?_
          refine .p rfl rfl (.mv rfl) ?_
          refine .p rfl rfl (.indexAddr (s := 4) rfl rfl rfl rfl (by omega)) ?_
          refine .p rfl rfl (.fieldAddr rfl rfl rfl rfl) ?_
          refine .p rfl rfl (.load rfl rfl rfl ((hcs.ext hX (fun x => x)) 0 _ rfl)) ?_
          refine .p rfl rfl (.mv rfl) ?_
          refine .p rfl rfl (.geS rfl rfl) ?_
          refine .p rfl rfl (.mv rfl) ?_
          refine .case 40 rfl (fun c40 => ?_) (fun c40 => ?_)
          · refine .p rfl rfl (.mv rfl) ?_
            refine .p rfl rfl (.eqS rfl rfl) ?_
            refine .p rfl rfl (.mv rfl) ?_
            refine .caseD 43 rfl (fun c43 => ?_) (fun c43 => ?_)
            · refine .skip rfl rfl ?_
              refine .skip rfl rfl ?_
              refine .skip rfl rfl ?_
              refine .skip rfl rfl ?_
              refine .skip rfl rfl ?_
              refine .skip rfl rfl ?_
              refine .skip rfl rfl ?_
              refine .p rfl rfl (.pickT rfl rfl) ?_
              refine .p rfl rfl (.pickT rfl rfl) ?_
              refine .nil (.code (.keep [(52, _), (1, _), (2, _), (8, _), (10, _), (11, _)] ⟨rfl, rfl, rfl, rfl, rfl, rfl, trivial⟩ (.condT rfl (.keep [(1, _), (2, _), (8, _), (10, _), (11, _)] ⟨rfl, rfl, rfl, rfl, rfl, trivial⟩ (.region ?_)))))
              refine .p rfl rfl (.mv rfl) ?_
              refine .p rfl rfl (.mv rfl) ?_
              refine .p rfl rfl (.mv rfl) ?_
              refine .p rfl rfl (.indexAddr (s := 4) rfl rfl rfl rfl (by omega)) ?_
              refine .p rfl rfl (.loadA (n := 4) rfl rfl rfl rfl rfl (hcs.ext hX (fun x => x))) ?_
              refine .v rfl rfl (.lits rfl rfl (fun _ => by kernel_rfl)) ?_
              rintro _ w58 ⟨rfl, N58⟩
              have z58 : w58.heap.size = wi.heap.size + 1 := N58.size
              refine .v rfl rfl (.appendLo (t := tEntry) (Q := fun _ => False) (xs := ((entsR rows).take i).filter (fun x => !outK lo hi x)) (ys := [(entsR rows)[i]]) (B := fun k => w14.heap.size ≤ k) (eb := 48) rfl (OwnO.ext0 hO N58.ext) (fun k hk => by have hk : w58.heap.size ≤ k := hk; show w14.heap.size ≤ k; omega) rfl (.inr (New.holds (t := tEntry) (us := [_]) (xs := [(entsR rows)[i]]) N58 (.cons (tEntry.mk h1 h2 h3) .nil) rfl)) rfl rfl rfl rfl rfl rfl rfl (by have := List.length_filter_le (fun x => !outK lo hi x) ((entsR rows).take i); rw [List.length_take] at this; rw [List.length_singleton]; omega) (by have := List.length_filter_le (fun x => !outK lo hi x) ((entsR rows).take i); rw [List.length_take] at this; rw [List.length_singleton]; simp only [Lim]; omega) (fun _ h _ => h.elim)) ?_
              rintro r59 w59 ⟨O59, Y59⟩
              refine .p rfl rfl (.as rfl) ?_
              refine .nil (.blk (.code (.keep [(10, _), (1, _), (2, _), (8, _), (11, _)] ⟨rfl, rfl, rfl, rfl, rfl, trivial⟩ (.region ?_))))
              refine .p rfl rfl (.mv rfl) ?_
              refine .p rfl rfl (.add rfl rfl (by omega)) ?_
              refine .p rfl rfl (.as rfl) ?_
              refine .nil ?_
              have hkp : outK lo hi (entsR rows)[i] = false := by unfold outK; rw [show Op.bytesLess (entsR rows)[i].key lo = false by simpa using c40, decide_eq_false (fun hn => hn c43)]; rfl
              exact (again (i + 1, r59, w59) ⟨by show i + 1 ≤ _; omega, by show OwnO tEntry _ _ w59 r59 (((entsR rows).take (i + 1)).filter _) _; rw [hfs, if_pos (by rw [hkp]; rfl)]; exact O59, (hX.trans N58.ext).then Y59 (fun k h _ => h)⟩ (by show _ - (i + 1) < _ - i; omega)).of ⟨rfl, rfl, rfl, rfl, rfl, trivial⟩
            · refine .p rfl rfl (.mv rfl) ?_
              refine .p rfl rfl (.mv rfl) ?_
              refine .p rfl rfl (.indexAddr (s := 4) rfl rfl rfl rfl (by omega)) ?_
              refine .p rfl rfl (.fieldAddr rfl rfl rfl rfl) ?_
              refine .p rfl rfl (.load rfl rfl rfl ((hcs.ext hX (fun x => x)) 0 _ rfl)) ?_
              refine .p rfl rfl (.mv rfl) ?_
              refine .p rfl rfl (.ltS rfl rfl) ?_
              refine .p rfl rfl (.pickF rfl rfl) ?_
              refine .p rfl rfl (.pickT rfl rfl) ?_
              refine .nil (.code (.keep [(52, _), (1, _), (2, _), (8, _), (10, _), (11, _)] ⟨rfl, rfl, rfl, rfl, rfl, rfl, trivial⟩ ?_))
              refine .cond rfl (fun c52 => ?_) (fun c52 => ?_)
              · refine .keep [(1, _), (2, _), (8, _), (10, _), (11, _)] ⟨rfl, rfl, rfl, rfl, rfl, trivial⟩ (.region ?_)
                refine .p rfl rfl (.mv rfl) ?_
                refine .p rfl rfl (.mv rfl) ?_
                refine .p rfl rfl (.mv rfl) ?_
                refine .p rfl rfl (.indexAddr (s := 4) rfl rfl rfl rfl (by omega)) ?_
                refine .p rfl rfl (.loadA (n := 4) rfl rfl rfl rfl rfl (hcs.ext hX (fun x => x))) ?_
                refine .v rfl rfl (.lits rfl rfl (fun _ => by kernel_rfl)) ?_
                rintro _ w58 ⟨rfl, N58⟩
                have z58 : w58.heap.size = wi.heap.size + 1 := N58.size
                refine .v rfl rfl (.appendLo (t := tEntry) (Q := fun _ => False) (xs := ((entsR rows).take i).filter (fun x => !outK lo hi x)) (ys := [(entsR rows)[i]]) (B := fun k => w14.heap.size ≤ k) (eb := 48) rfl (OwnO.ext0 hO N58.ext) (fun k hk => by have hk : w58.heap.size ≤ k := hk; show w14.heap.size ≤ k; omega) rfl (.inr (New.holds (t := tEntry) (us := [_]) (xs := [(entsR rows)[i]]) N58 (.cons (tEntry.mk h1 h2 h3) .nil) rfl)) rfl rfl rfl rfl rfl rfl rfl (by have := List.length_filter_le (fun x => !outK lo hi x) ((entsR rows).take i); rw [List.length_take] at this; rw [List.length_singleton]; omega) (by have := List.length_filter_le (fun x => !outK lo hi x) ((entsR rows).take i); rw [List.length_take] at this; rw [List.length_singleton]; simp only [Lim]; omega) (fun _ h _ => h.elim)) ?_
                rintro r59 w59 ⟨O59, Y59⟩
                refine .p rfl rfl (.as rfl) ?_
                refine .nil (.blk (.code (.keep [(10, _), (1, _), (2, _), (8, _), (11, _)] ⟨rfl, rfl, rfl, rfl, rfl, trivial⟩ (.region ?_))))
                refine .p rfl rfl (.mv rfl) ?_
                refine .p rfl rfl (.add rfl rfl (by omega)) ?_
                refine .p rfl rfl (.as rfl) ?_
                refine .nil ?_
                have hkp : outK lo hi (entsR rows)[i] = false := by unfold outK; rw [show Op.bytesLess (entsR rows)[i].key lo = false by simpa using c40, c52, Bool.not_true, Bool.and_false]; rfl
                exact (again (i + 1, r59, w59) ⟨by show i + 1 ≤ _; omega, by show OwnO tEntry _ _ w59 r59 (((entsR rows).take (i + 1)).filter _) _; rw [hfs, if_pos (by rw [hkp]; rfl)]; exact O59, (hX.trans N58.ext).then Y59 (fun k h _ => h)⟩ (by show _ - (i + 1) < _ - i; omega)).of ⟨rfl, rfl, rfl, rfl, rfl, trivial⟩
              · refine .skip (.blk (.code (.keep [(1, _), (2, _), (8, _), (10, _), (11, _)] ⟨rfl, rfl, rfl, rfl, rfl, trivial⟩ (.region ?_))))
                refine .p rfl rfl (.mv rfl) ?_
                refine .p rfl rfl (.add rfl rfl (by omega)) ?_
                refine .p rfl rfl (.as rfl) ?_
                refine .nil ?_
                have hkp : outK lo hi (entsR rows)[i] = true := by unfold outK; rw [c52, decide_eq_true c43]; simp
                exact (again (i + 1, v10, wi) ⟨by show i + 1 ≤ _; omega, by show OwnO tEntry _ _ wi v10 (((entsR rows).take (i + 1)).filter _) _; rw [hfs, if_neg (by rw [hkp]; exact Bool.false_ne_true), List.append_nil]; exact hO, hX⟩ (by show _ - (i + 1) < _ - i; omega)).of ⟨rfl, rfl, rfl, rfl, rfl, trivial⟩
          · refine .skip rfl rfl ?_
            refine .skip rfl rfl ?_
            refine .skip rfl rfl ?_
            refine .skip rfl rfl ?_
            refine .skip rfl rfl ?_
            refine .skip rfl rfl ?_
            refine .skip rfl rfl ?_
            refine .skip rfl rfl ?_
            refine .skip rfl rfl ?_
            refine .skip rfl rfl ?_
            refine .skip rfl rfl ?_
            refine .p rfl rfl (.pickF rfl rfl) ?_
            refine .nil (.code (.keep [(52, _), (1, _), (2, _), (8, _), (10, _), (11, _)] ⟨rfl, rfl, rfl, rfl, rfl, rfl, trivial⟩ (.condF rfl (.skip (.blk (.code (.keep [(1, _), (2, _), (8, _), (10, _), (11, _)] ⟨rfl, rfl, rfl, rfl, rfl, trivial⟩ (.region ?_))))))))
            refine .p rfl rfl (.mv rfl) ?_
            refine .p rfl rfl (.add rfl rfl (by omega)) ?_
            refine .p rfl rfl (.as rfl) ?_
            refine .nil ?_
            have hkp : outK lo hi (entsR rows)[i] = true := by unfold outK; rw [show Op.bytesLess (entsR rows)[i].key lo = true by simpa using c40]; rfl
            exact (again (i + 1, v10, wi) ⟨by show i + 1 ≤ _; omega, by show OwnO tEntry _ _ wi v10 (((entsR rows).take (i + 1)).filter _) _; rw [hfs, if_neg (by rw [hkp]; exact Bool.false_ne_true), List.append_nil]; exact hO, hX⟩ (by show _ - (i + 1) < _ - i; omega)).of ⟨rfl, rfl, rfl, rfl, rfl, trivial⟩
        · obtain rfl : i = (entsR rows).length := by omega
          rw [List.take_length] at hO
          refine .exit rfl (.code (.seq (.keep [(10, _)] ⟨rfl, trivial⟩ (.region ?_))))
          refine .p rfl rfl (.mv rfl) ?_
          refine .p rfl rfl (.as rfl) ?_
          refine .p rfl rfl (.as rfl) ?_
          refine .nil (.code ?_)
          refine .ret _ rfl ?_
          rw [show rangeT b lo hi = ((entsR rows).filter (fun x => !outK lo hi x), 0) by unfold rangeT; rw [ho]; simp only; rw [if_neg (by omega)]]
          exact ⟨_, rfl, OwnO.mono hO (fun _ h _ => h) (fun k h _ => Nat.le_trans z14 h), X14.trans hX⟩
theorem RefTAll_fn {w : World} {v : Value} {b : Bs} (h : tBytes.rep All w v b) : Fn Try.prog 28 [v] w (fun r w2 => ∃ v', r = .tuple #[v', i64 (rangeT b [] []).2] ∧ OwnO tEntry (fun _ => False) 33 w2 v' (rangeT b [] []).1 (fun k => w.heap.size ≤ k) ∧ Ext (fun _ => False) w w2) := by
  refine Fn.enter (fun w => Try.call28 _ w) Try.func28 rfl ?_
  refine .seq (.region ?_)
  refine .p rfl rfl (.as rfl) ?_
  refine .p rfl rfl (.as rfl) ?_
  refine .nil (.code (.seq (.keep [(0, _)] ⟨rfl, trivial⟩ (.region ?_))))
  refine .p rfl rfl (.mv rfl) ?_
  refine .call (first := []) (captured := []) rfl rfl rfl rfl (RefTRead_fn h) ?_
  rintro _ w8 ⟨v8, q8, l, rfl, O8, ho8, X8⟩
  have z8 := X8.size
  refine .p rfl rfl (.mv rfl) ?_
  refine .p rfl rfl (.extract rfl rfl) ?_
  refine .p rfl rfl (.extract rfl rfl) ?_
  refine .p rfl rfl (.as rfl) ?_
  refine .p rfl rfl (.as rfl) ?_
  refine .nil (.code (.seq (.seq (.keep [(5, _), (4, _)] ⟨rfl, rfl, trivial⟩ (.region ?_)))))
  refine .p rfl rfl (.mv rfl) ?_
  refine .p rfl rfl (.not rfl) ?_
  refine .nil (.code (.keep [(12, _), (4, _)] ⟨rfl, rfl, trivial⟩ ?_))
  refine .cond rfl (fun c12 => ?_) (fun c12 => ?_)
  · rcases ho8 with ⟨hq, _⟩ | ⟨_, ho⟩
    case inl => exact absurd c12 (by rw [hq]; decide)
    refine .seq (.keep [] trivial (.region ?_))
    refine .p rfl rfl (.as rfl) ?_
    refine .p rfl rfl (.as rfl) ?_
    refine .nil (.code ?_)
    refine .ret _ rfl ?_
    rw [range_no ho]
    exact ⟨_, rfl, OwnO.nil, X8⟩
  · rcases ho8 with ⟨_, rows, ho, rfl⟩ | ⟨hq, _⟩
    case inr => exact absurd c12 (by rw [hq]; decide)
    have hmade := open_made ho
    refine .skip (.code (.seq (.keep [(4, _)] ⟨rfl, trivial⟩ (.region ?_))))
    refine .p rfl rfl (.mv rfl) ?_
    refine .p rfl rfl (.as rfl) ?_
    refine .p rfl rfl (.as rfl) ?_
    refine .nil (.code ?_)
    refine .ret _ rfl ?_
    rw [range_all ho]
    exact ⟨_, rfl, O8, X8⟩
theorem RefTEnds_fn {w : World} {v : Value} {b : Bs} (h : tBytes.rep All w v b) : Fn Try.prog 29 [v] w (fun r w2 => r = .tuple #[str (endsT b).1, str (endsT b).2.1, i64 (endsT b).2.2] ∧ Ext (fun _ => False) w w2) := by
  refine Fn.enter (fun w => Try.call29 _ w) Try.func29 rfl ?_
  refine .seq (.region ?_)
  refine .p rfl rfl (.as rfl) ?_
  refine .p rfl rfl (.as rfl) ?_
  refine .p rfl rfl (.as rfl) ?_
  refine .nil (.code (.seq (.keep [(0, _)] ⟨rfl, trivial⟩ (.region ?_))))
  refine .p rfl rfl (.mv rfl) ?_
  refine .call (first := []) (captured := []) rfl rfl rfl rfl (RefTRead_fn h) ?_
  rintro _ w9 ⟨v9, q9, l, rfl, O9, ho9, X9⟩
  have z9 := X9.size
  refine .p rfl rfl (.mv rfl) ?_
  refine .p rfl rfl (.extract rfl rfl) ?_
  refine .p rfl rfl (.extract rfl rfl) ?_
  refine .p rfl rfl (.as rfl) ?_
  refine .p rfl rfl (.as rfl) ?_
  refine .nil (.code (.seq (.seq (.keep [(6, _), (5, _)] ⟨rfl, rfl, trivial⟩ (.region ?_)))))
  refine .p rfl rfl (.mv rfl) ?_
  refine .p rfl rfl (.not rfl) ?_
  refine .nil (.code (.keep [(13, _), (5, _)] ⟨rfl, rfl, trivial⟩ ?_))
  refine .cond rfl (fun c13 => ?_) (fun c13 => ?_)
  · rcases ho9 with ⟨hq, _⟩ | ⟨_, ho⟩
    case inl => exact absurd c13 (by rw [hq]; decide)
    refine .seq (.keep [] trivial (.region ?_))
    refine .p rfl rfl (.as rfl) ?_
    refine .p rfl rfl (.as rfl) ?_
    refine .p rfl rfl (.as rfl) ?_
    refine .nil (.code ?_)
    refine .ret _ rfl ?_
    exact ⟨by unfold endsT; rw [ho]; rfl, X9⟩
  · rcases ho9 with ⟨_, rows, ho, rfl⟩ | ⟨hq, _⟩
    case inr => exact absurd c13 (by rw [hq]; decide)
    have hmade := open_made ho
    have hp := List.length_pos_iff.2 (makeT_ok hmade).2.1
    have hl4 := (check_ok (makeT_ok hmade).1).1
    obtain ⟨a9, c9, rfl, hc9⟩ := OwnO.val O9
    have R9 := (OwnO.rep O9 (fun _ _ _ => trivial) (fun _ h _ => h.elim))
    obtain ⟨ba, oa, rfl⟩ : ∃ ba oa, a9 = some ⟨ba, oa, none⟩ := by
      obtain ⟨b0, o0, q0, ue0, e0, _⟩ := Sl.at R9 (i := 0) (List.getElem?_eq_getElem hp)
      injection e0 with ea
      exact ⟨b0, o0, ea⟩
    obtain ⟨b0, o0, q0, ue0, e0, _, hcs0, hre0⟩ := Sl.at R9 (i := 0) (List.getElem?_eq_getElem hp)
    injection e0 with ea _ _
    cases ea
    obtain ⟨rfl, _⟩ := tEntry.val hre0
    obtain ⟨b1, o1, q1, ue1, e1, _, hcs1, hre1⟩ := Sl.at R9 (i := (entsR rows).length - 1) (List.getElem?_eq_getElem (by omega))
    injection e1 with ea _ _
    cases ea
    obtain ⟨rfl, _⟩ := tEntry.val hre1
    refine .skip (.code (.seq (.keep [(5, _)] ⟨rfl, trivial⟩ (.draws (by kernel_rfl) (by kernel_rfl) ?_))))
    refine .p rfl rfl (.mv rfl) ?_
    refine .p rfl rfl (.indexAddr (s := 4) rfl rfl rfl rfl (by omega)) ?_
    refine .p rfl rfl (.fieldAddr rfl rfl rfl rfl) ?_
    refine .p rfl rfl (.load rfl rfl rfl (hcs0 0 _ rfl)) ?_
    refine .p rfl rfl (.mv rfl) ?_
    refine .p rfl rfl (.mv rfl) ?_
    refine .p rfl rfl (.len rfl rfl) ?_
    refine .p rfl rfl (.sub rfl rfl (by omega)) ?_
    refine .p rfl rfl (.indexAddr (s := 4) rfl rfl rfl rfl (by omega)) ?_
    refine .p rfl rfl (.fieldAddr rfl rfl rfl rfl) ?_
    refine .p rfl rfl (.load rfl rfl rfl (by rw [show (((entsR rows).length : Int) - 1).toNat = (entsR rows).length - 1 by omega]; exact hcs1 0 _ rfl)) ?_
    refine .p rfl rfl (.as rfl) ?_
    refine .p rfl rfl (.as rfl) ?_
    refine .p rfl rfl (.as rfl) ?_
    refine .nil (.code ?_)
    refine .ret _ rfl ?_
    rw [ends_open hmade hp]
    exact ⟨rfl, X9⟩
theorem RefTPages_fn {w : World} {v : Value} {b : Bs} (h : tBytes.rep All w v b) : Fn Try.prog 30 [v] w (fun r w2 => r = .tuple #[i64 ((pagesT b).1 : Nat), i64 (pagesT b).2] ∧ Ext (fun _ => False) w w2) := by
  refine Fn.enter (fun w => Try.call30 _ w) Try.func30 rfl ?_
  refine .seq (.region ?_)
  refine .p rfl rfl (.as rfl) ?_
  refine .p rfl rfl (.as rfl) ?_
  refine .nil (.code (.seq (.keep [(0, _)] ⟨rfl, trivial⟩ (.region ?_))))
  refine .p rfl rfl (.mv rfl) ?_
  refine .call (first := []) (captured := []) rfl rfl rfl rfl (RefTRead_fn h) ?_
  rintro _ w8 ⟨v8, q8, l, rfl, O8, ho8, X8⟩
  have z8 := X8.size
  refine .p rfl rfl (.mv rfl) ?_
  refine .p rfl rfl (.extract rfl rfl) ?_
  refine .p rfl rfl (.extract rfl rfl) ?_
  refine .p rfl rfl (.as rfl) ?_
  refine .p rfl rfl (.as rfl) ?_
  refine .nil (.code (.seq (.seq (.keep [(5, _), (4, _)] ⟨rfl, rfl, trivial⟩ (.region ?_)))))
  refine .p rfl rfl (.mv rfl) ?_
  refine .p rfl rfl (.not rfl) ?_
  refine .nil (.code (.keep [(12, _), (4, _)] ⟨rfl, rfl, trivial⟩ ?_))
  refine .cond rfl (fun c12 => ?_) (fun c12 => ?_)
  · rcases ho8 with ⟨hq, _⟩ | ⟨_, ho⟩
    case inl => exact absurd c12 (by rw [hq]; decide)
    refine .seq (.keep [] trivial (.region ?_))
    refine .p rfl rfl (.as rfl) ?_
    refine .p rfl rfl (.as rfl) ?_
    refine .nil (.code ?_)
    refine .ret _ rfl ?_
    exact ⟨by unfold pagesT; rw [ho]; rfl, X8⟩
  · rcases ho8 with ⟨_, rows, ho, rfl⟩ | ⟨hq, _⟩
    case inr => exact absurd c12 (by rw [hq]; decide)
    have hmade := open_made ho
    refine .skip (.code (.seq (.keep [(4, _)] ⟨rfl, trivial⟩ (.region ?_))))
    refine .p rfl rfl (.mv rfl) ?_
    refine .call (first := []) (captured := []) rfl rfl rfl rfl (RefParted_fn (P := All) (OwnO.rep O8 (fun _ _ _ => trivial) (fun _ h _ => h.elim)) (makeT_ok hmade).1) ?_
    rintro r14 w14 ⟨O14, X14⟩
    obtain ⟨a14, c14, rfl, hc14⟩ := OwnO.val O14
    refine .p rfl rfl (.len rfl rfl) ?_
    refine .p rfl rfl (.as rfl) ?_
    refine .p rfl rfl (.as rfl) ?_
    refine .nil (.code ?_)
    refine .ret _ rfl ?_
    exact ⟨by unfold pagesT; rw [ho]; simp only; rw [(opened ho).len]; rfl, X8.trans X14⟩
set_option maxHeartbeats 1000000 in
theorem TableReads_fn {w : World} {v : Value} {b key to : Bs} {seq : Int} (h : tBytes.rep All w v b) : Fn Try.prog 10 [v, str key, i64 seq, str to] w (fun r w2 => r = .bool true ∧ Ext (fun _ => False) w w2) := by
  obtain ⟨a, cap, rfl, hcap⟩ := Sl.val h
  refine Fn.enter (fun w => Try.call10 _ w) Try.func10 rfl ?_
  refine .seq (.region ?_)
  refine .p rfl rfl (.as rfl) ?_
  refine .nil (.code (.seq (.seq (.keep [(0, _), (1, _), (2, _), (3, _)] ⟨rfl, rfl, rfl, rfl, trivial⟩ (.region ?_)))))
  refine .p rfl rfl (.mv rfl) ?_
  refine .p rfl rfl (.len rfl rfl) ?_
  refine .p rfl rfl (.gt rfl rfl) ?_
  refine .p rfl rfl (.mv rfl) ?_
  refine .caseD 37 rfl (fun c37 => ?_) (fun c37 => ?_)
  · refine .skip rfl rfl ?_
    refine .skip rfl rfl ?_
    refine .skip rfl rfl ?_
    refine .p rfl rfl (.pickT rfl rfl) ?_
    refine .p rfl rfl (.mv rfl) ?_
    refine .skip rfl rfl ?_
    refine .skip rfl rfl ?_
    refine .skip rfl rfl ?_
    refine .p rfl rfl (.pickT rfl rfl) ?_
    refine .nil (.code (.keep [(46, _), (0, _), (1, _), (2, _), (3, _)] ⟨rfl, rfl, rfl, rfl, rfl, trivial⟩ (.condT rfl (.seq (.keep [] trivial (.region ?_))))))
    refine .p rfl rfl (.as rfl) ?_
    refine .nil (.code ?_)
    refine .ret _ rfl ?_
    exact ⟨rfl, (by repeat (first | exact Ext.refl _ | assumption | refine Ext.trans (by assumption) ?_))⟩
  · refine .p rfl rfl (.mv rfl) ?_
    refine .p rfl rfl (.lenS rfl rfl) ?_
    refine .p rfl rfl (.gt rfl rfl) ?_
    refine .p rfl rfl (.pickF rfl rfl) ?_
    refine .p rfl rfl (.mv rfl) ?_
    refine .caseD 42 rfl (fun c42 => ?_) (fun c42 => ?_)
    · refine .skip rfl rfl ?_
      refine .skip rfl rfl ?_
      refine .skip rfl rfl ?_
      refine .p rfl rfl (.pickT rfl rfl) ?_
      refine .nil (.code (.keep [(46, _), (0, _), (1, _), (2, _), (3, _)] ⟨rfl, rfl, rfl, rfl, rfl, trivial⟩ (.condT rfl (.seq (.keep [] trivial (.region ?_))))))
      refine .p rfl rfl (.as rfl) ?_
      refine .nil (.code ?_)
      refine .ret _ rfl ?_
      exact ⟨rfl, (by repeat (first | exact Ext.refl _ | assumption | refine Ext.trans (by assumption) ?_))⟩
    · refine .p rfl rfl (.mv rfl) ?_
      refine .p rfl rfl (.lenS rfl rfl) ?_
      refine .p rfl rfl (.gt rfl rfl) ?_
      refine .p rfl rfl (.pickF rfl rfl) ?_
      refine .nil (.code (.keep [(46, _), (0, _), (1, _), (2, _), (3, _)] ⟨rfl, rfl, rfl, rfl, rfl, trivial⟩ ?_))
      refine .condD rfl (fun c46 => ?_) (fun c46 => ?_)
      · refine .seq (.keep [] trivial (.region ?_))
        refine .p rfl rfl (.as rfl) ?_
        refine .nil (.code ?_)
        refine .ret _ rfl ?_
        exact ⟨rfl, (by repeat (first | exact Ext.refl _ | assumption | refine Ext.trans (by assumption) ?_))⟩
      · refine .skip (.code (.seq (.keep [(0, _), (1, _), (2, _), (3, _)] ⟨rfl, rfl, rfl, rfl, trivial⟩ (.region ?_))))
        refine .p rfl rfl (.mv rfl) ?_
        refine .v rfl rfl (.appendLo (t := tByte) (Q := fun _ => False) (B := fun k => w.heap.size ≤ k) (eb := 1) rfl OwnO.nil (fun k hk => hk) rfl (Sl.holds h (fun _ _ h => h)) rfl rfl rfl rfl rfl rfl rfl (by rw [List.length_nil]; omega) (by rw [List.length_nil]; simp only [Lim]; omega) (fun _ h _ => h.elim)) ?_
        rintro r48 w48 ⟨O48, Y48⟩
        have X48 : Ext (fun _ => False) w w48 := (Ext.refl w).then Y48 (fun k h _ => h)
        clear Y48
        rw [List.nil_append] at O48
        have R48 : tBytes.rep All w48 r48 b := OwnO.rep O48 (fun _ _ _ => trivial) (fun _ h _ => h.elim)
        obtain ⟨a48, c48, rfl, hc48⟩ := OwnO.val O48
        refine .p rfl rfl (.as rfl) ?_
        refine .nil (.code (.seq (.keep [(9, _), (0, _), (1, _), (2, _), (3, _)] ⟨rfl, rfl, rfl, rfl, rfl, trivial⟩ (.region ?_))))
        refine .p rfl rfl (.mv rfl) ?_
        refine .p rfl rfl (.mv rfl) ?_
        refine .p rfl rfl (.mv rfl) ?_
        refine .call (first := []) (captured := []) rfl rfl rfl rfl (TFind_fn (key := key) (seq := seq) R48 (by simp only [Lim]; omega)) ?_
        rintro _ w53 ⟨rfl, X53⟩
        refine .p rfl rfl (.mv rfl) ?_
        refine .p rfl rfl (.extract rfl rfl) ?_
        refine .p rfl rfl (.extract rfl rfl) ?_
        refine .p rfl rfl (.extract rfl rfl) ?_
        refine .v rfl rfl (.alloc rfl rfl) ?_
        rintro _ w10a ⟨rfl, N10⟩
        refine .s rfl (.storeAll (n := 4) rfl rfl rfl rfl rfl N10.blk rfl) ?_
        intro w10 P10
        have X10 := N10.ext.then P10.ext (by rintro k rfl _; exact Nat.le_refl _)
        have B10 := P10.blk
        clear N10 P10
        refine .p rfl rfl (.as rfl) ?_
        refine .p rfl rfl (.as rfl) ?_
        refine .nil (.code (.seq (.keep [(12, _), (11, _), (10, _), (9, _), (0, _), (1, _), (2, _), (3, _)] ⟨rfl, rfl, rfl, rfl, rfl, rfl, rfl, rfl, trivial⟩ (.region ?_))))
        refine .p rfl rfl (.mv rfl) ?_
        refine .p rfl rfl (.mv rfl) ?_
        refine .p rfl rfl (.mv rfl) ?_
        refine .call (first := []) (captured := []) rfl rfl rfl rfl (RefTFind_fn (key := key) (seq := seq) (tBytes.ext0 h (by repeat (first | exact Ext.refl _ | assumption | refine Ext.trans (by assumption) ?_)))) ?_
        rintro _ w61 ⟨rfl, X61⟩
        refine .p rfl rfl (.mv rfl) ?_
        refine .p rfl rfl (.extract rfl rfl) ?_
        refine .p rfl rfl (.extract rfl rfl) ?_
        refine .p rfl rfl (.extract rfl rfl) ?_
        refine .v rfl rfl (.alloc rfl rfl) ?_
        rintro _ w13a ⟨rfl, N13⟩
        refine .s rfl (.storeAll (n := 4) rfl rfl rfl rfl rfl N13.blk rfl) ?_
        intro w13 P13
        have X13 := N13.ext.then P13.ext (by rintro k rfl _; exact Nat.le_refl _)
        have B13 := P13.blk
        clear N13 P13
        refine .p rfl rfl (.as rfl) ?_
        refine .p rfl rfl (.as rfl) ?_
        refine .nil (.code (.seq (.keep [(15, _), (14, _), (13, _), (12, _), (11, _), (10, _), (9, _), (0, _), (1, _), (3, _)] ⟨rfl, rfl, rfl, rfl, rfl, rfl, rfl, rfl, rfl, rfl, trivial⟩ (.region ?_))))
        refine .p rfl rfl (.mv rfl) ?_
        refine .p rfl rfl (.mv rfl) ?_
        refine .p rfl rfl (.mv rfl) ?_
        refine .call (first := []) (captured := []) rfl rfl rfl rfl (TRange_fn (lo := key) (hi := to) (tBytes.ext0 R48 (by repeat (first | exact Ext.refl _ | assumption | refine Ext.trans (by assumption) ?_)))) ?_
        rintro _ w69 ⟨v69, rfl, O69, X69⟩
        refine .p rfl rfl (.mv rfl) ?_
        refine .p rfl rfl (.extract rfl rfl) ?_
        refine .p rfl rfl (.extract rfl rfl) ?_
        refine .p rfl rfl (.as rfl) ?_
        refine .p rfl rfl (.as rfl) ?_
        refine .nil (.code (.seq (.keep [(17, _), (16, _), (15, _), (14, _), (13, _), (12, _), (11, _), (10, _), (9, _), (0, _), (1, _), (3, _)] ⟨rfl, rfl, rfl, rfl, rfl, rfl, rfl, rfl, rfl, rfl, rfl, rfl, trivial⟩ (.region ?_))))
        refine .p rfl rfl (.mv rfl) ?_
        refine .p rfl rfl (.mv rfl) ?_
        refine .p rfl rfl (.mv rfl) ?_
        refine .call (first := []) (captured := []) rfl rfl rfl rfl (RefTRange_fn (lo := key) (hi := to) (tBytes.ext0 h (by repeat (first | exact Ext.refl _ | assumption | refine Ext.trans (by assumption) ?_)))) ?_
        rintro _ w76 ⟨v76, rfl, O76, X76⟩
        refine .p rfl rfl (.mv rfl) ?_
        refine .p rfl rfl (.extract rfl rfl) ?_
        refine .p rfl rfl (.extract rfl rfl) ?_
        refine .p rfl rfl (.as rfl) ?_
        refine .p rfl rfl (.as rfl) ?_
        refine .nil (.code (.seq (.keep [(19, _), (18, _), (17, _), (16, _), (15, _), (14, _), (13, _), (12, _), (11, _), (10, _), (9, _), (0, _)] ⟨rfl, rfl, rfl, rfl, rfl, rfl, rfl, rfl, rfl, rfl, rfl, rfl, trivial⟩ (.region ?_))))
        refine .p rfl rfl (.mv rfl) ?_
        refine .call (first := []) (captured := []) rfl rfl rfl rfl (TAll_fn (tBytes.ext0 R48 (by repeat (first | exact Ext.refl _ | assumption | refine Ext.trans (by assumption) ?_)))) ?_
        rintro _ w81 ⟨v81, rfl, O81, X81⟩
        refine .p rfl rfl (.mv rfl) ?_
        refine .p rfl rfl (.extract rfl rfl) ?_
        refine .p rfl rfl (.extract rfl rfl) ?_
        refine .p rfl rfl (.as rfl) ?_
        refine .p rfl rfl (.as rfl) ?_
        refine .nil (.code (.seq (.keep [(21, _), (20, _), (19, _), (18, _), (17, _), (16, _), (15, _), (14, _), (13, _), (12, _), (11, _), (10, _), (9, _), (0, _)] ⟨rfl, rfl, rfl, rfl, rfl, rfl, rfl, rfl, rfl, rfl, rfl, rfl, rfl, rfl, trivial⟩ (.region ?_))))
        refine .p rfl rfl (.mv rfl) ?_
        refine .call (first := []) (captured := []) rfl rfl rfl rfl (RefTAll_fn (tBytes.ext0 h (by repeat (first | exact Ext.refl _ | assumption | refine Ext.trans (by assumption) ?_)))) ?_
        rintro _ w86 ⟨v86, rfl, O86, X86⟩
        refine .p rfl rfl (.mv rfl) ?_
        refine .p rfl rfl (.extract rfl rfl) ?_
        refine .p rfl rfl (.extract rfl rfl) ?_
        refine .p rfl rfl (.as rfl) ?_
        refine .p rfl rfl (.as rfl) ?_
        refine .nil (.code (.seq (.keep [(23, _), (22, _), (21, _), (20, _), (19, _), (18, _), (17, _), (16, _), (15, _), (14, _), (13, _), (12, _), (11, _), (10, _), (9, _), (0, _)] ⟨rfl, rfl, rfl, rfl, rfl, rfl, rfl, rfl, rfl, rfl, rfl, rfl, rfl, rfl, rfl, rfl, trivial⟩ (.region ?_))))
        refine .p rfl rfl (.mv rfl) ?_
        refine .call (first := []) (captured := []) rfl rfl rfl rfl (TEnds_fn (tBytes.ext0 R48 (by repeat (first | exact Ext.refl _ | assumption | refine Ext.trans (by assumption) ?_)))) ?_
        rintro _ w91 ⟨rfl, X91⟩
        refine .p rfl rfl (.mv rfl) ?_
        refine .p rfl rfl (.extract rfl rfl) ?_
        refine .p rfl rfl (.extract rfl rfl) ?_
        refine .p rfl rfl (.extract rfl rfl) ?_
        refine .p rfl rfl (.as rfl) ?_
        refine .p rfl rfl (.as rfl) ?_
        refine .p rfl rfl (.as rfl) ?_
        refine .nil (.code (.seq (.keep [(26, _), (25, _), (24, _), (23, _), (22, _), (21, _), (20, _), (19, _), (18, _), (17, _), (16, _), (15, _), (14, _), (13, _), (12, _), (11, _), (10, _), (9, _), (0, _)] ⟨rfl, rfl, rfl, rfl, rfl, rfl, rfl, rfl, rfl, rfl, rfl, rfl, rfl, rfl, rfl, rfl, rfl, rfl, rfl, trivial⟩ (.region ?_))))
        refine .p rfl rfl (.mv rfl) ?_
        refine .call (first := []) (captured := []) rfl rfl rfl rfl (RefTEnds_fn (tBytes.ext0 h (by repeat (first | exact Ext.refl _ | assumption | refine Ext.trans (by assumption) ?_)))) ?_
        rintro _ w97 ⟨rfl, X97⟩
        refine .p rfl rfl (.mv rfl) ?_
        refine .p rfl rfl (.extract rfl rfl) ?_
        refine .p rfl rfl (.extract rfl rfl) ?_
        refine .p rfl rfl (.extract rfl rfl) ?_
        refine .p rfl rfl (.as rfl) ?_
        refine .p rfl rfl (.as rfl) ?_
        refine .p rfl rfl (.as rfl) ?_
        refine .nil (.code (.seq (.keep [(29, _), (28, _), (27, _), (26, _), (25, _), (24, _), (23, _), (22, _), (21, _), (20, _), (19, _), (18, _), (17, _), (16, _), (15, _), (14, _), (13, _), (12, _), (11, _), (10, _), (9, _), (0, _)] ⟨rfl, rfl, rfl, rfl, rfl, rfl, rfl, rfl, rfl, rfl, rfl, rfl, rfl, rfl, rfl, rfl, rfl, rfl, rfl, rfl, rfl, rfl, trivial⟩ (.region ?_))))
        refine .p rfl rfl (.mv rfl) ?_
        refine .call (first := []) (captured := []) rfl rfl rfl rfl (TPages_fn (tBytes.ext0 R48 (by repeat (first | exact Ext.refl _ | assumption | refine Ext.trans (by assumption) ?_)))) ?_
        rintro _ w103 ⟨rfl, X103⟩
        refine .p rfl rfl (.mv rfl) ?_
        refine .p rfl rfl (.extract rfl rfl) ?_
        refine .p rfl rfl (.extract rfl rfl) ?_
        refine .p rfl rfl (.as rfl) ?_
        refine .p rfl rfl (.as rfl) ?_
        refine .nil (.code (.seq (.keep [(31, _), (30, _), (29, _), (28, _), (27, _), (26, _), (25, _), (24, _), (23, _), (22, _), (21, _), (20, _), (19, _), (18, _), (17, _), (16, _), (15, _), (14, _), (13, _), (12, _), (11, _), (10, _), (9, _), (0, _)] ⟨rfl, rfl, rfl, rfl, rfl, rfl, rfl, rfl, rfl, rfl, rfl, rfl, rfl, rfl, rfl, rfl, rfl, rfl, rfl, rfl, rfl, rfl, rfl, rfl, trivial⟩ (.region ?_))))
        refine .p rfl rfl (.mv rfl) ?_
        refine .call (first := []) (captured := []) rfl rfl rfl rfl (RefTPages_fn (tBytes.ext0 h (by repeat (first | exact Ext.refl _ | assumption | refine Ext.trans (by assumption) ?_)))) ?_
        rintro _ w108 ⟨rfl, X108⟩
        refine .p rfl rfl (.mv rfl) ?_
        refine .p rfl rfl (.extract rfl rfl) ?_
        refine .p rfl rfl (.extract rfl rfl) ?_
        refine .p rfl rfl (.as rfl) ?_
        refine .p rfl rfl (.as rfl) ?_
        refine .nil (.code (.seq (.seq (.keep [(33, _), (32, _), (31, _), (30, _), (29, _), (28, _), (27, _), (26, _), (25, _), (24, _), (23, _), (22, _), (21, _), (20, _), (19, _), (18, _), (17, _), (16, _), (15, _), (14, _), (13, _), (12, _), (11, _), (10, _), (9, _), (0, _)] ⟨rfl, rfl, rfl, rfl, rfl, rfl, rfl, rfl, rfl, rfl, rfl, rfl, rfl, rfl, rfl, rfl, rfl, rfl, rfl, rfl, rfl, rfl, rfl, rfl, rfl, rfl, trivial⟩ (.region ?_)))))
        refine .p rfl rfl (.mv rfl) ?_
        refine .call (first := []) (captured := []) rfl rfl rfl rfl (TCheck_fn (tBytes.ext0 R48 (by repeat (first | exact Ext.refl _ | assumption | refine Ext.trans (by assumption) ?_)))) ?_
        rintro _ w112 ⟨rfl, X112⟩
        refine .p rfl rfl (.mv rfl) ?_
        refine .call (first := []) (captured := []) rfl rfl rfl rfl (RefTCheck_fn (tBytes.ext0 h (by repeat (first | exact Ext.refl _ | assumption | refine Ext.trans (by assumption) ?_)))) ?_
        rintro _ w114 ⟨rfl, X114⟩
        refine .p rfl rfl (.no (.ne rfl rfl) (fun hn => hn rfl)) ?_
        refine .p rfl rfl (.mv rfl) ?_
        refine .p rfl rfl (.loadA (n := 4) rfl rfl rfl rfl rfl (B10.ext (S := fun _ => False) (by repeat (first | exact Ext.refl _ | assumption | refine Ext.trans (by assumption) ?_)) (fun x => x)).cells) ?_
        refine .p rfl rfl (.loadA (n := 4) rfl rfl rfl rfl rfl (B13.ext (S := fun _ => False) (by repeat (first | exact Ext.refl _ | assumption | refine Ext.trans (by assumption) ?_)) (fun x => x)).cells) ?_
        refine .p rfl rfl (.cast (.neA (xs := [_, _, _, _]) (ys := [_, _, _, _]) rfl rfl (by kernel_rfl) (entry_eq (findT b key seq).1 (findT b key seq).1)) (show Value.bool _ = Value.bool false by simp)) ?_
        refine .p rfl rfl (.pickF rfl rfl) ?_
        refine .p rfl rfl (.mv rfl) ?_
        refine .p rfl rfl (.mv rfl) ?_
        refine .p rfl rfl (.mv rfl) ?_
        refine .p rfl rfl (.cast (.neB rfl rfl rfl) (show _ = Value.bool false by simp)) ?_
        refine .p rfl rfl (.pickF rfl rfl) ?_
        refine .p rfl rfl (.mv rfl) ?_
        refine .p rfl rfl (.mv rfl) ?_
        refine .p rfl rfl (.mv rfl) ?_
        refine .p rfl rfl (.no (.ne rfl rfl) (fun hn => hn rfl)) ?_
        refine .p rfl rfl (.pickF rfl rfl) ?_
        refine .p rfl rfl (.mv rfl) ?_
        refine .p rfl rfl (.mv rfl) ?_
        refine .p rfl rfl (.mv rfl) ?_
        refine .call (first := []) (captured := []) rfl rfl rfl rfl (RefSameT_fn (OwnO.rep (OwnO.ext0 O69 (by repeat (first | exact Ext.refl _ | assumption | refine Ext.trans (by assumption) ?_))) (fun _ _ _ => trivial) (fun _ h _ => h.elim)) (OwnO.rep (OwnO.ext0 O76 (by repeat (first | exact Ext.refl _ | assumption | refine Ext.trans (by assumption) ?_))) (fun _ _ _ => trivial) (fun _ h _ => h.elim))) ?_
        rintro _ w134 ⟨rfl, X134⟩
        refine .p rfl rfl (.not rfl) ?_
        refine .p rfl rfl (.pickF rfl rfl) ?_
        refine .p rfl rfl (.mv rfl) ?_
        refine .p rfl rfl (.mv rfl) ?_
        refine .p rfl rfl (.mv rfl) ?_
        refine .p rfl rfl (.no (.ne rfl rfl) (fun hn => hn rfl)) ?_
        refine .p rfl rfl (.pickF rfl rfl) ?_
        refine .p rfl rfl (.mv rfl) ?_
        refine .p rfl rfl (.mv rfl) ?_
        refine .p rfl rfl (.mv rfl) ?_
        refine .call (first := []) (captured := []) rfl rfl rfl rfl (RefSameT_fn (OwnO.rep (OwnO.ext0 O81 (by repeat (first | exact Ext.refl _ | assumption | refine Ext.trans (by assumption) ?_))) (fun _ _ _ => trivial) (fun _ h _ => h.elim)) (OwnO.rep (OwnO.ext0 O86 (by repeat (first | exact Ext.refl _ | assumption | refine Ext.trans (by assumption) ?_))) (fun _ _ _ => trivial) (fun _ h _ => h.elim))) ?_
        rintro _ w145 ⟨rfl, X145⟩
        refine .p rfl rfl (.not rfl) ?_
        refine .p rfl rfl (.pickF rfl rfl) ?_
        refine .p rfl rfl (.mv rfl) ?_
        refine .p rfl rfl (.mv rfl) ?_
        refine .p rfl rfl (.mv rfl) ?_
        refine .p rfl rfl (.no (.ne rfl rfl) (fun hn => hn rfl)) ?_
        refine .p rfl rfl (.pickF rfl rfl) ?_
        refine .p rfl rfl (.mv rfl) ?_
        refine .p rfl rfl (.mv rfl) ?_
        refine .p rfl rfl (.mv rfl) ?_
        refine .p rfl rfl (.no (.neS rfl rfl) (fun hn => hn rfl)) ?_
        refine .p rfl rfl (.pickF rfl rfl) ?_
        refine .p rfl rfl (.mv rfl) ?_
        refine .p rfl rfl (.mv rfl) ?_
        refine .p rfl rfl (.mv rfl) ?_
        refine .p rfl rfl (.no (.neS rfl rfl) (fun hn => hn rfl)) ?_
        refine .p rfl rfl (.pickF rfl rfl) ?_
        refine .p rfl rfl (.mv rfl) ?_
        refine .p rfl rfl (.mv rfl) ?_
        refine .p rfl rfl (.mv rfl) ?_
        refine .p rfl rfl (.no (.ne rfl rfl) (fun hn => hn rfl)) ?_
        refine .p rfl rfl (.pickF rfl rfl) ?_
        refine .p rfl rfl (.mv rfl) ?_
        refine .p rfl rfl (.mv rfl) ?_
        refine .p rfl rfl (.mv rfl) ?_
        refine .p rfl rfl (.no (.ne rfl rfl) (fun hn => hn rfl)) ?_
        refine .p rfl rfl (.pickF rfl rfl) ?_
        refine .p rfl rfl (.mv rfl) ?_
        refine .p rfl rfl (.mv rfl) ?_
        refine .p rfl rfl (.mv rfl) ?_
        refine .p rfl rfl (.no (.ne rfl rfl) (fun hn => hn rfl)) ?_
        refine .p rfl rfl (.pickF rfl rfl) ?_
        refine .nil (.code (.keep [(177, _), (9, _), (0, _)] ⟨rfl, rfl, rfl, trivial⟩ (.condF rfl (.skip (.code (.seq (.keep [(9, _), (0, _)] ⟨rfl, rfl, trivial⟩ (.region ?_))))))))
        refine .p rfl rfl (.mv rfl) ?_
        refine .p rfl rfl (.bytesStr rfl (tBytes.ext0 R48 (by repeat (first | exact Ext.refl _ | assumption | refine Ext.trans (by assumption) ?_))) rfl rfl rfl) ?_
        refine .p rfl rfl (.mv rfl) ?_
        refine .p rfl rfl (.bytesStr rfl (tBytes.ext0 h (by repeat (first | exact Ext.refl _ | assumption | refine Ext.trans (by assumption) ?_))) rfl rfl rfl) ?_
        refine .p rfl rfl (.yes (.eqS rfl rfl) (rfl)) ?_
        refine .p rfl rfl (.as rfl) ?_
        refine .nil (.code ?_)
        refine .ret _ rfl ?_
        exact ⟨rfl, (by repeat (first | exact Ext.refl _ | assumption | refine Ext.trans (by assumption) ?_))⟩
end Go.Proofs.Ythkgadhamecnlaa
