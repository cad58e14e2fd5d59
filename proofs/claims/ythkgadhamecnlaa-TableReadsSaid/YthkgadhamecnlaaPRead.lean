
/-
  Package page: the reader's parts; Read.
-/
import Derived.Test.YthkgadhamecnlaaNum
import Derived.Test.YthkgadhamecnlaaLaw08c
import Derived.Test.YthkgadhamecnlaaTree
set_option linter.unusedVariables false
set_option linter.unusedSimpArgs false
set_option maxRecDepth 20000
namespace Go.Proofs.Ythkgadhamecnlaa
open Go page
namespace page
/-- what stands ahead of a value: the key, the number, whether it is gone, and what is left -/
def headR (ahead : Bs) (s : RS) : Bs × Nat × Bool × RS :=
  let n := numP ahead.length s
  let k := textP n.2
  let q := numP 2147483647 k.2
  let g := flagP q.2
  (ahead.take n.1 ++ k.1, q.1, decide (g.1 = 1), g.2)
def entR (ahead : Bs) (s : RS) : Entry × RS :=
  if (headR ahead s).2.2.1 = true then (⟨(headR ahead s).1, [], (headR ahead s).2.1, true⟩, (headR ahead s).2.2.2)
  else (⟨(headR ahead s).1, (textP (headR ahead s).2.2.2).1, (headR ahead s).2.1, false⟩, (textP (headR ahead s).2.2.2).2)
def loopR : Nat → Bs → List Entry → RS → Option (List Entry)
  | 0, _, acc, s => if s.2 = true then none else some acc
  | n + 1, ahead, acc, s => if (entR ahead s).2.2 = true then none else loopR n (entR ahead s).1.key (acc ++ [(entR ahead s).1]) (entR ahead s).2
instance (b : Bs) : Decidable (badB b) := by unfold badB; infer_instance
def readE (b : Bs) : List Entry × Int :=
  if badB b then ([], 8) else
  match loopR (numP 4096 (b.take (b.length - 4), false)).1 [] [] (numP 4096 (b.take (b.length - 4), false)).2 with
  | none => ([], 8)
  | some l => if ¬ (makeE l).2 = 0 ∨ ¬ (makeE l).1 = b then ([], 8) else (l, 0)
theorem headR_le (ahead : Bs) (s : RS) : (headR ahead s).1.length + (headR ahead s).2.2.2.1.length ≤ ahead.length + s.1.length ∧ (headR ahead s).2.1 ≤ 2147483647 := by
  have h1 := numP_le ahead.length s
  have h2 := textP_le (numP ahead.length s).2
  have h3 := numP_le 2147483647 (textP (numP ahead.length s).2).2
  have h4 := flagP_le (numP 2147483647 (textP (numP ahead.length s).2).2).2
  refine ⟨?_, h3.1⟩
  show (List.take _ _ ++ _).length + (flagP _).2.1.length ≤ _
  rw [List.length_append, List.length_take]
  omega
theorem entR_le (ahead : Bs) (s : RS) : (entR ahead s).1.key.length + (entR ahead s).2.1.length ≤ ahead.length + s.1.length := by
  have h1 := headR_le ahead s
  have h2 := textP_le (headR ahead s).2.2.2
  unfold entR
  split
  · exact h1.1
  · show (headR ahead s).1.length + (textP _).2.1.length ≤ _
    omega
theorem entR_ok (ahead : Bs) (s : RS) : (entR ahead s).1.value.length ≤ ahead.length + s.1.length ∧ 0 ≤ (entR ahead s).1.seq ∧ (entR ahead s).1.seq ≤ 2147483647 := by
  have h1 := headR_le ahead s
  have h2 := textP_le (headR ahead s).2.2.2
  unfold entR
  split
  · refine ⟨Nat.zero_le _, ?_, ?_⟩
    · show (0 : Int) ≤ ((headR ahead s).2.1 : Nat)
      omega
    · show (((headR ahead s).2.1 : Nat) : Int) ≤ _
      omega
  · refine ⟨?_, ?_, ?_⟩
    · show (textP _).1.length ≤ _
      omega
    · show (0 : Int) ≤ ((headR ahead s).2.1 : Nat)
      omega
    · show (((headR ahead s).2.1 : Nat) : Int) ≤ _
      omega
theorem loopR_T {n : Nat} {ahead : Bs} {acc : List Entry} {s : RS} (h : (entR ahead s).2.2 = true) : loopR (n + 1) ahead acc s = none := by rw [loopR, if_pos h]
theorem loopR_F {n : Nat} {ahead : Bs} {acc : List Entry} {s : RS} (h : (entR ahead s).2.2 = false) : loopR (n + 1) ahead acc s = loopR n (entR ahead s).1.key (acc ++ [(entR ahead s).1]) (entR ahead s).2 := by rw [loopR, if_neg (by rw [h]; exact Bool.false_ne_true)]
theorem loopR_0 (ahead : Bs) (acc : List Entry) (s : RS) : loopR 0 ahead acc s = if s.2 = true then none else some acc := by rw [loopR]
theorem readE_none {b : Bs} (h : ¬ badB b) (hl : loopR (numP 4096 (b.take (b.length - 4), false)).1 [] [] (numP 4096 (b.take (b.length - 4), false)).2 = none) : readE b = ([], 8) := by unfold readE; rw [if_neg h, hl]
theorem readE_some {b : Bs} {l : List Entry} (h : ¬ badB b) (hl : loopR (numP 4096 (b.take (b.length - 4), false)).1 [] [] (numP 4096 (b.take (b.length - 4), false)).2 = some l) : readE b = if ¬ (makeE l).2 = 0 ∨ ¬ (makeE l).1 = b then ([], 8) else (l, 0) := by unfold readE; rw [if_neg h, hl]
theorem headR_eq (ahead : Bs) (s : RS) : headR ahead s = (ahead.take (numP ahead.length s).1 ++ (textP (numP ahead.length s).2).1, (numP 2147483647 (textP (numP ahead.length s).2).2).1, decide ((flagP (numP 2147483647 (textP (numP ahead.length s).2).2).2).1 = 1), (flagP (numP 2147483647 (textP (numP ahead.length s).2).2).2).2) := rfl
theorem entR_T {ahead : Bs} {s : RS} (h : (headR ahead s).2.2.1 = true) : entR ahead s = (⟨(headR ahead s).1, [], (headR ahead s).2.1, (headR ahead s).2.2.1⟩, (headR ahead s).2.2.2) := by
  unfold entR
  rw [if_pos h, h]
theorem entR_F {ahead : Bs} {s : RS} (h : ¬ (headR ahead s).2.2.1 = true) : entR ahead s = (⟨(headR ahead s).1, (textP (headR ahead s).2.2.2).1, (headR ahead s).2.1, (headR ahead s).2.2.1⟩, (textP (headR ahead s).2.2.2).2) := by
  unfold entR
  rw [if_neg h]
  simp only [Bool.not_eq_true] at h
  rw [h]
end page
/-- a reader: its cell, its bytes in blocks that P allows -/
def RD (w : World) (p : Nat) (P : Nat → Prop) (s : RS) : Prop := ∃ v, Blk w p 120 [v, .bool s.2] ∧ tBytes.rep P w v s.1
theorem RD.ext0 {w w' : World} {p : Nat} {P : Nat → Prop} {s : RS} (h : RD w p P s) (hx : Ext (fun _ => False) w w') : RD w' p P s := by
  obtain ⟨v, h1, h2⟩ := h
  exact ⟨v, h1.ext hx (fun x => x), tBytes.ext0 h2 hx⟩
theorem RD.ext {S : Nat → Prop} {w w' : World} {p : Nat} {P : Nat → Prop} {s : RS} (h : RD w p P s) (hx : Ext S w w') (hp : ¬ S p) (hs : ∀ k, P k → k < w.heap.size → ¬ S k) : RD w' p P s := by
  obtain ⟨v, h1, h2⟩ := h
  exact ⟨v, h1.ext hx hp, tBytes.ext h2 hx hs⟩
theorem RD.mono {w : World} {p : Nat} {P P' : Nat → Prop} {s : RS} (h : RD w p P s) (hs : ∀ k, P k → k < w.heap.size → P' k) : RD w p P' s := by
  obtain ⟨v, h1, h2⟩ := h
  exact ⟨v, h1, tBytes.mono h2 hs⟩
theorem RD.past {w w2 : World} {p : Nat} {P : Nat → Prop} {s : RS} {E : TypeId} {cs : List Value} (h : RD w p P s) (N : New w w2 E cs) : RD w2 p (fun k => P k ∧ k ≠ w.heap.size) s :=
  (h.mono (fun k hk hlt => ⟨hk, by omega⟩)).ext0 N.ext
theorem RD.lt {w : World} {p : Nat} {P : Nat → Prop} {s : RS} (h : RD w p P s) : p < w.heap.size := by
  obtain ⟨v, h1, h2⟩ := h
  exact h1.lt
theorem Number_fn {w : World} {p : Nat} {P : Nat → Prop} {s : RS} (h : RD w p P s) (hp : ¬ P p) (hn : ∀ k, w.heap.size ≤ k → P k) {m : Nat} (hm : m < 9223372036854775808) : Fn Try.prog 77 [.pointer (some ⟨p, 0, none⟩), i64 m] w (fun r w2 => r = i64 ((numP m s).1 : Nat) ∧ RD w2 p P (numP m s).2 ∧ Ext (· = p) w w2) := by
  obtain ⟨v0, B0, R0⟩ := h
  obtain ⟨a, cap, rfl, hcap⟩ := Sl.val R0
  obtain ⟨hr1, hr2⟩ := readF_bd s.1
  refine Fn.enter (fun w => Try.call77 _ w) Try.func77 rfl ?_
  refine .seq (.region ?_)
  refine .p rfl rfl (.as rfl) ?_
  refine .nil (.code (.seq (.keep [(0, _), (1, _)] ⟨rfl, rfl, trivial⟩ (.region ?_))))
  refine .p rfl rfl (.mv rfl) ?_
  refine .p rfl rfl (.nilCheck rfl) ?_
  refine .p rfl rfl (.fieldAddr rfl rfl rfl rfl) ?_
  refine .p rfl rfl (.load rfl rfl rfl (B0.cell 0)) ?_
  refine .call (first := []) (captured := []) rfl rfl rfl rfl (Read_fn (allOf R0)) ?_
  rintro _ w13 ⟨rfl, X13⟩
  have B1 := B0.ext X13 (fun x => x)
  have R1 := tBytes.ext0 R0 X13
  refine .p rfl rfl (.mv rfl) ?_
  refine .p rfl rfl (.extract rfl rfl) ?_
  refine .p rfl rfl (.extract rfl rfl) ?_
  refine .p rfl rfl (.extract rfl rfl) ?_
  refine .p rfl rfl (.as rfl) ?_
  refine .p rfl rfl (.as rfl) ?_
  refine .p rfl rfl (.as rfl) ?_
  refine .nil (.code (.seq (.seq (.keep [(7, _), (6, _), (5, _), (0, _), (1, _)] ⟨rfl, rfl, rfl, rfl, rfl, trivial⟩ (.region ?_)))))
  refine .p rfl rfl (.mv rfl) ?_
  refine .p rfl rfl (.ne rfl rfl) ?_
  refine .p rfl rfl (.mv rfl) ?_
  refine .caseD 19 rfl (fun c19 => ?_) (fun c19 => ?_)
  · refine .skip rfl rfl ?_
    refine .skip rfl rfl ?_
    refine .skip rfl rfl ?_
    refine .skip rfl rfl ?_
    refine .p rfl rfl (.pickT rfl rfl) ?_
    refine .nil (.code (.keep [(24, _), (6, _), (5, _), (0, _)] ⟨rfl, rfl, rfl, rfl, trivial⟩ (.condT rfl (.seq (.keep [(0, _)] ⟨rfl, trivial⟩ (.region ?_))))))
    refine .p rfl rfl (.mv rfl) ?_
    refine .p rfl rfl (.nilCheck rfl) ?_
    refine .p rfl rfl (.fieldAddr rfl rfl rfl rfl) ?_
    refine .s rfl (.store rfl rfl rfl rfl rfl B1 (by simp)) ?_
    intro w27 P27
    refine .nil (.code (.seq (.keep [] trivial (.region ?_))))
    refine .p rfl rfl (.as rfl) ?_
    refine .nil (.code ?_)
    refine .ret _ rfl ?_
    have e : numP m s = (0, (s.1, true)) := by unfold numP; rw [if_pos (by first | exact .inl (by assumption) | exact .inr (by omega))]
    rw [e]
    exact ⟨rfl, ⟨_, P27.blk, tBytes.ext R1 P27.ext (fun k hk _ he => hp (by have he : k = p := he; rw [← he]; exact hk))⟩, (X13.mono (fun _ _ h => h.elim)).trans P27.ext⟩
  · refine .p rfl rfl (.mv rfl) ?_
    refine .p rfl rfl (.mv rfl) ?_
    refine .p rfl rfl (.convU rfl rfl rfl (by omega)) ?_
    refine .p rfl rfl (.gt rfl rfl) ?_
    refine .p rfl rfl (.pickF rfl rfl) ?_
    refine .nil (.code (.keep [(24, _), (6, _), (5, _), (0, _)] ⟨rfl, rfl, rfl, rfl, trivial⟩ ?_))
    refine .condD rfl (fun c24 => ?_) (fun c24 => ?_)
    · refine .seq (.keep [(0, _)] ⟨rfl, trivial⟩ (.region ?_))
      refine .p rfl rfl (.mv rfl) ?_
      refine .p rfl rfl (.nilCheck rfl) ?_
      refine .p rfl rfl (.fieldAddr rfl rfl rfl rfl) ?_
      refine .s rfl (.store rfl rfl rfl rfl rfl B1 (by simp)) ?_
      intro w27 P27
      refine .nil (.code (.seq (.keep [] trivial (.region ?_))))
      refine .p rfl rfl (.as rfl) ?_
      refine .nil (.code ?_)
      refine .ret _ rfl ?_
      have e : numP m s = (0, (s.1, true)) := by unfold numP; rw [if_pos (by first | exact .inl (by assumption) | exact .inr (by omega))]
      rw [e]
      exact ⟨rfl, ⟨_, P27.blk, tBytes.ext R1 P27.ext (fun k hk _ he => hp (by have he : k = p := he; rw [← he]; exact hk))⟩, (X13.mono (fun _ _ h => h.elim)).trans P27.ext⟩
    · obtain ⟨a34, c34, hv34, hc34, R34⟩ := Sl.cutE R1 (readF s.1).2.1 s.1.length (by omega) (by omega)
      rw [List.take_length] at R34
      refine .skip (.code (.seq (.keep [(6, _), (5, _), (0, _)] ⟨rfl, rfl, rfl, trivial⟩ (.region ?_))))
      refine .p rfl rfl (.mv rfl) ?_
      refine .p rfl rfl (.mv rfl) ?_
      refine .p rfl rfl (.nilCheck rfl) ?_
      refine .p rfl rfl (.fieldAddr rfl rfl rfl rfl) ?_
      refine .p rfl rfl (.load rfl rfl rfl (B1.cell 0)) ?_
      refine .p rfl rfl (.mv rfl) ?_
      refine .p rfl rfl (.cast (.cutLo (s := 1) rfl rfl rfl rfl (by omega)) (show cutV 1 a cap ((readF s.1).2.1 : Int).toNat s.1.length = .slice a34 (s.1.length - (readF s.1).2.1) c34 by rw [Int.toNat_natCast]; exact hv34)) ?_
      refine .p rfl rfl (.nilCheck rfl) ?_
      refine .p rfl rfl (.fieldAddr rfl rfl rfl rfl) ?_
      refine .s rfl (.store rfl rfl rfl rfl rfl B1 (by simp)) ?_
      intro w36 P36
      refine .nil (.code (.seq (.keep [(5, _)] ⟨rfl, trivial⟩ (.region ?_))))
      refine .p rfl rfl (.mv rfl) ?_
      refine .p rfl rfl (.convI rfl rfl rfl (by omega)) ?_
      refine .p rfl rfl (.as rfl) ?_
      refine .nil (.code ?_)
      refine .ret _ rfl ?_
      have e : numP m s = ((readF s.1).1, (s.1.drop (readF s.1).2.1, s.2)) := by unfold numP; rw [if_neg (fun h => h.elim c19 (by omega))]
      rw [e]
      exact ⟨rfl, ⟨_, P36.blk, tBytes.ext (by simpa using R34) P36.ext (fun k hk _ he => hp (by have he : k = p := he; rw [← he]; exact hk))⟩, (X13.mono (fun _ _ h => h.elim)).trans P36.ext⟩
theorem RText_fn {w : World} {p : Nat} {P : Nat → Prop} {s : RS} (h : RD w p P s) (hp : ¬ P p) (hn : ∀ k, w.heap.size ≤ k → P k) : Fn Try.prog 78 [.pointer (some ⟨p, 0, none⟩)] w (fun r w2 => r = str (textP s).1 ∧ RD w2 p P (textP s).2 ∧ Ext (· = p) w w2) := by
  obtain ⟨sb, sx⟩ := s
  obtain ⟨v0, B0, R0⟩ := h
  obtain ⟨a, cap, rfl, hcap⟩ := Sl.val R0
  refine Fn.enter (fun w => Try.call78 _ w) Try.func78 rfl ?_
  refine .seq (.region ?_)
  refine .p rfl rfl (.as rfl) ?_
  refine .nil (.code (.seq (.keep [(0, _)] ⟨rfl, trivial⟩ (.region ?_))))
  refine .p rfl rfl (.mv rfl) ?_
  refine .p rfl rfl (.nilCheck rfl) ?_
  refine .p rfl rfl (.fieldAddr rfl rfl rfl rfl) ?_
  refine .p rfl rfl (.load rfl rfl rfl (B0.cell 0)) ?_
  refine .call (first := []) (captured := []) rfl rfl rfl rfl (Cut_fn (allOf R0)) ?_
  rintro _ w11 ⟨v11, rfl, G11, X11⟩
  have B1 := B0.ext X11 (fun x => x)
  obtain ⟨a11, c11, rfl, hc11⟩ := OwnO.val G11
  refine .p rfl rfl (.mv rfl) ?_
  refine .p rfl rfl (.extract rfl rfl) ?_
  refine .p rfl rfl (.extract rfl rfl) ?_
  refine .p rfl rfl (.extract rfl rfl) ?_
  refine .p rfl rfl (.as rfl) ?_
  refine .p rfl rfl (.as rfl) ?_
  refine .p rfl rfl (.as rfl) ?_
  refine .nil (.code (.seq (.seq (.keep [(5, _), (4, _), (3, _), (0, _)] ⟨rfl, rfl, rfl, rfl, trivial⟩ (.region ?_)))))
  refine .p rfl rfl (.mv rfl) ?_
  refine .p rfl rfl (.ne rfl rfl) ?_
  refine .nil (.code (.keep [(16, _), (4, _), (3, _), (0, _)] ⟨rfl, rfl, rfl, rfl, trivial⟩ ?_))
  refine .meet (S := World) (fun s => [(0, .pointer (some ⟨p, 0, none⟩)), (3, str (cutF sb).1), (4, .slice a11 (cutF sb).2.1.length c11)]) (fun s => s) (fun s => Blk s p 120 [.slice a sb.length cap, .bool (sx || decide (¬ (cutF sb).2.2 = 0))] ∧ Ext (· = p) w11 s) ?_ ?_
  · rintro wm ⟨Bm, Xm⟩
    refine .code (.seq (.region ?_))
    refine .p rfl rfl (.mv rfl) ?_
    refine .p rfl rfl (.mv rfl) ?_
    refine .p rfl rfl (.nilCheck rfl) ?_
    refine .p rfl rfl (.fieldAddr rfl rfl rfl rfl) ?_
    refine .s rfl (.store rfl rfl rfl rfl rfl Bm (by simp)) ?_
    intro w23 P23
    refine .nil (.code (.seq (.keep [(3, _)] ⟨rfl, trivial⟩ (.region ?_))))
    refine .p rfl rfl (.mv rfl) ?_
    refine .p rfl rfl (.as rfl) ?_
    refine .nil (.code ?_)
    refine .ret _ rfl ?_
    exact ⟨rfl, ⟨_, P23.blk, tBytes.ext (tBytes.ext (tBytes.mono (Gr.rep' G11) (fun k hk _ => hn k hk.1)) Xm (fun k hk _ he => hp (by have he : k = p := he; rw [← he]; exact hk))) P23.ext (fun k hk _ he => hp (by have he : k = p := he; rw [← he]; exact hk))⟩, (X11.mono (fun _ _ h => h.elim)).trans (Xm.trans P23.ext)⟩
  · intro meet
    refine .condD rfl (fun c16 => ?_) (fun c16 => ?_)
    · refine .keep [(4, _), (3, _), (0, _)] ⟨rfl, rfl, rfl, trivial⟩ (.region ?_)
      refine .p rfl rfl (.mv rfl) ?_
      refine .p rfl rfl (.nilCheck rfl) ?_
      refine .p rfl rfl (.fieldAddr rfl rfl rfl rfl) ?_
      refine .s rfl (.store rfl rfl rfl rfl rfl B1 (by simp)) ?_
      intro w19 P19
      refine .nil ?_
      exact (meet w19 ⟨by rw [decide_eq_true c16, Bool.or_true]; exact P19.blk, P19.ext⟩).of ⟨rfl, rfl, rfl, trivial⟩
    · refine .skip ?_
      exact (meet w11 ⟨by rw [decide_eq_false c16, Bool.or_false]; exact B1, .refl _⟩).of ⟨rfl, rfl, rfl, trivial⟩
theorem Flag_fn {w : World} {p : Nat} {P : Nat → Prop} {s : RS} (h : RD w p P s) (hp : ¬ P p) (hn : ∀ k, w.heap.size ≤ k → P k) : Fn Try.prog 79 [.pointer (some ⟨p, 0, none⟩)] w (fun r w2 => r = u8 (flagP s).1 ∧ RD w2 p P (flagP s).2 ∧ Ext (· = p) w w2) := by
  obtain ⟨sb, sx⟩ := s
  obtain ⟨v0, B0, R0⟩ := h
  obtain ⟨a, cap, rfl, hcap⟩ := Sl.val R0
  refine Fn.enter (fun w => Try.call79 _ w) Try.func79 rfl ?_
  refine .seq (.region ?_)
  refine .p rfl rfl (.as rfl) ?_
  refine .nil (.code (.seq (.seq (.keep [(0, _)] ⟨rfl, trivial⟩ (.region ?_)))))
  refine .p rfl rfl (.mv rfl) ?_
  refine .p rfl rfl (.nilCheck rfl) ?_
  refine .p rfl rfl (.fieldAddr rfl rfl rfl rfl) ?_
  refine .p rfl rfl (.load rfl rfl rfl (B0.cell 0)) ?_
  refine .p rfl rfl (.len rfl rfl) ?_
  refine .p rfl rfl (.eq rfl rfl) ?_
  refine .nil (.code (.keep [(9, _), (0, _)] ⟨rfl, rfl, trivial⟩ ?_))
  refine .condD rfl (fun c9 => ?_) (fun c9 => ?_)
  · refine .seq (.keep [(0, _)] ⟨rfl, trivial⟩ (.region ?_))
    refine .p rfl rfl (.mv rfl) ?_
    refine .p rfl rfl (.nilCheck rfl) ?_
    refine .p rfl rfl (.fieldAddr rfl rfl rfl rfl) ?_
    refine .s rfl (.store rfl rfl rfl rfl rfl B0 (by simp)) ?_
    intro w12 P12
    refine .nil (.code (.seq (.keep [] trivial (.region ?_))))
    refine .p rfl rfl (.as rfl) ?_
    refine .nil (.code ?_)
    refine .ret _ rfl ?_
    have c9 : ((sb.length : Nat) : Int) = 0 := c9
    obtain rfl : sb = [] := List.length_eq_zero_iff.1 (by omega)
    exact ⟨rfl, ⟨_, P12.blk, tBytes.ext R0 P12.ext (fun k hk _ he => hp (by have he : k = p := he; rw [← he]; exact hk))⟩, P12.ext⟩
  · obtain ⟨x, r, rfl⟩ : ∃ x r, sb = x :: r := by cases sb with | nil => exact absurd rfl c9 | cons x r => exact ⟨x, r, rfl⟩
    obtain ⟨b0, o0, rfl, _, hc⟩ := Sl.byteAt R0 (k := 0) (by simp)
    obtain ⟨a24, c24, hv24, hc24, R24⟩ := Sl.cutE R0 1 (x :: r).length (by simp) (by simp)
    rw [List.take_length] at R24
    refine .skip (.code (.seq (.keep [(0, _)] ⟨rfl, trivial⟩ (.region ?_))))
    refine .p rfl rfl (.mv rfl) ?_
    refine .p rfl rfl (.nilCheck rfl) ?_
    refine .p rfl rfl (.fieldAddr rfl rfl rfl rfl) ?_
    refine .p rfl rfl (.load rfl rfl rfl (B0.cell 0)) ?_
    refine .p rfl rfl (.indexAddr1 rfl rfl rfl rfl (by omega)) ?_
    refine .p rfl rfl (.load rfl rfl rfl hc) ?_
    refine .p rfl rfl (.as rfl) ?_
    refine .nil (.code (.seq (.keep [(3, _), (0, _)] ⟨rfl, rfl, trivial⟩ (.region ?_))))
    refine .p rfl rfl (.mv rfl) ?_
    refine .p rfl rfl (.mv rfl) ?_
    refine .p rfl rfl (.nilCheck rfl) ?_
    refine .p rfl rfl (.fieldAddr rfl rfl rfl rfl) ?_
    refine .p rfl rfl (.load rfl rfl rfl (B0.cell 0)) ?_
    refine .p rfl rfl (.cast (.cutLo (s := 1) rfl rfl rfl rfl (by omega)) (show cutV 1 _ cap (1 : Int).toNat (x :: r).length = .slice a24 r.length c24 from hv24)) ?_
    refine .p rfl rfl (.nilCheck rfl) ?_
    refine .p rfl rfl (.fieldAddr rfl rfl rfl rfl) ?_
    refine .s rfl (.store rfl rfl rfl rfl rfl B0 (by simp)) ?_
    intro w26 P26
    refine .nil (.code (.seq (.keep [(3, _)] ⟨rfl, trivial⟩ (.region ?_))))
    refine .p rfl rfl (.mv rfl) ?_
    refine .p rfl rfl (.as rfl) ?_
    refine .nil (.code ?_)
    refine .ret _ rfl ?_
    exact ⟨rfl, ⟨_, P26.blk, tBytes.ext R24 P26.ext (fun k hk _ he => hp (by have he : k = p := he; rw [← he]; exact hk))⟩, P26.ext⟩
attribute [local irreducible] numP textP flagP headR entR loopR readE
theorem PRead_fn {w : World} {v : Value} {b : Bs} (h : tBytes.rep All w v b) : Fn Try.prog 49 [v] w (fun r w2 => ∃ v', r = .tuple #[v', i64 (readE b).2] ∧ OwnO tEntry (fun _ => False) 33 w2 v' (readE b).1 (fun k => w.heap.size ≤ k) ∧ Ext (fun _ => False) w w2) := by
  obtain ⟨a, cap, rfl, hcap⟩ := Sl.val h
  refine Fn.enter (fun w => Try.call49 _ w) Try.func49 rfl ?_
  refine .seq (.region ?_)
  refine .p rfl rfl (.as rfl) ?_
  refine .p rfl rfl (.as rfl) ?_
  refine .nil (.code (.seq (.seq (.keep [(0, _)] ⟨rfl, trivial⟩ (.mix (fun _ => False) [14, 20] (by kernel_rfl) (by kernel_rfl) (by kernel_rfl) ?_)))))
  refine .p rfl rfl rfl (fun wx hx => .mv rfl) ?_
  refine .p rfl rfl rfl (fun wx hx => .len rfl rfl) ?_
  refine .p rfl rfl rfl (fun wx hx => .lt rfl rfl) ?_
  refine .p rfl rfl rfl (fun wx hx => .mv rfl) ?_
  refine .caseD 14 rfl (fun c14 => ?_) (fun c14 => ?_)
  · refine .skip rfl rfl ?_
    refine .skip rfl rfl ?_
    refine .skip rfl rfl ?_
    refine .p rfl rfl rfl (fun wx hx => .pickT rfl rfl) ?_
    refine .p rfl rfl rfl (fun wx hx => .mv rfl) ?_
    refine .skip rfl rfl ?_
    refine .skip rfl rfl ?_
    refine .skip rfl rfl ?_
    refine .skip rfl rfl ?_
    refine .skip rfl rfl ?_
    refine .skip rfl rfl ?_
    refine .skip rfl rfl ?_
    refine .skip rfl rfl ?_
    refine .skip rfl rfl ?_
    refine .skip rfl rfl ?_
    refine .skip rfl rfl ?_
    refine .skip rfl rfl ?_
    refine .skip rfl rfl ?_
    refine .p rfl rfl rfl (fun wx hx => .pickT rfl rfl) ?_
    refine .nil (.code (.keep [(33, _), (0, _)] ⟨rfl, rfl, trivial⟩ (.condT rfl (.seq (.keep [] trivial (.region ?_))))))
    refine .p rfl rfl (.as rfl) ?_
    refine .p rfl rfl (.as rfl) ?_
    refine .nil (.code ?_)
    refine .ret _ rfl ?_
    rw [show readE b = ([], 8) by unfold readE; rw [if_pos (by unfold badB; omega)]]
    exact ⟨_, rfl, OwnO.nil, .refl _⟩
  · refine .p rfl rfl rfl (fun wx hx => .mv rfl) ?_
    refine .p rfl rfl rfl (fun wx hx => .len rfl rfl) ?_
    refine .p rfl rfl rfl (fun wx hx => .gt rfl rfl) ?_
    refine .p rfl rfl rfl (fun wx hx => .pickF rfl rfl) ?_
    refine .p rfl rfl rfl (fun wx hx => .mv rfl) ?_
    refine .caseD 19 rfl (fun c19 => ?_) (fun c19 => ?_)
    · refine .skip rfl rfl ?_
      refine .skip rfl rfl ?_
      refine .skip rfl rfl ?_
      refine .skip rfl rfl ?_
      refine .skip rfl rfl ?_
      refine .skip rfl rfl ?_
      refine .skip rfl rfl ?_
      refine .skip rfl rfl ?_
      refine .skip rfl rfl ?_
      refine .skip rfl rfl ?_
      refine .skip rfl rfl ?_
      refine .skip rfl rfl ?_
      refine .skip rfl rfl ?_
      refine .p rfl rfl rfl (fun wx hx => .pickT rfl rfl) ?_
      refine .nil (.code (.keep [(33, _), (0, _)] ⟨rfl, rfl, trivial⟩ (.condT rfl (.seq (.keep [] trivial (.region ?_))))))
      refine .p rfl rfl (.as rfl) ?_
      refine .p rfl rfl (.as rfl) ?_
      refine .nil (.code ?_)
      refine .ret _ rfl ?_
      rw [show readE b = ([], 8) by unfold readE; rw [if_pos (by unfold badB; omega)]]
      exact ⟨_, rfl, OwnO.nil, .refl _⟩
    · have e4 : ((b.length : Int) - 4).toNat = b.length - 4 := by omega
      obtain ⟨a24, c24, hv24, hc24, R24⟩ := Sl.cutE h 0 (b.length - 4) (by omega) (by omega)
      obtain ⟨a30, c30, hv30, hc30, R30⟩ := Sl.cutE h (b.length - 4) b.length (by omega) (by omega)
      rw [List.take_length] at R30
      rw [List.drop_zero] at R24
      refine .p rfl rfl rfl (fun wx hx => .mv rfl) ?_
      refine .p rfl rfl rfl (fun wx hx => .mv rfl) ?_
      refine .p rfl rfl rfl (fun wx hx => .len rfl rfl) ?_
      refine .p rfl rfl rfl (fun wx hx => .sub rfl rfl (by omega)) ?_
      refine .p rfl rfl rfl (fun wx hx => .cast (.cutHi (s := 1) rfl rfl rfl rfl (by omega)) (show cutV 1 a cap 0 ((b.length : Int) - 4).toNat = .slice a24 (b.length - 4 - 0) c24 by rw [e4]; exact hv24)) ?_
      refine .call (first := []) (captured := []) rfl rfl rfl rfl rfl (psum_fn R24) (by rintro _ _ ⟨_, hx⟩; exact hx) ?_
      rintro r25 w25 ⟨R25, X25⟩
      refine .p rfl rfl rfl (fun wx hx => .mv rfl) ?_
      refine .p rfl rfl rfl (fun wx hx => .mv rfl) ?_
      refine .p rfl rfl rfl (fun wx hx => .len rfl rfl) ?_
      refine .p rfl rfl rfl (fun wx hx => .sub rfl rfl (by omega)) ?_
      refine .p rfl rfl rfl (fun wx hx => .cast (.cutLo (s := 1) rfl rfl rfl rfl (by omega)) (show cutV 1 a cap ((b.length : Int) - 4).toNat b.length = .slice a30 (b.length - (b.length - 4)) c30 by rw [e4]; exact hv30)) ?_
      refine .call (first := []) (captured := []) rfl rfl rfl rfl rfl (bytesEqual_fn (allOf R25) (tBytes.ext0 R30 X25)) (by rintro _ _ ⟨_, hx⟩; exact X25.trans hx) ?_
      rintro _ w31 ⟨rfl, X31⟩
      refine .p rfl rfl rfl (fun wx hx => .notD rfl) ?_
      refine .p rfl rfl rfl (fun wx hx => .pickF rfl rfl) ?_
      refine .nil (.code (.keep [(33, _), (0, _)] ⟨rfl, rfl, trivial⟩ ?_))
      refine .condD rfl (fun c33 => ?_) (fun c33 => ?_)
      · refine .seq (.keep [] trivial (.region ?_))
        refine .p rfl rfl (.as rfl) ?_
        refine .p rfl rfl (.as rfl) ?_
        refine .nil (.code ?_)
        refine .ret _ rfl ?_
        rw [show readE b = ([], 8) by unfold readE; rw [if_pos (.inr (.inr c33))]]
        exact ⟨_, rfl, OwnO.nil, X25.trans X31⟩
      · have hgood : ¬ badB b := by
          rintro (h1 | h1 | h1)
          · omega
          · omega
          · exact h1 (Decidable.not_not.1 c33)
        refine .skip (.code (.seq (.keep [(0, _)] ⟨rfl, trivial⟩ (.region ?_))))
        refine .p rfl rfl (.mv rfl) ?_
        refine .p rfl rfl (.mv rfl) ?_
        refine .p rfl rfl (.len rfl rfl) ?_
        refine .p rfl rfl (.sub rfl rfl (by omega)) ?_
        refine .p rfl rfl (.cast (.cutHi (s := 1) rfl rfl rfl rfl (by omega)) (show cutV 1 a cap 0 ((b.length : Int) - 4).toNat = .slice a24 (b.length - 4 - 0) c24 by rw [e4]; exact hv24)) ?_
        refine .p rfl rfl (.build (cs := [.slice a24 (b.length - 4 - 0) c24, .bool false]) rfl (fun _ => by kernel_rfl)) ?_
        refine .v rfl rfl (.box rfl) ?_
        rintro _ w40 ⟨rfl, N40⟩
        have z40 := N40.size
        have z31 : w.heap.size ≤ w31.heap.size := (X25.trans X31).size
        have R40 : RD w40 w31.heap.size (fun k => k ≠ w31.heap.size ∧ ¬ False) (b.take (b.length - 4), false) := ⟨_, N40.blk, tBytes.mono (tBytes.ext0 (tBytes.mono (P' := fun k => k ≠ w31.heap.size ∧ ¬ False) (tBytes.ext0 R24 (X25.trans X31)) (fun k _ hk => ⟨by omega, fun h => h⟩)) N40.ext) (fun k hk _ => hk)⟩
        refine .p rfl rfl (.as rfl) ?_
        refine .nil (.code (.seq (.keep [(4, _), (0, _)] ⟨rfl, rfl, trivial⟩ (.region ?_))))
        refine .p rfl rfl (.as rfl) ?_
        refine .nil (.code (.seq (.region ?_)))
        refine .p rfl rfl (.as rfl) ?_
        refine .nil (.code (.seq (.seq (.region ?_))))
        refine .p rfl rfl (.mv rfl) ?_
        refine .call (first := []) (captured := []) rfl rfl rfl rfl (Number_fn (m := 4096) R40 (fun h => h.1 rfl) (fun k hk => ⟨by omega, fun h => h⟩) (by decide)) ?_
        rintro _ w42 ⟨rfl, R42, X42⟩
        have X42 := ((X25.trans X31).trans N40.ext).then X42 (by rintro k rfl _; exact z31)
        have hN4 := (numP_le 4096 (b.take (b.length - 4), false)).1
        generalize hN0 : (numP 4096 (b.take (b.length - 4), false)).1 = N0 at hN4 ⊢
        refine .p rfl rfl (.mv rfl) ?_
        refine .nil (.code (.block (.keep [(43, _), (42, _), (6, _), (5, _), (4, _), (0, _)] ⟨rfl, rfl, rfl, rfl, rfl, rfl, trivial⟩ ?_)))
        refine .loop (S := Nat × Bs × List Entry × RS × Value × (Nat → Prop) × World) (fun s => [(0, .slice a b.length cap), (4, .pointer (some ⟨w31.heap.size, 0, none⟩)), (42, i64 (N0 : Nat)), (43, i64 s.1), (5, s.2.2.2.2.1), (6, str s.2.1)]) (fun s => s.2.2.2.2.2.2) (fun s => s.1 ≤ N0 ∧ loopR (N0 - s.1) s.2.1 s.2.2.1 s.2.2.2.1 = loopR N0 [] [] (numP 4096 (b.take (b.length - 4), false)).2 ∧ s.2.1.length + s.2.2.2.1.1.length ≤ 65536 ∧ s.2.2.1.length = s.1 ∧ (∀ k, s.2.2.2.2.2.1 k → w.heap.size ≤ k ∧ k ≠ w31.heap.size ∧ k < s.2.2.2.2.2.2.heap.size) ∧ RD s.2.2.2.2.2.2 w31.heap.size (fun k => k ≠ w31.heap.size ∧ ¬ s.2.2.2.2.2.1 k) s.2.2.2.1 ∧ OwnO tEntry (fun _ => False) 33 s.2.2.2.2.2.2 s.2.2.2.2.1 s.2.2.1 s.2.2.2.2.2.1 ∧ Ext (fun _ => False) w s.2.2.2.2.2.2) (fun s => N0 - s.1) (0, [], [], _, _, fun _ => False, w42) ⟨rfl, rfl, rfl, rfl, rfl, rfl, trivial⟩ rfl ⟨Nat.zero_le _, rfl, (by have := (numP_le 4096 (b.take (b.length - 4), false)).2; simp at this; show 0 + (numP 4096 (b.take (b.length - 4), false)).2.1.length ≤ 65536; omega), rfl, fun _ h => h.elim, R42, OwnO.nil, X42⟩ ?_
        rintro ⟨i, ahead, acc, rs, v5, B, wi⟩ J ⟨hi', hloop, hlen, hacc, hB, hRD, hO, hX⟩ again
        simp only at hi' hloop hlen hacc hB hRD hO hX
        have hlt := hRD.lt
        have hp : ¬ (fun k => k ≠ w31.heap.size ∧ ¬ B k) w31.heap.size := fun h => h.1 rfl
        have hn : ∀ k, wi.heap.size ≤ k → k ≠ w31.heap.size ∧ ¬ B k := fun k hk => ⟨by omega, fun hb => by have := (hB k hb).2.2; omega⟩
        change G _ [(0, .slice a b.length cap), (4, .pointer (some ⟨w31.heap.size, 0, none⟩)), (42, i64 (N0 : Nat)), (43, i64 i), (5, v5), (6, str ahead)] _ _ wi
        refine .seq (.region ?_)
        refine .p rfl rfl (.lt rfl rfl) ?_
        refine .nil (.code (.seq ?_))
        refine .condD rfl (fun c44 => ?_) (fun c44 => ?_)
        · have hi : i < N0 := by omega
          refine .skip (.code (.seq (.block (.seq (.keep [(0, _), (4, _), (42, _), (43, _), (5, _), (6, _)] ⟨rfl, rfl, rfl, rfl, rfl, rfl, trivial⟩ (.region ?_))))))
          refine .p rfl rfl (.mv rfl) ?_
          refine .p rfl rfl (.mv rfl) ?_
          refine .p rfl rfl (.lenS rfl rfl) ?_
          refine .call (first := []) (captured := []) rfl rfl rfl rfl (Number_fn (m := ahead.length) hRD hp hn (by omega)) ?_
          rintro _ w48 ⟨rfl, R48, X48⟩
          have z48 := X48.size
          have hle48 := (numP_le ahead.length rs).1
          refine .p rfl rfl (.as rfl) ?_
          refine .nil (.code (.seq (.keep [(7, _), (0, _), (4, _), (42, _), (43, _), (5, _), (6, _)] ⟨rfl, rfl, rfl, rfl, rfl, rfl, rfl, trivial⟩ ?_)))
          refine .meet (S := Nat × World) (fun s => [(0, .slice a b.length cap), (4, .pointer (some ⟨w31.heap.size, 0, none⟩)), (42, i64 (N0 : Nat)), (43, i64 i), (5, v5), (6, str ahead), (8, .pointer (some ⟨s.1, 0, none⟩))]) (fun s => s.2) (fun s => Blk s.2 s.1 33 [str (headR ahead rs).1, str [], i64 (headR ahead rs).2.1, .bool (headR ahead rs).2.2.1] ∧ RD s.2 w31.heap.size (fun k => (k ≠ w31.heap.size ∧ ¬ B k) ∧ k ≠ s.1) (headR ahead rs).2.2.2 ∧ Ext (fun k => k = w31.heap.size ∨ w48.heap.size ≤ k) w48 s.2 ∧ w48.heap.size ≤ s.1) ?_ ?_
          · rintro ⟨q, wm⟩ ⟨Bm, Rm, Xm, hq⟩
            simp only at Bm Rm Xm hq
            have zm := Xm.size
            have hqm := Bm.lt
            change A _ [(0, .slice a b.length cap), (4, .pointer (some ⟨w31.heap.size, 0, none⟩)), (42, i64 (N0 : Nat)), (43, i64 i), (5, v5), (6, str ahead), (8, .pointer (some ⟨q, 0, none⟩))] _ wm
            refine .code (.seq (.seq (.keep [(0, _), (4, _), (42, _), (43, _), (5, _), (8, _)] ⟨rfl, rfl, rfl, rfl, rfl, rfl, trivial⟩ (.region ?_))))
            refine .p rfl rfl (.fieldAddr rfl rfl rfl rfl) ?_
            refine .p rfl rfl (.load rfl rfl rfl (Bm.cell 3)) ?_
            refine .p rfl rfl (.not rfl) ?_
            refine .nil (.code (.keep [(63, _), (0, _), (4, _), (42, _), (43, _), (5, _), (8, _)] ⟨rfl, rfl, rfl, rfl, rfl, rfl, rfl, trivial⟩ ?_))
            refine .meet (S := World) (fun s => [(0, .slice a b.length cap), (4, .pointer (some ⟨w31.heap.size, 0, none⟩)), (42, i64 (N0 : Nat)), (43, i64 i), (5, v5), (8, .pointer (some ⟨q, 0, none⟩))]) (fun s => s) (fun s => Blk s q 33 [str (entR ahead rs).1.key, str (entR ahead rs).1.value, i64 (entR ahead rs).1.seq, .bool (entR ahead rs).1.gone] ∧ RD s w31.heap.size (fun k => k ≠ w31.heap.size ∧ ¬ B k) (entR ahead rs).2 ∧ Ext (fun k => k = w31.heap.size ∨ w48.heap.size ≤ k) wm s) ?_ ?_
            · rintro wn ⟨Bn, Rn, Xn⟩
              have zn := Xn.size
              obtain ⟨v7, B7, R7⟩ := Rn
              have hql := Bn.lt
              refine .code (.seq (.seq (.region ?_)))
              refine .p rfl rfl (.mv rfl) ?_
              refine .p rfl rfl (.nilCheck rfl) ?_
              refine .p rfl rfl (.fieldAddr rfl rfl rfl rfl) ?_
              refine .p rfl rfl (.load rfl rfl rfl (B7.cell 1)) ?_
              refine .nil (.code (.keep [(70, _), (0, _), (4, _), (42, _), (43, _), (5, _), (8, _)] ⟨rfl, rfl, rfl, rfl, rfl, rfl, rfl, trivial⟩ ?_))
              refine .cond rfl (fun c70 => ?_) (fun c70 => ?_)
              · refine .seq (.keep [] trivial (.region ?_))
                refine .p rfl rfl (.as rfl) ?_
                refine .p rfl rfl (.as rfl) ?_
                refine .nil (.code ?_)
                refine .ret _ rfl ?_
                have zX := hX.size
                rw [readE_none hgood (by rw [hN0, ← hloop, show N0 - i = (N0 - (i + 1)) + 1 by omega, loopR_T c70])]
                exact ⟨_, rfl, OwnO.nil, ((hX.then X48 (by rintro k rfl _; exact z31)).then Xm (by rintro k (rfl | h) _; exact z31; omega)).then Xn (by rintro k (rfl | h) _; exact z31; omega)⟩
              · have hBc : ∀ k, B k → ¬ (k = w31.heap.size ∨ w48.heap.size ≤ k) := fun k hk h => by have := hB k hk; omega
                have hO72 := ((OwnO.ext hO X48 (fun k hk _ he => (hB k hk).2.1 he) (fun _ h => h.elim)).ext Xm (fun k hk _ => hBc k hk) (fun _ h => h.elim)).ext Xn (fun k hk _ => hBc k hk) (fun _ h => h.elim)
                obtain ⟨he2, he3⟩ := entR_ok ahead rs
                have he1 := entR_le ahead rs
                have he4 : (entR ahead rs).1.key.length < Lim := by simp only [Lim]; omega
                have he5 : (entR ahead rs).1.value.length < Lim := by simp only [Lim]; omega
                refine .skip (.code (.seq (.keep [(0, _), (4, _), (42, _), (43, _), (5, _), (8, _)] ⟨rfl, rfl, rfl, rfl, rfl, rfl, trivial⟩ (.region ?_))))
                refine .p rfl rfl (.mv rfl) ?_
                refine .p rfl rfl (.loadA (n := 4) rfl rfl rfl rfl rfl (Bn.ext (S := fun _ => False) (by first | exact Ext.refl _ | exact hX) (fun x => x)).cells) ?_
                refine .v rfl rfl (.lits rfl rfl (fun _ => by kernel_rfl)) ?_
                rintro _ w73 ⟨rfl, N73⟩
                have z73 := N73.size
                have hO73 := OwnO.ext0 (OwnO.mono hO72 (B' := fun k => B k ∨ w73.heap.size ≤ k) (fun _ h _ => h) (fun _ h _ => .inl h)) N73.ext
                refine .v rfl rfl (.appendLo (t := tEntry) (Q := fun _ => False) (B := fun k => B k ∨ w73.heap.size ≤ k) (eb := 48) rfl hO73 (fun k hk => .inr hk) rfl (.inr (New.holds (xs := [(entR ahead rs).1]) N73 (.cons (tEntry.mk he4 he5 ⟨by omega, by omega⟩) .nil) rfl)) rfl rfl rfl rfl rfl rfl rfl (by simp; omega) (by simp [Lim]; omega) (fun _ h _ => h.elim)) ?_
                rintro r74 w74 ⟨G74, Y74⟩
                have z74 := Y74.size
                have B76 := (Bn.ext N73.ext (fun x => x)).ext Y74 (fun h => h.elim (fun h => by have := (hB q h).2.2; omega) (fun h => by omega))
                refine .p rfl rfl (.as rfl) ?_
                refine .nil (.code (.keep [(5, _), (0, _), (4, _), (42, _), (43, _), (8, _)] ⟨rfl, rfl, rfl, rfl, rfl, rfl, trivial⟩ (.region ?_)))
                refine .p rfl rfl (.fieldAddr rfl rfl rfl rfl) ?_
                refine .p rfl rfl (.load rfl rfl rfl (B76.cell 0)) ?_
                refine .p rfl rfl (.as rfl) ?_
                refine .nil (.blk (.code (.keep [(6, _), (5, _), (0, _), (4, _), (42, _), (43, _)] ⟨rfl, rfl, rfl, rfl, rfl, rfl, trivial⟩ (.region ?_))))
                refine .p rfl rfl (.add rfl rfl (by omega)) ?_
                refine .p rfl rfl (.mv rfl) ?_
                refine .nil ?_
                have zX := hX.size
                have Zx := (((hX.then X48 (by rintro k rfl _; exact z31)).then Xm (by rintro k (rfl | h) _; exact z31; omega)).then Xn (by rintro k (rfl | h) _; exact z31; omega)).trans N73.ext
                have RZ : RD wn w31.heap.size (fun k => k ≠ w31.heap.size ∧ ¬ B k) (entR ahead rs).2 := ⟨_, B7, R7⟩
                have RZ := RD.mono (P' := fun k => k ≠ w31.heap.size ∧ ¬ ((B k ∨ w73.heap.size ≤ k) ∧ k < w74.heap.size)) (RZ.ext0 N73.ext) (fun k hk hlt => ⟨hk.1, fun h => h.1.elim hk.2 (fun h => by omega)⟩)
                have RZ := RD.ext RZ Y74 (by rintro (h | h); exact (hB _ h).2.1 rfl; omega) (fun k hk hlt he => hk.2 ⟨he, by omega⟩)
                exact (again (i + 1, (entR ahead rs).1.key, acc ++ [(entR ahead rs).1], (entR ahead rs).2, r74, (fun k => (B k ∨ w73.heap.size ≤ k) ∧ k < w74.heap.size), w74) ⟨by show i + 1 ≤ N0; omega, by rw [← hloop, show N0 - i = (N0 - (i + 1)) + 1 by omega, loopR_F c70], by show (entR ahead rs).1.key.length + (entR ahead rs).2.1.length ≤ _; omega, by show (acc ++ [_]).length = i + 1; simp [hacc], (fun k hk => ⟨by rcases hk.1 with h | h; have := (hB k h).1; omega; omega, fun e => by rcases hk.1 with h | h; exact (hB k h).2.1 e; omega, hk.2⟩), RZ, OwnO.mono G74 (fun _ h _ => h) (fun k h hlt => ⟨h, hlt⟩), Zx.then Y74 (fun k h _ => by rcases h with h | h; exact (hB k h).1; omega)⟩ (by show N0 - (i + 1) < N0 - i; omega)).of ⟨rfl, rfl, rfl, rfl, rfl, rfl, trivial⟩
            · intro meet
              refine .cond rfl (fun c63 => ?_) (fun c63 => ?_)
              · refine .keep [(0, _), (4, _), (42, _), (43, _), (5, _), (8, _)] ⟨rfl, rfl, rfl, rfl, rfl, rfl, trivial⟩ (.region ?_)
                refine .p rfl rfl (.mv rfl) ?_
                refine .call (first := []) (captured := []) rfl rfl rfl rfl (RText_fn Rm (fun h => hp h.1) (by first | exact fun k hk => hn k (by omega) | exact fun k hk => ⟨hn k (by omega), by omega⟩)) ?_
                rintro _ w65 ⟨rfl, R65, X65⟩
                have z65 := X65.size
                have B65 := Bm.ext X65 (by show ¬ q = w31.heap.size; omega)
                refine .p rfl rfl (.fieldAddr rfl rfl rfl rfl) ?_
                refine .s rfl (.store rfl rfl rfl rfl rfl B65 (by simp)) ?_
                intro w66 P66
                refine .nil ?_
                have c63 : ¬ (headR ahead rs).2.2.1 = true := by simpa using c63
                exact (meet w66 ⟨by rw [entR_F c63]; exact P66.blk, by rw [entR_F c63]; exact RD.mono (RD.ext R65 P66.ext (by show ¬ w31.heap.size = q; omega) (fun k hk hlt he => hk.2 he)) (fun k hk _ => hk.1), (X65.mono (fun _ _ h => .inl h)).trans (P66.ext.mono (by rintro k _ rfl; exact .inr hq))⟩).of ⟨rfl, rfl, rfl, rfl, rfl, rfl, trivial⟩
              · refine .skip ?_
                have c63 : (headR ahead rs).2.2.1 = true := by simpa using c63
                exact (meet wm ⟨by rw [entR_T c63]; exact Bm, by rw [entR_T c63]; exact RD.mono Rm (fun k hk _ => hk.1), .refl _⟩).of ⟨rfl, rfl, rfl, rfl, rfl, rfl, trivial⟩
          · intro meet
            refine .tree (fun k => k = w31.heap.size ∨ w48.heap.size ≤ k) [4, 7, 9, 12, 13] (.op 0 (.op 1 (.op 2 (.op 3 (.op 6 (.op 8 (.alt 4 (.op 4 (.op 5 (.alt 7 (.op 7 (.alt 9 (.op 9 (.op 10 (.op 11 (.alt 12 (.op 12 (.alt 13 (.op 13 (.nil)) (.stop))) (.stop))))) (.alt 12 (.op 12 (.alt 9 (.op 9 (.op 10 (.op 11 (.alt 13 (.op 13 (.nil)) (.stop))))) (.stop))) (.stop)))) (.alt 12 (.op 12 (.alt 7 (.op 7 (.alt 9 (.op 9 (.op 10 (.op 11 (.alt 13 (.op 13 (.nil)) (.stop))))) (.stop))) (.stop))) (.stop))))) (.alt 12 (.op 12 (.alt 4 (.op 4 (.op 5 (.alt 7 (.op 7 (.alt 9 (.op 9 (.op 10 (.op 11 (.alt 13 (.op 13 (.nil)) (.stop))))) (.stop))) (.stop)))) (.stop))) (.stop))))))))) (by kernel_rfl) (by kernel_rfl) (by kernel_rfl) ?_
            refine .p rfl rfl rfl rfl (fun wx hx => .mv rfl) ?_
            refine .p rfl rfl rfl rfl (fun wx hx => .mv rfl) ?_
            refine .p rfl rfl rfl rfl (fun wx hx => .cast (.cutSHi rfl rfl rfl (by omega)) (show _ = str (ahead.take (numP ahead.length rs).1) by rw [Int.toNat_natCast])) ?_
            refine .p rfl rfl rfl rfl (fun wx hx => .mv rfl) ?_
            refine .p rfl rfl rfl rfl (fun wx hx => .mv rfl) ?_
            refine .p rfl rfl rfl rfl (fun wx hx => .mv rfl) ?_
            refine .alt ?_ ?_
            · refine .call (first := []) (captured := []) rfl rfl rfl rfl rfl rfl (RText_fn R48 (by first | exact hp | exact fun h => hp h.1) (by first | exact fun k hk => hn k (by omega) | exact fun k hk => ⟨hn k (by omega), by omega⟩)) (by rintro _ _ ⟨_, _, hx⟩; exact (Ext.refl _).trans (hx.mono (fun _ _ h => .inl h))) ?_
              rintro _ w53 ⟨rfl, R53, X53⟩
              have z53 := X53.size
              try (have B8 := Blk.ext B8 X53 (fun h => by have h : _ = w31.heap.size := h; omega))
              have hX53 : Ext (fun k => k = w31.heap.size ∨ w48.heap.size ≤ k) _ _ := (Ext.refl _).trans (X53.mono (fun _ _ h => .inl h))
              refine .p rfl rfl rfl rfl (fun wx hx => .addS rfl rfl (by have := (headR_le ahead rs).1; rw [headR_eq] at this; simp only [List.length_append] at this; omega)) ?_
              refine .alt ?_ ?_
              · refine .call (first := []) (captured := []) rfl rfl rfl rfl rfl rfl (Number_fn (m := 2147483647) R53 (by first | exact hp | exact fun h => hp h.1) (by first | exact fun k hk => hn k (by omega) | exact fun k hk => ⟨hn k (by omega), by omega⟩) (by decide)) (by rintro _ _ ⟨_, _, hx⟩; exact hX53.trans (hx.mono (fun _ _ h => .inl h))) ?_
                rintro _ w56 ⟨rfl, R56, X56⟩
                have z56 := X56.size
                try (have B8 := Blk.ext B8 X56 (fun h => by have h : _ = w31.heap.size := h; omega))
                have hX56 : Ext (fun k => k = w31.heap.size ∨ w48.heap.size ≤ k) _ _ := hX53.trans (X56.mono (fun _ _ h => .inl h))
                refine .alt ?_ ?_
                · refine .call (first := []) (captured := []) rfl rfl rfl rfl rfl rfl (Flag_fn R56 (by first | exact hp | exact fun h => hp h.1) (by first | exact fun k hk => hn k (by omega) | exact fun k hk => ⟨hn k (by omega), by omega⟩)) (by rintro _ _ ⟨_, _, hx⟩; exact hX56.trans (hx.mono (fun _ _ h => .inl h))) ?_
                  rintro _ w58 ⟨rfl, R58, X58⟩
                  have z58 := X58.size
                  try (have B8 := Blk.ext B8 X58 (fun h => by have h : _ = w31.heap.size := h; omega))
                  have hX58 : Ext (fun k => k = w31.heap.size ∨ w48.heap.size ≤ k) _ _ := hX56.trans (X58.mono (fun _ _ h => .inl h))
                  refine .p rfl rfl rfl rfl (fun wx hx => .cast (.eq rfl rfl) (show _ = Value.bool (decide ((flagP (numP 2147483647 (textP (numP ahead.length rs).2).2).2).1 = 1)) from congrArg Value.bool (decide_eq_decide.2 ⟨fun h => UInt8.toNat_inj.1 (by have h : (((flagP (numP 2147483647 (textP (numP ahead.length rs).2).2).2).1.toNat : Nat) : Int) = 1 := h; show _ = 1; omega), fun h => by rw [h]; rfl⟩))) ?_
                  refine .p rfl rfl rfl rfl (fun wx hx => .build (cs := [str (ahead.take (numP ahead.length rs).1 ++ (textP (numP ahead.length rs).2).1), str [], i64 ((numP 2147483647 (textP (numP ahead.length rs).2).2).1 : Nat), .bool (decide ((flagP (numP 2147483647 (textP (numP ahead.length rs).2).2).2).1 = 1))]) rfl (fun _ => by kernel_rfl)) ?_
                  refine .alt ?_ ?_
                  · refine .v rfl rfl rfl rfl (.alloc rfl rfl) (by rintro _ _ ⟨_, hN⟩; exact hX58.trans hN.ext0) ?_
                    rintro _ w8 ⟨rfl, N8⟩
                    have z8 := N8.size
                    have B8 := N8.blk
                    first | have R58 := RD.past R58 N8 | have R56 := RD.past R56 N8 | have R53 := RD.past R53 N8 | have R48 := RD.past R48 N8
                    have hX8 : Ext (fun k => k = w31.heap.size ∨ w48.heap.size ≤ k) _ _ := hX58.trans (N8.ext0)
                    refine .alt ?_ ?_
                    · refine .s rfl rfl rfl (.storeAll (n := 4) (E := 33) (cs := [str [], str [], i64 0, .bool false]) rfl rfl rfl rfl rfl B8 rfl) (by intro wz hP; exact hX8.trans (hP.ext.mono (by rintro k _ rfl; exact .inr (by omega)))) ?_
                      intro w913 P9
                      have hXs13 : Ext (fun k => k = w31.heap.size ∨ w48.heap.size ≤ k) _ _ := hX8.trans (P9.ext.mono (by rintro k _ rfl; exact .inr (by omega)))
                      refine .nil ?_
                      have z13 := P9.size
                      have hh := headR_le ahead rs
                      exact (meet (w58.heap.size, w913) ⟨by rw [headR_eq]; exact P9.blk, by rw [headR_eq]; exact RD.ext R58 P9.ext (by show ¬ w31.heap.size = w58.heap.size; omega) (fun k hk hlt he => hk.2 he), hXs13, by show w48.heap.size ≤ w58.heap.size; omega⟩).of ⟨rfl, rfl, rfl, rfl, rfl, rfl, rfl, trivial⟩
                    exact .stop
                  exact .stop
                refine .alt ?_ ?_
                · refine .v rfl rfl rfl rfl (.alloc rfl rfl) (by rintro _ _ ⟨_, hN⟩; exact hX56.trans hN.ext0) ?_
                  rintro _ w8 ⟨rfl, N8⟩
                  have z8 := N8.size
                  have B8 := N8.blk
                  first | have R58 := RD.past R58 N8 | have R56 := RD.past R56 N8 | have R53 := RD.past R53 N8 | have R48 := RD.past R48 N8
                  have hX8 : Ext (fun k => k = w31.heap.size ∨ w48.heap.size ≤ k) _ _ := hX56.trans (N8.ext0)
                  refine .alt ?_ ?_
                  · refine .call (first := []) (captured := []) rfl rfl rfl rfl rfl rfl (Flag_fn R56 (by first | exact hp | exact fun h => hp h.1) (by first | exact fun k hk => hn k (by omega) | exact fun k hk => ⟨hn k (by omega), by omega⟩)) (by rintro _ _ ⟨_, _, hx⟩; exact hX8.trans (hx.mono (fun _ _ h => .inl h))) ?_
                    rintro _ w58 ⟨rfl, R58, X58⟩
                    have z58 := X58.size
                    try (have B8 := Blk.ext B8 X58 (fun h => by have h : _ = w31.heap.size := h; omega))
                    have hX58 : Ext (fun k => k = w31.heap.size ∨ w48.heap.size ≤ k) _ _ := hX8.trans (X58.mono (fun _ _ h => .inl h))
                    refine .p rfl rfl rfl rfl (fun wx hx => .cast (.eq rfl rfl) (show _ = Value.bool (decide ((flagP (numP 2147483647 (textP (numP ahead.length rs).2).2).2).1 = 1)) from congrArg Value.bool (decide_eq_decide.2 ⟨fun h => UInt8.toNat_inj.1 (by have h : (((flagP (numP 2147483647 (textP (numP ahead.length rs).2).2).2).1.toNat : Nat) : Int) = 1 := h; show _ = 1; omega), fun h => by rw [h]; rfl⟩))) ?_
                    refine .p rfl rfl rfl rfl (fun wx hx => .build (cs := [str (ahead.take (numP ahead.length rs).1 ++ (textP (numP ahead.length rs).2).1), str [], i64 ((numP 2147483647 (textP (numP ahead.length rs).2).2).1 : Nat), .bool (decide ((flagP (numP 2147483647 (textP (numP ahead.length rs).2).2).2).1 = 1))]) rfl (fun _ => by kernel_rfl)) ?_
                    refine .alt ?_ ?_
                    · refine .s rfl rfl rfl (.storeAll (n := 4) (E := 33) (cs := [str [], str [], i64 0, .bool false]) rfl rfl rfl rfl rfl B8 rfl) (by intro wz hP; exact hX58.trans (hP.ext.mono (by rintro k _ rfl; exact .inr (by omega)))) ?_
                      intro w913 P9
                      have hXs13 : Ext (fun k => k = w31.heap.size ∨ w48.heap.size ≤ k) _ _ := hX58.trans (P9.ext.mono (by rintro k _ rfl; exact .inr (by omega)))
                      refine .nil ?_
                      have z13 := P9.size
                      have hh := headR_le ahead rs
                      exact (meet (w56.heap.size, w913) ⟨by rw [headR_eq]; exact P9.blk, by rw [headR_eq]; exact RD.ext R58 P9.ext (by show ¬ w31.heap.size = w56.heap.size; omega) (fun k hk hlt he => hk.2 he), hXs13, by show w48.heap.size ≤ w56.heap.size; omega⟩).of ⟨rfl, rfl, rfl, rfl, rfl, rfl, rfl, trivial⟩
                    exact .stop
                  exact .stop
                exact .stop
              refine .alt ?_ ?_
              · refine .v rfl rfl rfl rfl (.alloc rfl rfl) (by rintro _ _ ⟨_, hN⟩; exact hX53.trans hN.ext0) ?_
                rintro _ w8 ⟨rfl, N8⟩
                have z8 := N8.size
                have B8 := N8.blk
                first | have R58 := RD.past R58 N8 | have R56 := RD.past R56 N8 | have R53 := RD.past R53 N8 | have R48 := RD.past R48 N8
                have hX8 : Ext (fun k => k = w31.heap.size ∨ w48.heap.size ≤ k) _ _ := hX53.trans (N8.ext0)
                refine .alt ?_ ?_
                · refine .call (first := []) (captured := []) rfl rfl rfl rfl rfl rfl (Number_fn (m := 2147483647) R53 (by first | exact hp | exact fun h => hp h.1) (by first | exact fun k hk => hn k (by omega) | exact fun k hk => ⟨hn k (by omega), by omega⟩) (by decide)) (by rintro _ _ ⟨_, _, hx⟩; exact hX8.trans (hx.mono (fun _ _ h => .inl h))) ?_
                  rintro _ w56 ⟨rfl, R56, X56⟩
                  have z56 := X56.size
                  try (have B8 := Blk.ext B8 X56 (fun h => by have h : _ = w31.heap.size := h; omega))
                  have hX56 : Ext (fun k => k = w31.heap.size ∨ w48.heap.size ≤ k) _ _ := hX8.trans (X56.mono (fun _ _ h => .inl h))
                  refine .alt ?_ ?_
                  · refine .call (first := []) (captured := []) rfl rfl rfl rfl rfl rfl (Flag_fn R56 (by first | exact hp | exact fun h => hp h.1) (by first | exact fun k hk => hn k (by omega) | exact fun k hk => ⟨hn k (by omega), by omega⟩)) (by rintro _ _ ⟨_, _, hx⟩; exact hX56.trans (hx.mono (fun _ _ h => .inl h))) ?_
                    rintro _ w58 ⟨rfl, R58, X58⟩
                    have z58 := X58.size
                    try (have B8 := Blk.ext B8 X58 (fun h => by have h : _ = w31.heap.size := h; omega))
                    have hX58 : Ext (fun k => k = w31.heap.size ∨ w48.heap.size ≤ k) _ _ := hX56.trans (X58.mono (fun _ _ h => .inl h))
                    refine .p rfl rfl rfl rfl (fun wx hx => .cast (.eq rfl rfl) (show _ = Value.bool (decide ((flagP (numP 2147483647 (textP (numP ahead.length rs).2).2).2).1 = 1)) from congrArg Value.bool (decide_eq_decide.2 ⟨fun h => UInt8.toNat_inj.1 (by have h : (((flagP (numP 2147483647 (textP (numP ahead.length rs).2).2).2).1.toNat : Nat) : Int) = 1 := h; show _ = 1; omega), fun h => by rw [h]; rfl⟩))) ?_
                    refine .p rfl rfl rfl rfl (fun wx hx => .build (cs := [str (ahead.take (numP ahead.length rs).1 ++ (textP (numP ahead.length rs).2).1), str [], i64 ((numP 2147483647 (textP (numP ahead.length rs).2).2).1 : Nat), .bool (decide ((flagP (numP 2147483647 (textP (numP ahead.length rs).2).2).2).1 = 1))]) rfl (fun _ => by kernel_rfl)) ?_
                    refine .alt ?_ ?_
                    · refine .s rfl rfl rfl (.storeAll (n := 4) (E := 33) (cs := [str [], str [], i64 0, .bool false]) rfl rfl rfl rfl rfl B8 rfl) (by intro wz hP; exact hX58.trans (hP.ext.mono (by rintro k _ rfl; exact .inr (by omega)))) ?_
                      intro w913 P9
                      have hXs13 : Ext (fun k => k = w31.heap.size ∨ w48.heap.size ≤ k) _ _ := hX58.trans (P9.ext.mono (by rintro k _ rfl; exact .inr (by omega)))
                      refine .nil ?_
                      have z13 := P9.size
                      have hh := headR_le ahead rs
                      exact (meet (w53.heap.size, w913) ⟨by rw [headR_eq]; exact P9.blk, by rw [headR_eq]; exact RD.ext R58 P9.ext (by show ¬ w31.heap.size = w53.heap.size; omega) (fun k hk hlt he => hk.2 he), hXs13, by show w48.heap.size ≤ w53.heap.size; omega⟩).of ⟨rfl, rfl, rfl, rfl, rfl, rfl, rfl, trivial⟩
                    exact .stop
                  exact .stop
                exact .stop
              exact .stop
            refine .alt ?_ ?_
            · refine .v rfl rfl rfl rfl (.alloc rfl rfl) (by rintro _ _ ⟨_, hN⟩; exact (Ext.refl _).trans hN.ext0) ?_
              rintro _ w8 ⟨rfl, N8⟩
              have z8 := N8.size
              have B8 := N8.blk
              first | have R58 := RD.past R58 N8 | have R56 := RD.past R56 N8 | have R53 := RD.past R53 N8 | have R48 := RD.past R48 N8
              have hX8 : Ext (fun k => k = w31.heap.size ∨ w48.heap.size ≤ k) _ _ := (Ext.refl _).trans (N8.ext0)
              refine .alt ?_ ?_
              · refine .call (first := []) (captured := []) rfl rfl rfl rfl rfl rfl (RText_fn R48 (by first | exact hp | exact fun h => hp h.1) (by first | exact fun k hk => hn k (by omega) | exact fun k hk => ⟨hn k (by omega), by omega⟩)) (by rintro _ _ ⟨_, _, hx⟩; exact hX8.trans (hx.mono (fun _ _ h => .inl h))) ?_
                rintro _ w53 ⟨rfl, R53, X53⟩
                have z53 := X53.size
                try (have B8 := Blk.ext B8 X53 (fun h => by have h : _ = w31.heap.size := h; omega))
                have hX53 : Ext (fun k => k = w31.heap.size ∨ w48.heap.size ≤ k) _ _ := hX8.trans (X53.mono (fun _ _ h => .inl h))
                refine .p rfl rfl rfl rfl (fun wx hx => .addS rfl rfl (by have := (headR_le ahead rs).1; rw [headR_eq] at this; simp only [List.length_append] at this; omega)) ?_
                refine .alt ?_ ?_
                · refine .call (first := []) (captured := []) rfl rfl rfl rfl rfl rfl (Number_fn (m := 2147483647) R53 (by first | exact hp | exact fun h => hp h.1) (by first | exact fun k hk => hn k (by omega) | exact fun k hk => ⟨hn k (by omega), by omega⟩) (by decide)) (by rintro _ _ ⟨_, _, hx⟩; exact hX53.trans (hx.mono (fun _ _ h => .inl h))) ?_
                  rintro _ w56 ⟨rfl, R56, X56⟩
                  have z56 := X56.size
                  try (have B8 := Blk.ext B8 X56 (fun h => by have h : _ = w31.heap.size := h; omega))
                  have hX56 : Ext (fun k => k = w31.heap.size ∨ w48.heap.size ≤ k) _ _ := hX53.trans (X56.mono (fun _ _ h => .inl h))
                  refine .alt ?_ ?_
                  · refine .call (first := []) (captured := []) rfl rfl rfl rfl rfl rfl (Flag_fn R56 (by first | exact hp | exact fun h => hp h.1) (by first | exact fun k hk => hn k (by omega) | exact fun k hk => ⟨hn k (by omega), by omega⟩)) (by rintro _ _ ⟨_, _, hx⟩; exact hX56.trans (hx.mono (fun _ _ h => .inl h))) ?_
                    rintro _ w58 ⟨rfl, R58, X58⟩
                    have z58 := X58.size
                    try (have B8 := Blk.ext B8 X58 (fun h => by have h : _ = w31.heap.size := h; omega))
                    have hX58 : Ext (fun k => k = w31.heap.size ∨ w48.heap.size ≤ k) _ _ := hX56.trans (X58.mono (fun _ _ h => .inl h))
                    refine .p rfl rfl rfl rfl (fun wx hx => .cast (.eq rfl rfl) (show _ = Value.bool (decide ((flagP (numP 2147483647 (textP (numP ahead.length rs).2).2).2).1 = 1)) from congrArg Value.bool (decide_eq_decide.2 ⟨fun h => UInt8.toNat_inj.1 (by have h : (((flagP (numP 2147483647 (textP (numP ahead.length rs).2).2).2).1.toNat : Nat) : Int) = 1 := h; show _ = 1; omega), fun h => by rw [h]; rfl⟩))) ?_
                    refine .p rfl rfl rfl rfl (fun wx hx => .build (cs := [str (ahead.take (numP ahead.length rs).1 ++ (textP (numP ahead.length rs).2).1), str [], i64 ((numP 2147483647 (textP (numP ahead.length rs).2).2).1 : Nat), .bool (decide ((flagP (numP 2147483647 (textP (numP ahead.length rs).2).2).2).1 = 1))]) rfl (fun _ => by kernel_rfl)) ?_
                    refine .alt ?_ ?_
                    · refine .s rfl rfl rfl (.storeAll (n := 4) (E := 33) (cs := [str [], str [], i64 0, .bool false]) rfl rfl rfl rfl rfl B8 rfl) (by intro wz hP; exact hX58.trans (hP.ext.mono (by rintro k _ rfl; exact .inr (by omega)))) ?_
                      intro w913 P9
                      have hXs13 : Ext (fun k => k = w31.heap.size ∨ w48.heap.size ≤ k) _ _ := hX58.trans (P9.ext.mono (by rintro k _ rfl; exact .inr (by omega)))
                      refine .nil ?_
                      have z13 := P9.size
                      have hh := headR_le ahead rs
                      exact (meet (w48.heap.size, w913) ⟨by rw [headR_eq]; exact P9.blk, by rw [headR_eq]; exact RD.ext R58 P9.ext (by show ¬ w31.heap.size = w48.heap.size; omega) (fun k hk hlt he => hk.2 he), hXs13, by show w48.heap.size ≤ w48.heap.size; omega⟩).of ⟨rfl, rfl, rfl, rfl, rfl, rfl, rfl, trivial⟩
                    exact .stop
                  exact .stop
                exact .stop
              exact .stop
            exact .stop
        · obtain rfl : i = N0 := by omega
          rw [Nat.sub_self] at hloop
          subst hN0
          obtain ⟨v7, B7, R7⟩ := hRD
          have hRo := OwnO.rep hO (R := All) (fun _ _ _ => trivial) (fun _ h _ => h.elim)
          refine .exit rfl (.code (.seq (.keep [(0, _), (4, _), (5, _)] ⟨rfl, rfl, rfl, trivial⟩ (.region ?_))))
          refine .p rfl rfl (.mv rfl) ?_
          refine .call (first := []) (captured := []) rfl rfl rfl rfl (Make_fn hRo) ?_
          rintro _ w80 ⟨v80, rfl, G80, X80⟩
          have z80 := X80.size
          have B80 := B7.ext X80 (fun x => x)
          refine .p rfl rfl (.mv rfl) ?_
          refine .p rfl rfl (.extract rfl rfl) ?_
          refine .p rfl rfl (.extract rfl rfl) ?_
          refine .p rfl rfl (.as rfl) ?_
          refine .p rfl rfl (.as rfl) ?_
          refine .nil (.code (.seq (.seq (.keep [(10, _), (9, _), (0, _), (4, _), (5, _)] ⟨rfl, rfl, rfl, rfl, rfl, trivial⟩ (.region ?_)))))
          refine .p rfl rfl (.mv rfl) ?_
          refine .p rfl rfl (.nilCheck rfl) ?_
          refine .p rfl rfl (.fieldAddr rfl rfl rfl rfl) ?_
          refine .p rfl rfl (.load rfl rfl rfl (B80.cell 1)) ?_
          refine .p rfl rfl (.mv rfl) ?_
          refine .case 87 rfl (fun c87 => ?_) (fun c87 => ?_)
          · refine .skip rfl rfl ?_
            refine .skip rfl rfl ?_
            refine .p rfl rfl (.pickT rfl rfl) ?_
            refine .p rfl rfl (.mv rfl) ?_
            refine .skip rfl rfl ?_
            refine .skip rfl rfl ?_
            refine .skip rfl rfl ?_
            refine .skip rfl rfl ?_
            refine .p rfl rfl (.pickT rfl rfl) ?_
            refine .nil (.code (.keep [(96, _), (5, _)] ⟨rfl, rfl, trivial⟩ (.condT rfl (.seq (.keep [] trivial (.region ?_))))))
            refine .p rfl rfl (.as rfl) ?_
            refine .p rfl rfl (.as rfl) ?_
            refine .nil (.code ?_)
            refine .ret _ rfl ?_
            rw [loopR_0, if_pos c87] at hloop
            rw [readE_none hgood hloop.symm]
            exact ⟨_, rfl, OwnO.nil, hX.trans X80⟩
          · refine .p rfl rfl (.mv rfl) ?_
            refine .p rfl rfl (.ne rfl rfl) ?_
            refine .p rfl rfl (.pickF rfl rfl) ?_
            refine .p rfl rfl (.mv rfl) ?_
            refine .caseD 91 rfl (fun c91 => ?_) (fun c91 => ?_)
            · refine .skip rfl rfl ?_
              refine .skip rfl rfl ?_
              refine .skip rfl rfl ?_
              refine .skip rfl rfl ?_
              refine .p rfl rfl (.pickT rfl rfl) ?_
              refine .nil (.code (.keep [(96, _), (5, _)] ⟨rfl, rfl, trivial⟩ (.condT rfl (.seq (.keep [] trivial (.region ?_))))))
              refine .p rfl rfl (.as rfl) ?_
              refine .p rfl rfl (.as rfl) ?_
              refine .nil (.code ?_)
              refine .ret _ rfl ?_
              rw [loopR_0, if_neg (by rw [c87]; exact Bool.false_ne_true)] at hloop
              rw [readE_some hgood hloop.symm, if_pos (.inl c91)]
              exact ⟨_, rfl, OwnO.nil, hX.trans X80⟩
            · refine .p rfl rfl (.mv rfl) ?_
              refine .p rfl rfl (.mv rfl) ?_
              refine .call (first := []) (captured := []) rfl rfl rfl rfl (bytesEqual_fn (Gr.rep G80) (tBytes.ext0 h (hX.trans X80))) ?_
              rintro _ w94 ⟨rfl, X94⟩
              refine .p rfl rfl (.notD rfl) ?_
              refine .p rfl rfl (.pickF rfl rfl) ?_
              refine .nil (.code (.keep [(96, _), (5, _)] ⟨rfl, rfl, trivial⟩ ?_))
              refine .condD rfl (fun c96 => ?_) (fun c96 => ?_)
              · refine .seq (.keep [] trivial (.region ?_))
                refine .p rfl rfl (.as rfl) ?_
                refine .p rfl rfl (.as rfl) ?_
                refine .nil (.code ?_)
                refine .ret _ rfl ?_
                rw [loopR_0, if_neg (by rw [c87]; exact Bool.false_ne_true)] at hloop
                rw [readE_some hgood hloop.symm, if_pos (.inr c96)]
                exact ⟨_, rfl, OwnO.nil, hX.trans (X80.trans X94)⟩
              · refine .skip (.code (.seq (.keep [(5, _)] ⟨rfl, trivial⟩ (.region ?_))))
                refine .p rfl rfl (.mv rfl) ?_
                refine .p rfl rfl (.as rfl) ?_
                refine .p rfl rfl (.as rfl) ?_
                refine .nil (.code ?_)
                refine .ret _ rfl ?_
                rw [loopR_0, if_neg (by rw [c87]; exact Bool.false_ne_true)] at hloop
                rw [readE_some hgood hloop.symm, if_neg (fun h => h.elim c91 c96)]
                exact ⟨_, rfl, OwnO.mono ((OwnO.ext0 hO X80).ext0 X94) (fun _ h _ => h) (fun k h _ => (hB k h).1), hX.trans (X80.trans X94)⟩
end Go.Proofs.Ythkgadhamecnlaa
