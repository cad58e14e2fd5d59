import Derived.Test.YthliepcjfnjnoaaGreatDoorB17
import Derived.Test.YthliepcjfnjnoaaGreatDoorB08
set_option linter.unusedVariables false
set_option linter.unusedSimpArgs false
set_option maxRecDepth 20000
namespace Go.Proofs.YthliepcjfnjnoaaGreatDoor
open Go page tree
namespace tree
def entT (k : Bs × RS) : Change × RS :=
  if (flagP k.2).1 = 1 then (⟨k.1, [], true⟩, (flagP k.2).2) else (⟨k.1, (textP (flagP k.2).2).1, false⟩, (textP (flagP k.2).2).2)
def loopT : Nat → List Change → RS → Option (List Change)
  | 0, acc, s => if s.2 = true then none else some acc
  | n + 1, acc, s => if (textP s).2.2 = true ∨ (textP s).2.1 = [] then none else loopT n (acc ++ [(entT (textP s)).1]) (entT (textP s)).2
def readT (s : Bs) : List Change × Int × Int :=
  match loopT (numP 64 (numP 2147483647 (s, false)).2).1 [] (numP 64 (numP 2147483647 (s, false)).2).2 with
  | none => ([], 0, 8)
  | some l => if ¬ (wF l (numP 2147483647 (s, false)).1).2 = 0 ∨ ¬ (wF l (numP 2147483647 (s, false)).1).1 = s then ([], 0, 8) else (l, ((numP 2147483647 (s, false)).1 : Int), 0)
theorem readT_none {s : Bs} (hl : loopT (numP 64 (numP 2147483647 (s, false)).2).1 [] (numP 64 (numP 2147483647 (s, false)).2).2 = none) : readT s = ([], 0, 8) := by unfold readT; rw [hl]
theorem readT_some {s : Bs} {l : List Change} (hl : loopT (numP 64 (numP 2147483647 (s, false)).2).1 [] (numP 64 (numP 2147483647 (s, false)).2).2 = some l) : readT s = if ¬ (wF l (numP 2147483647 (s, false)).1).2 = 0 ∨ ¬ (wF l (numP 2147483647 (s, false)).1).1 = s then ([], 0, 8) else (l, ((numP 2147483647 (s, false)).1 : Int), 0) := by unfold readT; rw [hl]
theorem loopT_0 (acc : List Change) (s : RS) : loopT 0 acc s = if s.2 = true then none else some acc := by rw [loopT]
theorem loopT_T {n : Nat} {acc : List Change} {s : RS} (h : (textP s).2.2 = true ∨ (textP s).2.1 = []) : loopT (n + 1) acc s = none := by rw [loopT, if_pos h]
theorem loopT_F {n : Nat} {acc : List Change} {s : RS} (h : ¬ ((textP s).2.2 = true ∨ (textP s).2.1 = [])) : loopT (n + 1) acc s = loopT n (acc ++ [(entT (textP s)).1]) (entT (textP s)).2 := by rw [loopT, if_neg h]
theorem entT_1 {key : Bs} {x : UInt8} {r : Bs} {z : Bool} (h : x = 1) : entT (key, (x :: r, z)) = (⟨key, [], true⟩, (r, z)) := by subst h; rfl
theorem entT_0 {key : Bs} {x : UInt8} {r : Bs} {z : Bool} (h : ¬ x = 1) : entT (key, (x :: r, z)) = (⟨key, (textP (r, z)).1, false⟩, (textP (r, z)).2) := by
  unfold entT
  rw [show flagP (key, (x :: r, z)).2 = (x, (r, z)) from rfl]
  simp only
  rw [if_neg h]
theorem entT_len {key : Bs} {x : UInt8} {r : Bs} {z : Bool} : (entT (key, (x :: r, z))).1.key = key ∧ (entT (key, (x :: r, z))).1.value.length + (entT (key, (x :: r, z))).2.1.length ≤ r.length := by
  by_cases h : x = 1
  · rw [entT_1 h]
    exact ⟨rfl, by simp⟩
  · rw [entT_0 h]
    exact ⟨rfl, textP_le (r, z)⟩
end tree
def RT (w : World) (p q : Nat) (P : Nat → Prop) (s : RS) : Prop := ∃ v, Blk w p 43 [v] ∧ tBytes.rep P w v s.1 ∧ Blk w q 4 [.bool s.2]
theorem RT.ext {S : Nat → Prop} {w w' : World} {p q : Nat} {P : Nat → Prop} {s : RS} (h : RT w p q P s) (hx : Ext S w w') (hp : ¬ S p) (hq : ¬ S q) (hs : ∀ k, P k → k < w.heap.size → ¬ S k) : RT w' p q P s := by
  obtain ⟨v, h1, h2, h3⟩ := h
  exact ⟨v, h1.ext hx hp, tBytes.ext h2 hx hs, h3.ext hx hq⟩
theorem RT.ext0 {w w' : World} {p q : Nat} {P : Nat → Prop} {s : RS} (h : RT w p q P s) (hx : Ext (fun _ => False) w w') : RT w' p q P s := h.ext hx (fun x => x) (fun x => x) (fun _ _ _ x => x)
theorem RT.mono {w : World} {p q : Nat} {P P' : Nat → Prop} {s : RS} (h : RT w p q P s) (hs : ∀ k, P k → k < w.heap.size → P' k) : RT w p q P' s := by
  obtain ⟨v, h1, h2, h3⟩ := h
  exact ⟨v, h1, tBytes.mono h2 hs, h3⟩
theorem RT.lt {w : World} {p q : Nat} {P : Nat → Prop} {s : RS} (h : RT w p q P s) : p < w.heap.size ∧ q < w.heap.size := by
  obtain ⟨v, h1, _, h3⟩ := h
  exact ⟨h1.lt, h3.lt⟩
theorem TGet_fn {w : World} {p q : Nat} {P : Nat → Prop} {s : RS} (h : RT w p q P s) (hpq : ¬ p = q) (hp : ¬ P p) (hq : ¬ P q) (hn : ∀ k, w.heap.size ≤ k → P k) {m : Nat} (hm : m < 9223372036854775808) : Fn Tryz.prog 25 ([] ++ [i64 m] ++ [.pointer (some ⟨p, 0, none⟩), .pointer (some ⟨q, 0, none⟩)]) w (fun r w2 => r = i64 ((numP m s).1 : Nat) ∧ RT w2 p q P (numP m s).2 ∧ Ext (fun k => k = p ∨ k = q) w w2) := by
  obtain ⟨v0, B0, R0, Q0⟩ := h
  obtain ⟨a, cap, rfl, hcap⟩ := Sl.val R0
  obtain ⟨hr1, hr2⟩ := readF_bd s.1
  refine Fn.enter (fun w => Tryz.call25 _ w) Tryz.func25 rfl ?_
  refine .seq (.region ?_)
  refine .p rfl rfl (.as rfl) ?_
  refine .nil (.code (.seq (.keep [(0, _), (1, _), (2, _)] ⟨rfl, rfl, rfl, trivial⟩ (.region ?_))))
  refine .p rfl rfl (.load rfl rfl rfl (B0.cell 0)) ?_
  refine .call (first := []) (captured := []) rfl rfl rfl rfl (Read_fn (allOf R0)) ?_
  rintro _ w10 ⟨rfl, X10⟩
  have B1 := B0.ext X10 (fun x => x)
  have R1 := tBytes.ext0 R0 X10
  have Q1 := Q0.ext X10 (fun x => x)
  refine .p rfl rfl (.mv rfl) ?_
  refine .p rfl rfl (.extract rfl rfl) ?_
  refine .p rfl rfl (.extract rfl rfl) ?_
  refine .p rfl rfl (.extract rfl rfl) ?_
  refine .p rfl rfl (.as rfl) ?_
  refine .p rfl rfl (.as rfl) ?_
  refine .p rfl rfl (.as rfl) ?_
  refine .nil (.code (.seq (.seq (.keep [(7, _), (6, _), (5, _), (0, _), (1, _), (2, _)] ⟨rfl, rfl, rfl, rfl, rfl, rfl, trivial⟩ (.region ?_)))))
  refine .p rfl rfl (.mv rfl) ?_
  refine .p rfl rfl (.ne rfl rfl) ?_
  refine .p rfl rfl (.mv rfl) ?_
  refine .caseD 16 rfl (fun c16 => ?_) (fun c16 => ?_)
  · refine .skip rfl rfl ?_
    refine .skip rfl rfl ?_
    refine .skip rfl rfl ?_
    refine .skip rfl rfl ?_
    refine .p rfl rfl (.pickT rfl rfl) ?_
    refine .nil (.code (.keep [(21, _), (6, _), (5, _), (1, _), (2, _)] ⟨rfl, rfl, rfl, rfl, rfl, trivial⟩ (.condT rfl (.seq (.keep [(2, _)] ⟨rfl, trivial⟩ (.region ?_))))))
    refine .s rfl (.store rfl rfl rfl rfl rfl Q1 (by simp)) ?_
    intro w3 P3
    refine .nil (.code (.seq (.keep [] trivial (.region ?_))))
    refine .p rfl rfl (.as rfl) ?_
    refine .nil (.code ?_)
    refine .ret _ rfl ?_
    have e : numP m s = (0, (s.1, true)) := by unfold numP; rw [if_pos (by first | exact .inl (by assumption) | exact .inr (by omega))]
    rw [e]
    exact ⟨rfl, ⟨_, B1.ext P3.ext (fun h => hpq h), tBytes.ext R1 P3.ext (fun k hk _ he => hq (by have he : k = q := he; rw [← he]; exact hk)), P3.blk⟩, (X10.mono (fun _ _ h => h.elim)).trans (P3.ext.mono (fun k _ h => .inr h))⟩
  · refine .p rfl rfl (.mv rfl) ?_
    refine .p rfl rfl (.mv rfl) ?_
    refine .p rfl rfl (.convU rfl rfl rfl (by omega)) ?_
    refine .p rfl rfl (.gt rfl rfl) ?_
    refine .p rfl rfl (.pickF rfl rfl) ?_
    refine .nil (.code (.keep [(21, _), (6, _), (5, _), (1, _), (2, _)] ⟨rfl, rfl, rfl, rfl, rfl, trivial⟩ ?_))
    refine .condD rfl (fun c21 => ?_) (fun c21 => ?_)
    · refine .seq (.keep [(2, _)] ⟨rfl, trivial⟩ (.region ?_))
      refine .s rfl (.store rfl rfl rfl rfl rfl Q1 (by simp)) ?_
      intro w3 P3
      refine .nil (.code (.seq (.keep [] trivial (.region ?_))))
      refine .p rfl rfl (.as rfl) ?_
      refine .nil (.code ?_)
      refine .ret _ rfl ?_
      have e : numP m s = (0, (s.1, true)) := by unfold numP; rw [if_pos (by first | exact .inl (by assumption) | exact .inr (by omega))]
      rw [e]
      exact ⟨rfl, ⟨_, B1.ext P3.ext (fun h => hpq h), tBytes.ext R1 P3.ext (fun k hk _ he => hq (by have he : k = q := he; rw [← he]; exact hk)), P3.blk⟩, (X10.mono (fun _ _ h => h.elim)).trans (P3.ext.mono (fun k _ h => .inr h))⟩
    · obtain ⟨a34, c34, hv34, hc34, R34⟩ := Sl.cutE R1 (readF s.1).2.1 s.1.length (by omega) (by omega)
      rw [List.take_length] at R34
      refine .skip (.code (.seq (.keep [(6, _), (5, _), (1, _)] ⟨rfl, rfl, rfl, trivial⟩ (.region ?_))))
      refine .p rfl rfl (.load rfl rfl rfl (B1.cell 0)) ?_
      refine .p rfl rfl (.mv rfl) ?_
      refine .p rfl rfl (.cast (.cutLo (s := 1) rfl rfl rfl rfl (by omega)) (show cutV 1 a cap ((readF s.1).2.1 : Int).toNat s.1.length = .slice a34 (s.1.length - (readF s.1).2.1) c34 by rw [Int.toNat_natCast]; exact hv34)) ?_
      refine .s rfl (.store rfl rfl rfl rfl rfl B1 (by simp)) ?_
      intro w36 P36
      refine .nil (.code (.seq (.keep [(5, _)] ⟨rfl, trivial⟩ (.region ?_))))
      refine .p rfl rfl (.mv rfl) ?_
      refine .p rfl rfl (.convI rfl rfl rfl (by omega)) ?_
      refine .p rfl rfl (.as rfl) ?_
      refine .nil (.code ?_)
      refine .ret _ rfl ?_
      have e : numP m s = ((readF s.1).1, (s.1.drop (readF s.1).2.1, s.2)) := by unfold numP; rw [if_neg (fun h => h.elim c16 (by omega))]
      rw [e]
      exact ⟨rfl, ⟨_, P36.blk, tBytes.ext (by simpa using R34) P36.ext (fun k hk _ he => hp (by have he : k = p := he; rw [← he]; exact hk)), Q1.ext P36.ext (fun h => hpq (Eq.symm h))⟩, (X10.mono (fun _ _ h => h.elim)).trans (P36.ext.mono (fun k _ h => .inl h))⟩
theorem TText_fn {w : World} {p q : Nat} {P : Nat → Prop} {s : RS} (h : RT w p q P s) (hpq : ¬ p = q) (hp : ¬ P p) (hq : ¬ P q) (hn : ∀ k, w.heap.size ≤ k → P k) : Fn Tryz.prog 27 ([] ++ [] ++ [.pointer (some ⟨p, 0, none⟩), .pointer (some ⟨q, 0, none⟩)]) w (fun r w2 => r = str (textP s).1 ∧ RT w2 p q P (textP s).2 ∧ Ext (fun k => k = p ∨ k = q) w w2) := by
  obtain ⟨sb, sx⟩ := s
  obtain ⟨v0, B0, R0, Q0⟩ := h
  obtain ⟨a, cap, rfl, hcap⟩ := Sl.val R0
  refine Fn.enter (fun w => Tryz.call27 _ w) Tryz.func27 rfl ?_
  refine .seq (.region ?_)
  refine .p rfl rfl (.as rfl) ?_
  refine .nil (.code (.seq (.keep [(0, _), (1, _)] ⟨rfl, rfl, trivial⟩ (.region ?_))))
  refine .p rfl rfl (.load rfl rfl rfl (B0.cell 0)) ?_
  refine .call (first := []) (captured := []) rfl rfl rfl rfl (Cut_fn (allOf R0)) ?_
  rintro _ w8 ⟨v8, rfl, G8, X8⟩
  have B1 := B0.ext X8 (fun x => x)
  have Q1 := Q0.ext X8 (fun x => x)
  obtain ⟨a8, c8, rfl, hc8⟩ := OwnO.val G8
  refine .p rfl rfl (.mv rfl) ?_
  refine .p rfl rfl (.extract rfl rfl) ?_
  refine .p rfl rfl (.extract rfl rfl) ?_
  refine .p rfl rfl (.extract rfl rfl) ?_
  refine .p rfl rfl (.as rfl) ?_
  refine .p rfl rfl (.as rfl) ?_
  refine .p rfl rfl (.as rfl) ?_
  refine .nil (.code (.seq (.keep [(5, _), (4, _), (3, _), (0, _), (1, _)] ⟨rfl, rfl, rfl, rfl, rfl, trivial⟩ (.region ?_))))
  refine .p rfl rfl (.load rfl rfl rfl (Q1.cell 0)) ?_
  refine .p rfl rfl (.mv rfl) ?_
  refine .case 13 rfl (fun c13 => ?_) (fun c13 => ?_)
  · refine .skip rfl rfl ?_
    refine .skip rfl rfl ?_
    refine .p rfl rfl (.pickT rfl rfl) ?_
    refine .s rfl (.store rfl rfl rfl rfl rfl Q1 (by simp)) ?_
    intro w2x P2
    refine .nil (.code (.seq (.keep [(4, _), (3, _), (0, _)] ⟨rfl, rfl, rfl, trivial⟩ (.region ?_))))
    refine .p rfl rfl (.mv rfl) ?_
    refine .s rfl (.store rfl rfl rfl rfl rfl (B1.ext P2.ext (fun h => hpq h)) (by simp)) ?_
    intro w3 P3
    refine .nil (.code (.seq (.keep [(3, _)] ⟨rfl, trivial⟩ (.region ?_))))
    refine .p rfl rfl (.mv rfl) ?_
    refine .p rfl rfl (.as rfl) ?_
    refine .nil (.code ?_)
    refine .ret _ rfl ?_
    exact ⟨rfl, ⟨_, P3.blk, tBytes.ext (tBytes.ext (tBytes.mono (Gr.rep' G8) (fun k hk _ => hn k hk.1)) P2.ext (fun k hk _ he => hq (by have he : k = q := he; rw [← he]; exact hk))) P3.ext (fun k hk _ he => hp (by have he : k = p := he; rw [← he]; exact hk)), (show Blk w3 q 4 [.bool (sx || decide (¬ (cutF sb).2.2 = 0))] by have c13 : sx = true := c13; rw [c13, Bool.true_or]; exact P2.blk.ext P3.ext (fun h => hpq (Eq.symm h)))⟩, (X8.mono (fun _ _ h => h.elim)).trans ((P2.ext.mono (fun k _ h => .inr h)).trans (P3.ext.mono (fun k _ h => .inl h)))⟩
  · refine .p rfl rfl (.mv rfl) ?_
    refine .p rfl rfl (.ne rfl rfl) ?_
    refine .p rfl rfl (.pickF rfl rfl) ?_
    refine .s rfl (.store rfl rfl rfl rfl rfl Q1 (by simp)) ?_
    intro w2x P2
    refine .nil (.code (.seq (.keep [(4, _), (3, _), (0, _)] ⟨rfl, rfl, rfl, trivial⟩ (.region ?_))))
    refine .p rfl rfl (.mv rfl) ?_
    refine .s rfl (.store rfl rfl rfl rfl rfl (B1.ext P2.ext (fun h => hpq h)) (by simp)) ?_
    intro w3 P3
    refine .nil (.code (.seq (.keep [(3, _)] ⟨rfl, trivial⟩ (.region ?_))))
    refine .p rfl rfl (.mv rfl) ?_
    refine .p rfl rfl (.as rfl) ?_
    refine .nil (.code ?_)
    refine .ret _ rfl ?_
    exact ⟨rfl, ⟨_, P3.blk, tBytes.ext (tBytes.ext (tBytes.mono (Gr.rep' G8) (fun k hk _ => hn k hk.1)) P2.ext (fun k hk _ he => hq (by have he : k = q := he; rw [← he]; exact hk))) P3.ext (fun k hk _ he => hp (by have he : k = p := he; rw [← he]; exact hk)), (show Blk w3 q 4 [.bool (sx || decide (¬ (cutF sb).2.2 = 0))] by have c13 : sx = false := c13; rw [c13, Bool.false_or]; exact P2.blk.ext P3.ext (fun h => hpq (Eq.symm h)))⟩, (X8.mono (fun _ _ h => h.elim)).trans ((P2.ext.mono (fun k _ h => .inr h)).trans (P3.ext.mono (fun k _ h => .inl h)))⟩
theorem TRead_fn {w : World} {src : Bs} (hl : src.length < Lim) : Fn Tryz.prog 8 [str src] w (fun r w2 => ∃ v', r = .tuple #[v', i64 (readT src).2.1, i64 (readT src).2.2] ∧ OwnO tChange (fun _ => False) 36 w2 v' (readT src).1 (fun k => w.heap.size ≤ k) ∧ Ext (fun _ => False) w w2) := by
  refine Fn.enter (fun w => Tryz.call8 _ w) Tryz.func8 rfl ?_
  refine .seq (.region ?_)
  refine .p rfl rfl (.as rfl) ?_
  refine .p rfl rfl (.as rfl) ?_
  refine .p rfl rfl (.as rfl) ?_
  refine .nil (.code (.seq (.keep [(0, _)] ⟨rfl, trivial⟩ (.region ?_))))
  refine .p rfl rfl (.mv rfl) ?_
  refine .v rfl rfl (.strBytes rfl rfl rfl rfl) ?_
  rintro _ w15 ⟨cap15, cs15, rfl, hc15, hn15, hs15, N15⟩
  have R15 := strBytes_rep (hl) hc15 hs15 N15
  refine .v rfl rfl (.alloc rfl rfl) ?_
  rintro _ w5a ⟨rfl, N5⟩
  refine .s rfl (.store rfl rfl rfl rfl rfl N5.blk (by simp [Value.cells])) ?_
  intro w5 P5
  have z15 := N15.size
  have z5 : w5.heap.size = w15.heap.size + 1 := by rw [P5.size, N5.size]
  have X5 := N5.ext.then P5.ext (by rintro k rfl _; exact Nat.le_refl _)
  refine .nil (.code (.seq (.keep [(5, _), (0, _)] ⟨rfl, rfl, trivial⟩ (.region ?_))))
  refine .v rfl rfl (.alloc rfl rfl) ?_
  rintro _ w6a ⟨rfl, N6⟩
  refine .s rfl (.store rfl rfl rfl rfl rfl N6.blk (by simp [Value.cells])) ?_
  intro w6 P6
  have z6 : w6.heap.size = w5.heap.size + 1 := by rw [P6.size, N6.size]
  have X6 := N6.ext.then P6.ext (by rintro k rfl _; exact Nat.le_refl _)
  have R6 : RT w6 w15.heap.size w5.heap.size (fun k => (k ≠ w15.heap.size ∧ k ≠ w5.heap.size) ∧ ¬ False) (src, false) := ⟨_, P5.blk.ext X6 (fun x => x), tBytes.ext0 (tBytes.ext0 (tBytes.mono (tBytes.mono (P' := fun k => k < w15.heap.size) R15 (fun k _ hk => hk)) (fun k h1 h2 => ⟨⟨by omega, by omega⟩, fun h => h⟩)) X5) X6, P6.blk⟩
  have hpq : ¬ w15.heap.size = w5.heap.size := by omega
  have hXw : Ext (fun _ => False) w w6 := N15.ext.trans (X5.trans X6)
  refine .nil (.code (.seq (.region ?_)))
  refine .p rfl rfl (.makeFunc rfl rfl) ?_
  refine .p rfl rfl (.as rfl) ?_
  refine .nil (.code (.seq (.keep [(7, _), (6, _), (5, _), (0, _)] ⟨rfl, rfl, rfl, rfl, trivial⟩ (.region ?_))))
  refine .p rfl rfl (.makeFunc rfl rfl) ?_
  refine .p rfl rfl (.as rfl) ?_
  refine .nil (.code (.seq (.keep [(8, _), (7, _), (6, _), (5, _), (0, _)] ⟨rfl, rfl, rfl, rfl, rfl, trivial⟩ (.region ?_))))
  refine .p rfl rfl (.mv rfl) ?_
  refine .call (first := []) (captured := [.pointer (some ⟨w15.heap.size, 0, none⟩), .pointer (some ⟨w5.heap.size, 0, none⟩)]) rfl rfl rfl rfl (TGet_fn (m := 2147483647) R6 hpq (fun h => h.1.1 rfl) (fun h => h.1.2 rfl) (fun k hk => ⟨⟨by omega, by omega⟩, fun h => h⟩) (by decide)) ?_
  rintro _ w19 ⟨rfl, R19, X19⟩
  have z19 := X19.size
  have hM9 := (numP_le 2147483647 (src, false)).1
  have hlen19 := (numP_le 2147483647 (src, false)).2
  refine .p rfl rfl (.as rfl) ?_
  refine .nil (.code (.seq (.keep [(9, _), (8, _), (7, _), (6, _), (5, _), (0, _)] ⟨rfl, rfl, rfl, rfl, rfl, rfl, trivial⟩ (.region ?_))))
  refine .p rfl rfl (.as rfl) ?_
  refine .nil (.code (.seq (.seq (.region ?_))))
  refine .p rfl rfl (.mv rfl) ?_
  refine .call (first := []) (captured := [.pointer (some ⟨w15.heap.size, 0, none⟩), .pointer (some ⟨w5.heap.size, 0, none⟩)]) rfl rfl rfl rfl (TGet_fn (m := 64) R19 hpq (fun h => h.1.1 rfl) (fun h => h.1.2 rfl) (fun k hk => ⟨⟨by omega, by omega⟩, fun h => h⟩) (by decide)) ?_
  rintro _ w21 ⟨rfl, R21, X21⟩
  have z21 := X21.size
  have hXw := (hXw.then X19 (by rintro k (rfl | rfl) _ <;> omega)).then X21 (by rintro k (rfl | rfl) _ <;> omega)
  have hN4 := (numP_le 64 (numP 2147483647 (src, false)).2).1
  have hlen21 := (numP_le 64 (numP 2147483647 (src, false)).2).2
  generalize hN0 : (numP 64 (numP 2147483647 (src, false)).2).1 = N0 at hN4 ⊢
  generalize hM0 : (numP 2147483647 (src, false)).1 = M0 at hM9 ⊢
  refine .p rfl rfl (.mv rfl) ?_
  refine .nil (.code (.block (.keep [(22, _), (21, _), (10, _), (9, _), (8, _), (6, _), (5, _), (0, _)] ⟨rfl, rfl, rfl, rfl, rfl, rfl, rfl, rfl, trivial⟩ ?_)))
  refine .loop (S := Nat × List Change × RS × Value × (Nat → Prop) × World) (fun s => [(0, str src), (5, .pointer (some ⟨w15.heap.size, 0, none⟩)), (6, .pointer (some ⟨w5.heap.size, 0, none⟩)), (8, .func (.func 27) #[] ([.pointer (some ⟨w15.heap.size, 0, none⟩), .pointer (some ⟨w5.heap.size, 0, none⟩)] : List Value).toArray), (9, i64 (M0 : Nat)), (21, i64 (N0 : Nat)), (22, i64 s.1), (10, s.2.2.2.1)]) (fun s => s.2.2.2.2.2) (fun s => s.1 ≤ N0 ∧ loopT (N0 - s.1) s.2.1 s.2.2.1 = loopT N0 [] (numP 64 (numP 2147483647 (src, false)).2).2 ∧ s.2.2.1.1.length ≤ src.length ∧ s.2.1.length = s.1 ∧ (∀ k, s.2.2.2.2.1 k → w.heap.size ≤ k ∧ (k ≠ w15.heap.size ∧ k ≠ w5.heap.size) ∧ k < s.2.2.2.2.2.heap.size) ∧ RT s.2.2.2.2.2 w15.heap.size w5.heap.size (fun k => (k ≠ w15.heap.size ∧ k ≠ w5.heap.size) ∧ ¬ s.2.2.2.2.1 k) s.2.2.1 ∧ OwnO tChange (fun _ => False) 36 s.2.2.2.2.2 s.2.2.2.1 s.2.1 s.2.2.2.2.1 ∧ Ext (fun _ => False) w s.2.2.2.2.2) (fun s => N0 - s.1) (0, [], _, _, fun _ => False, w21) ⟨rfl, rfl, rfl, rfl, rfl, rfl, rfl, rfl, trivial⟩ rfl ⟨Nat.zero_le _, rfl, (by show (numP 64 (numP 2147483647 (src, false)).2).2.1.length ≤ src.length; simp only at hlen19; omega), rfl, fun _ h => h.elim, R21, OwnO.nil, hXw⟩ ?_
  rintro ⟨i, acc, rs, v10, B, wi⟩ J ⟨hi', hloop, hlen, hacc, hB, hRT, hO, hX⟩ again
  simp only at hi' hloop hlen hacc hB hRT hO hX
  have hlt := hRT.lt
  have hp : ¬ (fun k => (k ≠ w15.heap.size ∧ k ≠ w5.heap.size) ∧ ¬ B k) w15.heap.size := fun h => h.1.1 rfl
  have hq : ¬ (fun k => (k ≠ w15.heap.size ∧ k ≠ w5.heap.size) ∧ ¬ B k) w5.heap.size := fun h => h.1.2 rfl
  have hn : ∀ k, wi.heap.size ≤ k → (k ≠ w15.heap.size ∧ k ≠ w5.heap.size) ∧ ¬ B k := fun k hk => ⟨⟨by omega, by omega⟩, fun hb => by have := (hB k hb).2.2; omega⟩
  change G _ [(0, str src), (5, .pointer (some ⟨w15.heap.size, 0, none⟩)), (6, .pointer (some ⟨w5.heap.size, 0, none⟩)), (8, .func (.func 27) #[] ([.pointer (some ⟨w15.heap.size, 0, none⟩), .pointer (some ⟨w5.heap.size, 0, none⟩)] : List Value).toArray), (9, i64 (M0 : Nat)), (21, i64 (N0 : Nat)), (22, i64 i), (10, v10)] _ _ wi
  refine .seq (.region ?_)
  refine .p rfl rfl (.lt rfl rfl) ?_
  refine .nil (.code (.seq ?_))
  refine .condD rfl (fun c23 => ?_) (fun c23 => ?_)
  · have hi : i < N0 := by omega
    refine .skip (.code (.seq (.block (.seq (.keep [(0, _), (5, _), (6, _), (8, _), (9, _), (21, _), (22, _), (10, _)] ⟨rfl, rfl, rfl, rfl, rfl, rfl, rfl, rfl, trivial⟩ (.region ?_))))))
    refine .p rfl rfl (.mv rfl) ?_
    refine .call (first := []) (captured := [.pointer (some ⟨w15.heap.size, 0, none⟩), .pointer (some ⟨w5.heap.size, 0, none⟩)]) rfl rfl rfl rfl (TText_fn hRT hpq hp hq hn) ?_
    rintro _ w25 ⟨rfl, R25, X25⟩
    have z25 := X25.size
    have hle25 := textP_le rs
    generalize hT : textP rs = T at R25 hle25 ⊢
    obtain ⟨key, rb, rz⟩ := T
    simp only at R25 hle25
    refine .p rfl rfl (.build (cs := [str key, str [], .bool false]) rfl (fun _ => by kernel_rfl)) ?_
    refine .v rfl rfl (.alloc rfl rfl) ?_
    rintro _ w11a ⟨rfl, N11⟩
    refine .s rfl (.storeAll (n := 3) rfl rfl rfl rfl rfl N11.blk rfl) ?_
    intro w11 P11
    have X11 := N11.ext.then P11.ext (by rintro k rfl _; exact Nat.le_refl _)
    have B11 := P11.blk
    have z11 : w11.heap.size = w25.heap.size + 1 := by rw [P11.size, N11.size]
    have R11 := RT.ext0 (RT.mono (P' := fun k => ((k ≠ w15.heap.size ∧ k ≠ w5.heap.size) ∧ ¬ B k) ∧ k ≠ w25.heap.size) R25 (fun k hk hlt => ⟨hk, by omega⟩)) X11
    obtain ⟨v7, B7, R7, Q7⟩ := R11
    obtain ⟨a7, c7, rfl, hc7⟩ := Sl.val R7
    refine .nil (.code (.seq (.seq (.keep [(11, _), (0, _), (5, _), (6, _), (8, _), (9, _), (21, _), (22, _), (10, _)] ⟨rfl, rfl, rfl, rfl, rfl, rfl, rfl, rfl, rfl, trivial⟩ (.region ?_)))))
    refine .p rfl rfl (.load rfl rfl rfl (Q7.cell 0)) ?_
    refine .p rfl rfl (.mv rfl) ?_
    refine .case 28 rfl (fun c28 => ?_) (fun c28 => ?_)
    · refine .skip rfl rfl ?_
      refine .skip rfl rfl ?_
      refine .skip rfl rfl ?_
      refine .p rfl rfl (.pickT rfl rfl) ?_
      refine .nil (.code (.keep [(32, _), (11, _), (0, _), (5, _), (6, _), (8, _), (9, _), (21, _), (22, _), (10, _)] ⟨rfl, rfl, rfl, rfl, rfl, rfl, rfl, rfl, rfl, rfl, trivial⟩ (.condT rfl (.seq (.keep [] trivial (.region ?_))))))
      refine .p rfl rfl (.as rfl) ?_
      refine .p rfl rfl (.as rfl) ?_
      refine .p rfl rfl (.as rfl) ?_
      refine .nil (.code ?_)
      refine .ret _ rfl ?_
      have hXs := hX.size
      rw [readT_none (by rw [hN0, ← hloop, show N0 - i = (N0 - (i + 1)) + 1 by omega, loopT_T (by rw [hT]; exact .inl c28)])]
      exact ⟨_, rfl, OwnO.nil, (hX.then X25 (by rintro k (rfl | rfl) _ <;> omega)).trans X11⟩
    · refine .p rfl rfl (.load rfl rfl rfl (B7.cell 0)) ?_
      refine .p rfl rfl (.len rfl rfl) ?_
      refine .p rfl rfl (.eq rfl rfl) ?_
      refine .p rfl rfl (.pickF rfl rfl) ?_
      refine .nil (.code (.keep [(32, _), (11, _), (0, _), (5, _), (6, _), (8, _), (9, _), (21, _), (22, _), (10, _)] ⟨rfl, rfl, rfl, rfl, rfl, rfl, rfl, rfl, rfl, rfl, trivial⟩ ?_))
      refine .condD rfl (fun c32 => ?_) (fun c32 => ?_)
      · refine .seq (.keep [] trivial (.region ?_))
        refine .p rfl rfl (.as rfl) ?_
        refine .p rfl rfl (.as rfl) ?_
        refine .p rfl rfl (.as rfl) ?_
        refine .nil (.code ?_)
        refine .ret _ rfl ?_
        have hXs := hX.size
        rw [readT_none (by rw [hN0, ← hloop, show N0 - i = (N0 - (i + 1)) + 1 by omega, loopT_T (by rw [hT]; exact .inr (List.length_eq_zero_iff.1 (by have c32 : ((rb.length : Nat) : Int) = 0 := c32; show rb.length = 0; omega)))])]
        exact ⟨_, rfl, OwnO.nil, (hX.then X25 (by rintro k (rfl | rfl) _ <;> omega)).trans X11⟩
      · have hrz : rz = false := c28
        obtain ⟨x, rr, rfl⟩ : ∃ x rr, rb = x :: rr := by cases rb with | nil => exact absurd rfl c32 | cons x r => exact ⟨x, r, rfl⟩
        obtain ⟨b1, o1, e1, hPb, hc⟩ := Sl.byteAt R7 (k := 0) (by simp)
        cases e1
        obtain ⟨a38, c38, hv38, hc38, R38⟩ := Sl.cutE R7 1 (x :: rr).length (by simp) (by simp)
        rw [List.take_length] at R38
        refine .skip (.code (.seq (.keep [(11, _), (0, _), (5, _), (6, _), (8, _), (9, _), (21, _), (22, _), (10, _)] ⟨rfl, rfl, rfl, rfl, rfl, rfl, rfl, rfl, rfl, trivial⟩ (.mix (fun k => k = w25.heap.size) [7, 8] (by kernel_rfl) (by kernel_rfl) (by kernel_rfl) ?_))))
        refine .p rfl rfl rfl (fun wx hx => .load rfl rfl rfl ((B7.ext hx (by show ¬ w15.heap.size = w25.heap.size; omega)).cell 0)) ?_
        refine .p rfl rfl rfl (fun wx hx => .indexAddr1 rfl rfl rfl rfl (by simp)) ?_
        refine .p rfl rfl rfl (fun wx hx => .load rfl rfl rfl (hx.cell hc (by show ¬ b1 = w25.heap.size; exact hPb.2))) ?_
        refine .p rfl rfl rfl (fun wx hx => .cast (.eq rfl rfl) (show _ = Value.bool (decide (x = 1)) from congrArg Value.bool (decide_eq_decide.2 ⟨fun h => UInt8.toNat_inj.1 (by have h : ((x.toNat : Nat) : Int) = 1 := h; show _ = 1; omega), fun h => by rw [h]; rfl⟩))) ?_
        refine .p rfl rfl rfl (fun wx hx => .load rfl rfl rfl ((B7.ext hx (by show ¬ w15.heap.size = w25.heap.size; omega)).cell 0)) ?_
        refine .p rfl rfl rfl (fun wx hx => .cast (.cutLo (s := 1) rfl rfl rfl rfl (by simp; omega)) (show cutV 1 _ c7 (1 : Int).toNat (x :: rr).length = .slice a38 rr.length c38 from hv38)) ?_
        refine .p rfl rfl rfl (fun wx hx => .fieldAddr rfl rfl rfl rfl) ?_
        refine .s rfl rfl (.store rfl rfl rfl rfl rfl B11 (by simp)) (by intro wz hP; exact hP.ext) ?_
        intro w127 P127
        refine .sL rfl rfl (.store rfl rfl rfl rfl rfl (B7.ext P127.ext (by show ¬ w15.heap.size = w25.heap.size; omega)) (by simp)) (by kernel_rfl) ?_
        intro w12 P12
        have z12 : w12.heap.size = w11.heap.size := by rw [P12.size, P127.size]
        have B12 := P127.blk.ext P12.ext (by show ¬ w25.heap.size = w15.heap.size; omega)
        have R12 : RT w12 w15.heap.size w5.heap.size (fun k => ((k ≠ w15.heap.size ∧ k ≠ w5.heap.size) ∧ ¬ B k) ∧ k ≠ w25.heap.size) (rr, rz) := ⟨_, P12.blk, tBytes.ext (tBytes.ext R38 P127.ext (fun k hk _ he => hk.2 he)) P12.ext (fun k hk _ he => hk.1.1.1 he), (Q7.ext P127.ext (by show ¬ w5.heap.size = w25.heap.size; omega)).ext P12.ext (by show ¬ w5.heap.size = w15.heap.size; omega)⟩
        refine .nil (.code (.seq (.seq (.keep [(11, _), (0, _), (5, _), (6, _), (8, _), (9, _), (21, _), (22, _), (10, _)] ⟨rfl, rfl, rfl, rfl, rfl, rfl, rfl, rfl, rfl, trivial⟩ (.region ?_)))))
        refine .p rfl rfl (.fieldAddr rfl rfl rfl rfl) ?_
        refine .p rfl rfl (.load rfl rfl rfl (B12.cell 2)) ?_
        refine .p rfl rfl (.notD rfl) ?_
        refine .nil (.code (.keep [(42, _), (11, _), (0, _), (5, _), (6, _), (8, _), (9, _), (21, _), (22, _), (10, _)] ⟨rfl, rfl, rfl, rfl, rfl, rfl, rfl, rfl, rfl, rfl, trivial⟩ ?_))
        refine .meet (S := World) (fun s => [(0, str src), (5, .pointer (some ⟨w15.heap.size, 0, none⟩)), (6, .pointer (some ⟨w5.heap.size, 0, none⟩)), (8, .func (.func 27) #[] ([.pointer (some ⟨w15.heap.size, 0, none⟩), .pointer (some ⟨w5.heap.size, 0, none⟩)] : List Value).toArray), (9, i64 (M0 : Nat)), (21, i64 (N0 : Nat)), (22, i64 i), (10, v10), (11, .pointer (some ⟨w25.heap.size, 0, none⟩))]) (fun s => s) (fun s => Blk s w25.heap.size 36 [str (entT (key, (x :: rr, rz))).1.key, str (entT (key, (x :: rr, rz))).1.value, .bool (entT (key, (x :: rr, rz))).1.gone] ∧ RT s w15.heap.size w5.heap.size (fun k => (k ≠ w15.heap.size ∧ k ≠ w5.heap.size) ∧ ¬ B k) (entT (key, (x :: rr, rz))).2 ∧ Ext (fun k => (k = w15.heap.size ∨ k = w5.heap.size) ∨ w25.heap.size ≤ k) w12 s) ?_ ?_
        · rintro wn ⟨Bn, Rn, Xn⟩
          have zn := Xn.size
          have hXs := hX.size
          have hBc : ∀ k, B k → ¬ ((k = w15.heap.size ∨ k = w5.heap.size) ∨ w25.heap.size ≤ k) := fun k hk h => by have := hB k hk; omega
          have hOn := ((((OwnO.ext hO X25 (fun k hk _ he => hBc k hk (.inl he)) (fun _ h _ => h.elim)).ext0 X11).ext P127.ext (fun k hk _ he => hBc k hk (.inr (by have he : k = w25.heap.size := he; omega))) (fun _ h _ => h.elim)).ext P12.ext (fun k hk _ he => hBc k hk (.inl (.inl he))) (fun _ h _ => h.elim)).ext Xn (fun k hk _ => hBc k hk) (fun _ h _ => h.elim)
          obtain ⟨hek, hel⟩ := entT_len (key := key) (x := x) (r := rr) (z := rz)
          have hle25 : key.length + (rr.length + 1) ≤ rs.1.length := hle25
          have he1 : (entT (key, (x :: rr, rz))).1.key.length < Lim := by rw [hek]; omega
          have he2 : (entT (key, (x :: rr, rz))).1.value.length < Lim := by omega
          have hwn := ((((hX.then X25 (by rintro k (rfl | rfl) _ <;> omega)).trans X11).then P127.ext (by rintro k rfl _; omega)).then P12.ext (by rintro k rfl _; omega)).then Xn (by rintro k ((rfl | rfl) | h) _ <;> omega)
          refine .code (.region ?_)
          refine .p rfl rfl (.mv rfl) ?_
          refine .p rfl rfl (.loadA (n := 3) rfl rfl rfl rfl rfl Bn.cells) ?_
          refine .v rfl rfl (.lits rfl rfl (fun _ => by kernel_rfl)) ?_
          rintro _ w48 ⟨rfl, N48⟩
          have z48 := N48.size
          have hO48 := OwnO.ext0 (OwnO.mono hOn (B' := fun k => B k ∨ w48.heap.size ≤ k) (fun _ h _ => h) (fun _ h _ => .inl h)) N48.ext
          refine .v rfl rfl (.appendLo (t := tChange) (Q := fun _ => False) (B := fun k => B k ∨ w48.heap.size ≤ k) (eb := 40) rfl hO48 (fun k hk => .inr hk) rfl (.inr (New.holds (xs := [(entT (key, (x :: rr, rz))).1]) N48 (.cons (tChange.mk he1 he2) .nil) rfl)) rfl rfl rfl rfl rfl rfl rfl (by simp; omega) (by simp [Lim]; omega) (fun _ h _ => h.elim)) ?_
          rintro r49 w49 ⟨G49, Y49⟩
          have z49 := Y49.size
          refine .p rfl rfl (.as rfl) ?_
          refine .nil (.blk (.code (.keep [(10, _), (0, _), (5, _), (6, _), (8, _), (9, _), (21, _), (22, _)] ⟨rfl, rfl, rfl, rfl, rfl, rfl, rfl, rfl, trivial⟩ (.region ?_))))
          refine .p rfl rfl (.add rfl rfl (by omega)) ?_
          refine .p rfl rfl (.mv rfl) ?_
          refine .nil ?_
          have hne : ¬ ((textP rs).2.2 = true ∨ (textP rs).2.1 = []) := by rw [hT]; rintro (h | h); have h : rz = true := h; rw [hrz] at h; exact Bool.false_ne_true h; cases h
          have RZ := RT.mono (P' := fun k => (k ≠ w15.heap.size ∧ k ≠ w5.heap.size) ∧ ¬ ((B k ∨ w48.heap.size ≤ k) ∧ k < w49.heap.size)) (Rn.ext0 N48.ext) (fun k hk hlt => ⟨hk.1, fun h => h.1.elim hk.2 (fun h => by omega)⟩)
          have RZ := RT.ext RZ Y49 (by rintro (h | h); exact (hB _ h).2.1.1 rfl; omega) (by rintro (h | h); exact (hB _ h).2.1.2 rfl; omega) (fun k hk hlt he => hk.2 ⟨he, by omega⟩)
          exact (again (i + 1, acc ++ [(entT (key, (x :: rr, rz))).1], (entT (key, (x :: rr, rz))).2, r49, (fun k => (B k ∨ w48.heap.size ≤ k) ∧ k < w49.heap.size), w49) ⟨by show i + 1 ≤ N0; omega, by rw [← hloop, show N0 - i = (N0 - (i + 1)) + 1 by omega, loopT_F hne, hT], by show (entT (key, (x :: rr, rz))).2.1.length ≤ _; omega, by show (acc ++ [_]).length = i + 1; simp [hacc], (fun k hk => ⟨by rcases hk.1 with h | h; exact (hB k h).1; omega, ⟨fun e => by rcases hk.1 with h | h; exact (hB k h).2.1.1 e; omega, fun e => by rcases hk.1 with h | h; exact (hB k h).2.1.2 e; omega⟩, hk.2⟩), RZ, OwnO.mono G49 (fun _ h _ => h) (fun k h hlt => ⟨h, hlt⟩), (hwn.trans N48.ext).then Y49 (fun k h _ => by rcases h with h | h; exact (hB k h).1; omega)⟩ (by show N0 - (i + 1) < N0 - i; omega)).of ⟨rfl, rfl, rfl, rfl, rfl, rfl, rfl, rfl, trivial⟩
        · intro meet
          refine .condD rfl (fun c42 => ?_) (fun c42 => ?_)
          · refine .keep [(11, _), (0, _), (5, _), (6, _), (8, _), (9, _), (21, _), (22, _), (10, _)] ⟨rfl, rfl, rfl, rfl, rfl, rfl, rfl, rfl, rfl, trivial⟩ (.region ?_)
            refine .p rfl rfl (.mv rfl) ?_
            refine .call (first := []) (captured := [.pointer (some ⟨w15.heap.size, 0, none⟩), .pointer (some ⟨w5.heap.size, 0, none⟩)]) rfl rfl rfl rfl (TText_fn R12 hpq (fun h => hp h.1) (fun h => hq h.1) (by first | exact fun k hk => hn k (by omega) | exact fun k hk => ⟨hn k (by omega), by omega⟩)) ?_
            rintro _ w44 ⟨rfl, R44, X44⟩
            have z44 := X44.size
            have B44 := B12.ext X44 (by show ¬ (w25.heap.size = w15.heap.size ∨ w25.heap.size = w5.heap.size); omega)
            refine .p rfl rfl (.fieldAddr rfl rfl rfl rfl) ?_
            refine .s rfl (.store rfl rfl rfl rfl rfl B44 (by simp)) ?_
            intro w45 P45
            refine .nil ?_
            exact (meet w45 ⟨by rw [entT_0 c42]; have h9 := P45.blk; rw [decide_eq_false c42] at h9; exact h9, by rw [entT_0 c42]; exact RT.mono (RT.ext R44 P45.ext (by show ¬ w15.heap.size = w25.heap.size; omega) (by show ¬ w5.heap.size = w25.heap.size; omega) (fun k hk _ he => hk.2 he)) (fun k hk _ => hk.1), (X44.mono (fun _ _ h => .inl h)).trans (P45.ext.mono (by rintro k _ rfl; exact .inr (Nat.le_refl _)))⟩).of ⟨rfl, rfl, rfl, rfl, rfl, rfl, rfl, rfl, rfl, trivial⟩
          · refine .skip ?_
            have c42 := Decidable.not_not.1 c42
            exact (meet w12 ⟨by rw [entT_1 c42]; have h9 := B12; rw [decide_eq_true c42] at h9; exact h9, by rw [entT_1 c42]; exact RT.mono R12 (fun k hk _ => hk.1), .refl _⟩).of ⟨rfl, rfl, rfl, rfl, rfl, rfl, rfl, rfl, rfl, trivial⟩
  · obtain rfl : i = N0 := by omega
    rw [Nat.sub_self] at hloop
    obtain ⟨v7, B7, R7, Q7⟩ := hRT
    have hRo := OwnO.rep hO (R := All) (fun _ _ _ => trivial) (fun _ h _ => h.elim)
    refine .exit rfl (.code (.seq (.seq (.keep [(0, _), (6, _), (9, _), (10, _)] ⟨rfl, rfl, rfl, rfl, trivial⟩ (.region ?_)))))
    refine .p rfl rfl (.mv rfl) ?_
    refine .p rfl rfl (.mv rfl) ?_
    refine .call (first := []) (captured := []) rfl rfl rfl rfl (TWrite_fn hRo) ?_
    rintro _ w54 ⟨rfl, X54⟩
    refine .p rfl rfl (.mv rfl) ?_
    refine .p rfl rfl (.extract rfl rfl) ?_
    refine .p rfl rfl (.extract rfl rfl) ?_
    refine .p rfl rfl (.as rfl) ?_
    refine .p rfl rfl (.as rfl) ?_
    refine .nil (.code (.seq (.keep [(13, _), (12, _), (0, _), (6, _), (9, _), (10, _)] ⟨rfl, rfl, rfl, rfl, rfl, rfl, trivial⟩ (.region ?_))))
    refine .p rfl rfl (.load rfl rfl rfl ((Q7.ext X54 (fun x => x)).cell 0)) ?_
    refine .p rfl rfl (.mv rfl) ?_
    refine .case 58 rfl (fun c58 => ?_) (fun c58 => ?_)
    · refine .skip rfl rfl ?_
      refine .skip rfl rfl ?_
      refine .p rfl rfl (.pickT rfl rfl) ?_
      refine .p rfl rfl (.mv rfl) ?_
      refine .skip rfl rfl ?_
      refine .skip rfl rfl ?_
      refine .skip rfl rfl ?_
      refine .p rfl rfl (.pickT rfl rfl) ?_
      refine .nil (.code (.keep [(66, _), (9, _), (10, _)] ⟨rfl, rfl, rfl, trivial⟩ (.condT rfl (.seq (.keep [] trivial (.region ?_))))))
      refine .p rfl rfl (.as rfl) ?_
      refine .p rfl rfl (.as rfl) ?_
      refine .p rfl rfl (.as rfl) ?_
      refine .nil (.code ?_)
      refine .ret _ rfl ?_
      rw [loopT_0, if_pos c58] at hloop
      rw [readT_none (by rw [hN0]; exact hloop.symm)]
      exact ⟨_, rfl, OwnO.nil, hX.trans X54⟩
    · refine .p rfl rfl (.mv rfl) ?_
      refine .p rfl rfl (.ne rfl rfl) ?_
      refine .p rfl rfl (.pickF rfl rfl) ?_
      refine .p rfl rfl (.mv rfl) ?_
      refine .caseD 62 rfl (fun c62 => ?_) (fun c62 => ?_)
      · refine .skip rfl rfl ?_
        refine .skip rfl rfl ?_
        refine .skip rfl rfl ?_
        refine .p rfl rfl (.pickT rfl rfl) ?_
        refine .nil (.code (.keep [(66, _), (9, _), (10, _)] ⟨rfl, rfl, rfl, trivial⟩ (.condT rfl (.seq (.keep [] trivial (.region ?_))))))
        refine .p rfl rfl (.as rfl) ?_
        refine .p rfl rfl (.as rfl) ?_
        refine .p rfl rfl (.as rfl) ?_
        refine .nil (.code ?_)
        refine .ret _ rfl ?_
        rw [loopT_0, if_neg (by rw [c58]; exact Bool.false_ne_true)] at hloop
        rw [readT_some (l := acc) (by rw [hN0]; exact hloop.symm), hM0, if_pos (.inl c62)]
        exact ⟨_, rfl, OwnO.nil, hX.trans X54⟩
      · refine .p rfl rfl (.mv rfl) ?_
        refine .p rfl rfl (.mv rfl) ?_
        refine .p rfl rfl (.neS rfl rfl) ?_
        refine .p rfl rfl (.pickF rfl rfl) ?_
        refine .nil (.code (.keep [(66, _), (9, _), (10, _)] ⟨rfl, rfl, rfl, trivial⟩ ?_))
        refine .condD rfl (fun c66 => ?_) (fun c66 => ?_)
        · refine .seq (.keep [] trivial (.region ?_))
          refine .p rfl rfl (.as rfl) ?_
          refine .p rfl rfl (.as rfl) ?_
          refine .p rfl rfl (.as rfl) ?_
          refine .nil (.code ?_)
          refine .ret _ rfl ?_
          rw [loopT_0, if_neg (by rw [c58]; exact Bool.false_ne_true)] at hloop
          rw [readT_some (l := acc) (by rw [hN0]; exact hloop.symm), hM0, if_pos (.inr c66)]
          exact ⟨_, rfl, OwnO.nil, hX.trans X54⟩
        · refine .skip (.code (.seq (.keep [(9, _), (10, _)] ⟨rfl, rfl, trivial⟩ (.region ?_))))
          refine .p rfl rfl (.mv rfl) ?_
          refine .p rfl rfl (.mv rfl) ?_
          refine .p rfl rfl (.as rfl) ?_
          refine .p rfl rfl (.as rfl) ?_
          refine .p rfl rfl (.as rfl) ?_
          refine .nil (.code ?_)
          refine .ret _ rfl ?_
          rw [loopT_0, if_neg (by rw [c58]; exact Bool.false_ne_true)] at hloop
          rw [readT_some (l := acc) (by rw [hN0]; exact hloop.symm), hM0, if_neg (fun h => h.elim c62 c66)]
          exact ⟨_, rfl, OwnO.mono (OwnO.ext0 hO X54) (fun _ h _ => h) (fun k h _ => (hB k h).1), hX.trans X54⟩
end Go.Proofs.YthliepcjfnjnoaaGreatDoor
namespace Go.Proofs.YthliepcjfnjnoaaGreatDoor
open Go
namespace files
open room
abbrev RS := Bs × Bool
def numS (m : Nat) (s : Bs) : Option (Nat × Bs) := if (page.numP m (s, false)).2.2 = true then none else some ((page.numP m (s, false)).1, (page.numP m (s, false)).2.1)
def cutS (s : Bs) : Option (Bs × Bs) := if ¬ (cutF s).2.2 = 0 then none else some ((cutF s).1, (cutF s).2.1)
def piecesS (B : Nat) : Nat → List Piece → Bs → Option (List Piece × Bs)
  | 0, acc, s => some (acc, s)
  | n + 1, acc, s => (numS B s).bind fun f => (numS 4096 f.2).bind fun c => piecesS B n (acc ++ [⟨(f.1 : Int), (c.1 : Int)⟩]) c.2
def filesS (B : Nat) : Nat → List File → Bs → Option (List File × Bs)
  | 0, acc, s => some (acc, s)
  | n + 1, acc, s => (cutS s).bind fun t => (numS 524288 t.2).bind fun z => (numS 4096 z.2).bind fun k => (piecesS B k.1 [] k.2).bind fun p => filesS B n (acc ++ [⟨t.1, (z.1 : Int), p.1⟩]) p.2
def parseS (B : Nat) (s : Bs) : Option (List File) := (numS 32 s).bind fun n => (filesS B n.1 [] n.2).map (·.1)
theorem piecesS_0 {B : Nat} {acc : List Piece} {s : Bs} : piecesS B 0 acc s = some (acc, s) := rfl
theorem piecesS_s {B n : Nat} {acc : List Piece} {s : Bs} : piecesS B (n + 1) acc s = (numS B s).bind fun f => (numS 4096 f.2).bind fun c => piecesS B n (acc ++ [⟨(f.1 : Int), (c.1 : Int)⟩]) c.2 := rfl
theorem filesS_0 {B : Nat} {acc : List File} {s : Bs} : filesS B 0 acc s = some (acc, s) := rfl
theorem filesS_s {B n : Nat} {acc : List File} {s : Bs} : filesS B (n + 1) acc s = (cutS s).bind fun t => (numS 524288 t.2).bind fun z => (numS 4096 z.2).bind fun k => (piecesS B k.1 [] k.2).bind fun p => filesS B n (acc ++ [⟨t.1, (z.1 : Int), p.1⟩]) p.2 := rfl
def St {β : Type} (R : Option β) (s : RS) (f : Bs → Option β) : Prop := R = if s.2 = true then none else f s.1
theorem St.bad {β : Type} {R : Option β} {s : RS} {f : Bs → Option β} (h : St R s f) (hb : s.2 = true) : R = none := by unfold St at h; rw [h, if_pos hb]
theorem St.ok {β : Type} {R : Option β} {s : RS} {f : Bs → Option β} (h : St R s f) (hb : ¬ s.2 = true) : R = f s.1 := by unfold St at h; rw [h, if_neg hb]
theorem St.to {β : Type} {R : Option β} {s : RS} {f g : Bs → Option β} (h : St R s f) (hg : f s.1 = g s.1) : St R s g := by unfold St at h ⊢; rw [h, hg]
theorem numP_bad {m : Nat} {s : RS} (h : s.2 = true) : (page.numP m s).2.2 = true := by
  unfold page.numP
  split
  · rfl
  · exact h
theorem numP_ok {m : Nat} {b : Bs} {z : Bool} (h : ¬ (page.numP m (b, z)).2.2 = true) : numS m b = some ((page.numP m (b, z)).1, (page.numP m (b, z)).2.1) := by
  cases z with
  | true => exact absurd (numP_bad rfl) h
  | false => unfold numS; rw [if_neg h]
theorem numP_no {m : Nat} {b : Bs} (h : (page.numP m (b, false)).2.2 = true) : numS m b = none := by unfold numS; rw [if_pos h]
theorem St.num {β : Type} {R : Option β} {s : RS} {m : Nat} {g : Nat × Bs → Option β} (h : St R s (fun b => (numS m b).bind g)) : St R (page.numP m s).2 (fun b => g ((page.numP m s).1, b)) := by
  obtain ⟨b, z⟩ := s
  unfold St at h ⊢
  cases z with
  | true => rw [h, if_pos rfl, if_pos (numP_bad rfl)]
  | false =>
    rw [h, if_neg (fun h => by cases h)]
    by_cases hz : (page.numP m (b, false)).2.2 = true
    · rw [if_pos hz]
      show (numS m b).bind g = none
      rw [numP_no hz]
      rfl
    · rw [if_neg hz]
      show (numS m b).bind g = _
      rw [numP_ok hz]
      rfl
theorem St.cutN {β : Type} {R : Option β} {s : RS} {g : Bs × Bs → Option β} (h : St R s (fun b => (cutS b).bind g)) (hc : ¬ (cutF s.1).2.2 = 0) : R = none := by
  unfold St at h
  rw [h]
  split
  · rfl
  · show (cutS s.1).bind g = none
    unfold cutS
    rw [if_pos hc]
    rfl
theorem St.cut {β : Type} {R : Option β} {s : RS} {g : Bs × Bs → Option β} (h : St R s (fun b => (cutS b).bind g)) (hc : (cutF s.1).2.2 = 0) : St R ((cutF s.1).2.1, s.2) (fun b => g ((cutF s.1).1, b)) := by
  unfold St at h ⊢
  rw [h]
  split
  · rfl
  · show (cutS s.1).bind g = _
    unfold cutS
    rw [if_neg (fun h => h hc)]
    rfl
theorem numP_f (m : Nat) (s : Bs) : page.numP m (s, false) = if ¬ (readF s).2.2 = 0 ∨ m < (readF s).1 then (0, (s, true)) else ((readF s).1, (s.drop (readF s).2.1, false)) := rfl
theorem numS_eq (m : Nat) (s : Bs) : numS m s = if ¬ (readF s).2.2 = 0 ∨ m < (readF s).1 then none else some ((readF s).1, s.drop (readF s).2.1) := by
  unfold numS
  rw [numP_f]
  by_cases h : ¬ (readF s).2.2 = 0 ∨ m < (readF s).1
  · rw [if_pos h, if_pos h]; exact if_pos rfl
  · rw [if_neg h, if_neg h]; exact if_neg (fun h => by cases h)
def innerD (b : Bs) : Bs := (List.range 8).flatMap (fun i => ((b.drop (i * 128)).take 128).drop 9)
noncomputable def freadG (B : Nat) (b : Bs) : Dir × Int :=
  if ¬ b.length = 1024 then (⟨0, []⟩, 8) else
  match parseS B (innerD b) with
  | none => (⟨0, []⟩, 8)
  | some fs => if writeF ⟨min (getTo b 8 : Int) 4611686018427387904, fs⟩ = (b, 0) then (⟨min (getTo b 8 : Int) 4611686018427387904, fs⟩, 0) else (⟨0, []⟩, 8)
noncomputable def readD (b : Bs) : Dir × Int := freadG 4096 b
theorem freadG_len {B : Nat} {b : Bs} (h : ¬ b.length = 1024) : freadG B b = (⟨0, []⟩, 8) := by unfold freadG; rw [if_pos h]
theorem freadG_none {B : Nat} {b : Bs} (h : b.length = 1024) (hp : parseS B (innerD b) = none) : freadG B b = (⟨0, []⟩, 8) := by unfold freadG; rw [if_neg (fun h2 => h2 h), hp]
theorem freadG_no {B : Nat} {b : Bs} {fs : List File} (h : b.length = 1024) (hp : parseS B (innerD b) = some fs) (hw : ¬ writeF ⟨min (getTo b 8 : Int) 4611686018427387904, fs⟩ = (b, 0)) : freadG B b = (⟨0, []⟩, 8) := by
  unfold freadG; rw [if_neg (fun h2 => h2 h), hp]; simp only; rw [if_neg hw]
theorem freadG_ok {B : Nat} {b : Bs} {fs : List File} (h : b.length = 1024) (hp : parseS B (innerD b) = some fs) (hw : writeF ⟨min (getTo b 8 : Int) 4611686018427387904, fs⟩ = (b, 0)) : freadG B b = (⟨min (getTo b 8 : Int) 4611686018427387904, fs⟩, 0) := by
  unfold freadG; rw [if_neg (fun h2 => h2 h), hp]; simp only; rw [if_pos hw]
theorem writeF_ok {x : Dir} {b : Bs} (h : writeF x = (b, 0)) : checkD x = 0 ∧ ¬ 952 < (bodyD x.fs).length ∧ b = slotsD x.gen.toNat (bodyD x.fs ++ List.replicate (952 - (bodyD x.fs).length) 0) := by
  by_cases hc : checkD x = 0
  · by_cases hl : 952 < (bodyD x.fs).length
    · rw [writeF_42 hc hl] at h
      exact absurd (congrArg Prod.snd h) (by show ¬ (42 : Int) = 0; decide)
    · rw [writeF_0 hc hl] at h
      exact ⟨hc, hl, (congrArg Prod.fst h).symm⟩
  · rw [writeF_e hc] at h
    exact absurd (congrArg Prod.snd h) hc
end files
end Go.Proofs.YthliepcjfnjnoaaGreatDoor
