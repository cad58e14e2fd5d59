
/-
  Package page: entries, their order, what may be.
-/
import Derived.Test.YthkgadhamecnlaaSmall
import Derived.Test.YthkgadhamecnlaaStruct
import Derived.Lib.Bytealg
set_option linter.unusedVariables false
set_option linter.unusedSimpArgs false
set_option maxRecDepth 20000
namespace Go.Proofs.Ythkgadhamecnlaa
open Go
namespace page
structure Entry where
  key : Bs
  value : Bs
  seq : Int
  gone : Bool
deriving DecidableEq
def tEntry : Ty Entry := (tStr.pair (tStr.pair (tInt.pair tBool))).map (fun x => (x.key, x.value, x.seq, x.gone))
theorem tEntry.val {P : Nat → Prop} {w : World} {v : Value} {x : Entry} (h : tEntry.rep P w v x) : v = .agg #[str x.key, str x.value, i64 x.seq, .bool x.gone] ∧ x.key.length < Lim ∧ x.value.length < Lim ∧ -9223372036854775808 ≤ x.seq ∧ x.seq ≤ 9223372036854775807 := by
  obtain ⟨_, _, rfl, ⟨rfl, h1⟩, _, _, rfl, ⟨rfl, h2⟩, _, _, rfl, ⟨rfl, h3⟩, rfl⟩ := h
  exact ⟨rfl, h1, h2, h3⟩
theorem tEntry.mk {P : Nat → Prop} {w : World} {x : Entry} (h1 : x.key.length < Lim) (h2 : x.value.length < Lim) (h3 : -9223372036854775808 ≤ x.seq ∧ x.seq ≤ 9223372036854775807) : tEntry.rep P w (.agg #[str x.key, str x.value, i64 x.seq, .bool x.gone]) x :=
  ⟨str x.key, .agg #[str x.value, i64 x.seq, .bool x.gone], rfl, ⟨rfl, h1⟩, str x.value, .agg #[i64 x.seq, .bool x.gone], rfl, ⟨rfl, h2⟩, i64 x.seq, .bool x.gone, rfl, ⟨rfl, h3⟩, rfl⟩
def orI (a b : Int) : Int := if a = 0 then b else a
def cmpI (a b : Int) : Int := if a < b then -1 else if b < a then 1 else 0
def lessE (a b : Entry) : Bool := decide (orI (Lib.compareBytes a.key b.key) (cmpI b.seq a.seq) < 0)
theorem cmpB_range : ∀ a b : Bs, -1 ≤ Lib.compareBytes a b ∧ Lib.compareBytes a b ≤ 1
  | [], [] => by simp [Lib.compareBytes]
  | [], _ :: _ => by simp [Lib.compareBytes]
  | _ :: _, [] => by simp [Lib.compareBytes]
  | a :: xs, b :: ys => by
    unfold Lib.compareBytes
    split
    · decide
    · split
      · decide
      · exact cmpB_range xs ys
theorem cmpI_range (a b : Int) : -1 ≤ cmpI a b ∧ cmpI a b ≤ 1 := by unfold cmpI; split; decide; split <;> decide
def oneE (x : Entry) : Int := if x.key = [] ∨ 256 < x.key.length then 60 else if 4096 < x.value.length then 3 else if x.seq < 0 ∨ 2147483647 < x.seq then 2 else if x.gone = true ∧ ¬ x.value = [] then 8 else 0
def ahd (p : Option Entry) (x : Entry) : Bool := match p with | some y => !lessE y x | none => false
def chk : Option Entry → List Entry → Int
  | _, [] => 0
  | p, x :: r => if ¬ oneE x = 0 then oneE x else if ahd p x = true then 100 else chk (some x) r
theorem chk_cons (p : Option Entry) (x : Entry) (r : List Entry) : chk p (x :: r) = if ¬ oneE x = 0 then oneE x else if ahd p x = true then 100 else chk (some x) r := rfl
def checkE (l : List Entry) : Int := if 4096 < l.length then 4 else chk none l
/-- the entry ahead of the i-th -/
def aheadE (l : List Entry) : Nat → Option Entry
  | 0 => none
  | i + 1 => l[i]?
theorem chk_step {l : List Entry} {i : Nat} (h : i < l.length) : chk (aheadE l i) (l.drop i) = if ¬ oneE l[i] = 0 then oneE l[i] else if ahd (aheadE l i) l[i] = true then 100 else chk (aheadE l (i + 1)) (l.drop (i + 1)) := by
  rw [List.drop_eq_getElem_cons h, chk_cons]
  have : aheadE l (i + 1) = some l[i] := by show l[i]? = _; exact List.getElem?_eq_getElem h
  rw [this]
theorem one_ok {x : Entry} (h : oneE x = 0) : x.key ≠ [] ∧ x.key.length ≤ 256 ∧ x.value.length ≤ 4096 ∧ 0 ≤ x.seq ∧ x.seq ≤ 2147483647 ∧ (x.gone = true → x.value = []) := by
  unfold oneE at h
  split at h
  · omega
  · rename_i h1
    split at h
    · omega
    · split at h
      · omega
      · split at h
        · omega
        · rename_i h4
          exact ⟨fun e => h1 (.inl e), by omega, by omega, by omega, by omega, fun e => Decidable.byContradiction (fun e2 => h4 ⟨e, e2⟩)⟩
theorem chk_ok : ∀ {l : List Entry} {p : Option Entry}, chk p l = 0 → ∀ x ∈ l, oneE x = 0
  | [], _, _, _, hx => by cases hx
  | y :: l, p, h, x, hx => by
    rw [chk_cons] at h
    split at h
    · rename_i h1; exact absurd h h1
    · rename_i h1
      have h2 : chk (some y) l = 0 := by
        by_cases hq : ahd p y = true
        · rw [if_pos hq] at h; cases h
        · rw [if_neg hq] at h; exact h
      rcases List.mem_cons.1 hx with rfl | hx
      · exact Decidable.byContradiction h1
      · exact chk_ok h2 x hx
end page
open page
theorem cmpstr (a b : Bs) (w : World) : (callFunc 92 #[str a, str b]).run Try.prog w = .ok (.value (i64 (Lib.compareBytes a b))) w := by
  rw [run_callFunc_extern Try.func92 (by kernel_rfl) (by kernel_rfl) (by kernel_rfl) (e := Extern.BytealgCompare.compare) (by kernel_rfl)]
  have := Lib.run_compareString (P := Try.prog) (bs a) (bs b) w
  rw [show #[str a, str b] = #[Value.string (bs a), Value.string (bs b)] from rfl, this]
  rfl
theorem CompareString_fn {w : World} {a b : Bs} : Fn Try.prog 89 [str a, str b] w (fun r w2 => r = i64 (Lib.compareBytes a b) ∧ Ext (fun _ => False) w w2) := by
  refine Fn.enter (fun w => Try.call89 _ w) Try.func89 rfl ?_
  refine .seq (.region ?_)
  refine .p rfl rfl (.as rfl) ?_
  refine .nil (.code (.seq (.keep [(0, _), (1, _)] ⟨rfl, rfl, trivial⟩ (.region ?_))))
  refine .p rfl rfl (.mv rfl) ?_
  refine .p rfl rfl (.mv rfl) ?_
  refine .p rfl rfl (.callX rfl rfl (cmpstr a b)) ?_
  refine .p rfl rfl (.as rfl) ?_
  refine .nil (.code ?_)
  refine .ret _ rfl ?_
  exact ⟨rfl, .refl _⟩
theorem strCompare_fn {w : World} {a b : Bs} : Fn Try.prog 81 [str a, str b] w (fun r w2 => r = i64 (Lib.compareBytes a b) ∧ Ext (fun _ => False) w w2) := by
  refine Fn.enter (fun w => Try.call81 _ w) Try.func81 rfl ?_
  refine .seq (.region ?_)
  refine .p rfl rfl (.as rfl) ?_
  refine .nil (.code (.seq (.keep [(0, _), (1, _)] ⟨rfl, rfl, trivial⟩ (.region ?_))))
  refine .p rfl rfl (.mv rfl) ?_
  refine .p rfl rfl (.mv rfl) ?_
  refine .call (first := []) (captured := []) rfl rfl rfl rfl (CompareString_fn (a := a) (b := b)) ?_
  rintro _ w7 ⟨rfl, X7⟩
  refine .p rfl rfl (.as rfl) ?_
  refine .nil (.code ?_)
  refine .ret _ rfl ?_
  exact ⟨rfl, X7⟩
theorem isNaN_fn {w : World} {a : Int} : Fn Try.prog 90 [i64 a] w (fun r w2 => r = .bool false ∧ Ext (fun _ => False) w w2) := by
  refine Fn.enter (fun w => Try.call90 _ w) Try.func90 rfl ?_
  refine .seq (.region ?_)
  refine .p rfl rfl (.as rfl) ?_
  refine .nil (.code (.seq (.keep [(0, _)] ⟨rfl, trivial⟩ (.region ?_))))
  refine .p rfl rfl (.mv rfl) ?_
  refine .p rfl rfl (.mv rfl) ?_
  refine .p rfl rfl (.no (.ne rfl rfl) (fun h => h rfl)) ?_
  refine .p rfl rfl (.as rfl) ?_
  refine .nil (.code ?_)
  refine .ret _ rfl ?_
  exact ⟨rfl, .refl _⟩
theorem cmpCompare_fn {w : World} {a b : Int} : Fn Try.prog 82 [i64 a, i64 b] w (fun r w2 => r = i64 (cmpI a b) ∧ Ext (fun _ => False) w w2) := by
  refine Fn.enter (fun w => Try.call82 _ w) Try.func82 rfl ?_
  refine .seq (.region ?_)
  refine .p rfl rfl (.as rfl) ?_
  refine .nil (.code (.seq (.keep [(0, _), (1, _)] ⟨rfl, rfl, trivial⟩ (.region ?_))))
  refine .p rfl rfl (.mv rfl) ?_
  refine .call (first := []) (captured := []) rfl rfl rfl rfl (isNaN_fn (a := a)) ?_
  rintro _ w8 ⟨rfl, X8⟩
  refine .p rfl rfl (.as rfl) ?_
  refine .nil (.code (.seq (.keep [(5, _), (0, _), (1, _)] ⟨rfl, rfl, rfl, trivial⟩ (.region ?_))))
  refine .p rfl rfl (.mv rfl) ?_
  refine .call (first := []) (captured := []) rfl rfl rfl rfl (isNaN_fn (a := b)) ?_
  rintro _ w10 ⟨rfl, X10⟩
  refine .p rfl rfl (.as rfl) ?_
  refine .nil (.code (.seq (.seq (.keep [(6, _), (5, _), (0, _), (1, _)] ⟨rfl, rfl, rfl, rfl, trivial⟩ (.region ?_)))))
  refine .p rfl rfl (.mv rfl) ?_
  refine .nil (.code (.keep [(11, _), (6, _), (0, _), (1, _)] ⟨rfl, rfl, rfl, rfl, trivial⟩ (.condF rfl (.skip (.code (.seq (.seq (.keep [(6, _), (0, _), (1, _)] ⟨rfl, rfl, rfl, trivial⟩ (.region ?_)))))))))
  refine .p rfl rfl (.mv rfl) ?_
  refine .nil (.code (.keep [(13, _), (0, _), (1, _)] ⟨rfl, rfl, rfl, trivial⟩ (.condF rfl (.skip (.code (.seq (.seq (.keep [(0, _), (1, _)] ⟨rfl, rfl, trivial⟩ (.region ?_)))))))))
  refine .p rfl rfl (.mv rfl) ?_
  refine .p rfl rfl (.mv rfl) ?_
  refine .p rfl rfl (.lt rfl rfl) ?_
  refine .nil (.code (.keep [(16, _), (0, _), (1, _)] ⟨rfl, rfl, rfl, trivial⟩ ?_))
  refine .condD rfl (fun c16 => ?_) (fun c16 => ?_)
  · refine .seq (.keep [] trivial (.region ?_))
    refine .p rfl rfl (.as rfl) ?_
    refine .nil (.code ?_)
    refine .ret _ rfl ?_
    exact ⟨by unfold cmpI; rw [if_pos c16]; rfl, X8.trans X10⟩
  · refine .skip (.code (.seq (.seq (.keep [(0, _), (1, _)] ⟨rfl, rfl, trivial⟩ (.region ?_)))))
    refine .p rfl rfl (.mv rfl) ?_
    refine .p rfl rfl (.mv rfl) ?_
    refine .p rfl rfl (.gt rfl rfl) ?_
    refine .nil (.code (.keep [(19, _)] ⟨rfl, trivial⟩ ?_))
    refine .condD rfl (fun c19 => ?_) (fun c19 => ?_)
    · refine .seq (.keep [] trivial (.region ?_))
      refine .p rfl rfl (.as rfl) ?_
      refine .nil (.code ?_)
      refine .ret _ rfl ?_
      exact ⟨by unfold cmpI; rw [if_neg c16, if_pos c19]; rfl, X8.trans X10⟩
    · refine .skip (.code (.seq (.keep [] trivial (.region ?_))))
      refine .p rfl rfl (.as rfl) ?_
      refine .nil (.code ?_)
      refine .ret _ rfl ?_
      exact ⟨by unfold cmpI; rw [if_neg c16, if_neg c19]; rfl, X8.trans X10⟩
theorem cmpOr_fn {w : World} {v : Value} {a b : Int} (h : tInts.rep All w v [a, b]) : Fn Try.prog 80 [v] w (fun r w2 => r = i64 (orI a b) ∧ Ext (fun _ => False) w w2) := by
  obtain ⟨x, cap, rfl, hcap⟩ := Sl.val h
  refine Fn.enter (fun w => Try.call80 _ w) Try.func80 rfl ?_
  refine .seq (.region ?_)
  refine .p rfl rfl (.as rfl) ?_
  refine .nil (.code (.seq (.keep [(0, _)] ⟨rfl, trivial⟩ (.region ?_))))
  refine .p rfl rfl (.as rfl) ?_
  refine .nil (.code (.seq (.seq (.region ?_))))
  refine .p rfl rfl (.mv rfl) ?_
  refine .p rfl rfl (.len rfl rfl) ?_
  refine .p rfl rfl (.mv rfl) ?_
  refine .nil (.code (.block (.keep [(8, _), (7, _), (6, _), (3, _)] ⟨rfl, rfl, rfl, rfl, trivial⟩ ?_)))
  refine .loop (S := Nat) (fun s => [(3, i64 0), (6, .slice x 2 cap), (7, i64 ((2 : Nat) : Int)), (8, i64 s)]) (fun s => w) (fun s => s ≤ 2 ∧ (1 ≤ s → a = 0) ∧ (s = 2 → b = 0)) (fun s => 2 - s) 0 ⟨rfl, rfl, rfl, rfl, trivial⟩ rfl ⟨by omega, by omega, by omega⟩ ?_
  rintro i J ⟨hi, h1, h2⟩ again
  refine .seq (.region ?_)
  refine .p rfl rfl (.lt rfl rfl) ?_
  refine .nil (.code (.seq ?_))
  refine .condD rfl (fun c9 => ?_) (fun c9 => ?_)
  · have hi2 : i < [a, b].length := by show i < 2; have c9 : (i : Int) < ((2 : Nat) : Int) := c9; omega
    obtain ⟨b0, o, rfl, _, hc, _⟩ := Sl.intAt h (k := i) hi2
    refine .skip (.code (.seq (.block (.seq (.keep [(3, _), (6, _), (7, _), (8, _)] ⟨rfl, rfl, rfl, rfl, trivial⟩ (.region ?_))))))
    refine .p rfl rfl (.indexAddr1 rfl rfl rfl rfl (by show 0 ≤ (i : Int) ∧ (i : Int) < ((2 : Nat) : Int); omega)) ?_
    refine .p rfl rfl (.load rfl rfl rfl hc) ?_
    refine .p rfl rfl (.as rfl) ?_
    refine .nil (.code (.seq (.keep [(5, _), (3, _), (6, _), (7, _), (8, _)] ⟨rfl, rfl, rfl, rfl, rfl, trivial⟩ (.region ?_))))
    refine .p rfl rfl (.mv rfl) ?_
    refine .p rfl rfl (.mv rfl) ?_
    refine .p rfl rfl (.ne rfl rfl) ?_
    refine .nil (.code (.keep [(14, _), (5, _), (3, _), (6, _), (7, _), (8, _)] ⟨rfl, rfl, rfl, rfl, rfl, rfl, trivial⟩ ?_))
    refine .condD rfl (fun c14 => ?_) (fun c14 => ?_)
    · refine .seq (.keep [(5, _)] ⟨rfl, trivial⟩ (.region ?_))
      refine .p rfl rfl (.mv rfl) ?_
      refine .p rfl rfl (.as rfl) ?_
      refine .nil (.code ?_)
      refine .ret _ rfl ?_
      have hi2' : i < 2 := hi2
      have c14 : ¬ [a, b][i]'hi2 = 0 := c14
      refine ⟨?_, .refl _⟩
      rcases Nat.eq_zero_or_pos i with rfl | hp
      · show i64 a = _
        unfold orI
        rw [if_neg (show ¬ a = 0 from c14)]
      · obtain rfl : i = 1 := by omega
        show i64 b = _
        unfold orI
        rw [if_pos (h1 hp)]
    · refine .skip (.blk (.code (.keep [(3, _), (6, _), (7, _), (8, _)] ⟨rfl, rfl, rfl, rfl, trivial⟩ (.region ?_))))
      refine .p rfl rfl (.add rfl rfl (by omega)) ?_
      refine .p rfl rfl (.mv rfl) ?_
      refine .nil ?_
      have c14 : [a, b][i]'hi2 = 0 := Decidable.not_not.1 c14
      have hi2 : i < 2 := hi2
      refine (again (i + 1) ⟨by show i + 1 ≤ 2; omega, fun _ => ?_, fun hs => ?_⟩ (by show 2 - (i + 1) < 2 - i; omega)).of ⟨rfl, rfl, rfl, rfl, trivial⟩
      · rcases Nat.eq_zero_or_pos i with rfl | hp
        · exact c14
        · exact h1 hp
      · have hs : i + 1 = 2 := hs
        obtain rfl : i = 1 := by omega
        exact c14
  · refine .exit rfl (.code (.seq (.keep [(3, _)] ⟨rfl, trivial⟩ (.region ?_))))
    refine .p rfl rfl (.mv rfl) ?_
    refine .p rfl rfl (.as rfl) ?_
    refine .nil (.code ?_)
    refine .ret _ rfl ?_
    have c9 : ¬ (i : Int) < ((2 : Nat) : Int) := c9
    obtain rfl : i = 2 := by omega
    exact ⟨by unfold orI; rw [if_pos (h1 (by omega)), h2 rfl]; rfl, .refl _⟩
theorem Less_fn {w : World} {v u : Value} {a b : Entry} (ha : tEntry.rep All w v a) (hb : tEntry.rep All w u b) : Fn Try.prog 53 [v, u] w (fun r w2 => r = .bool (lessE a b) ∧ Ext (fun _ => False) w w2) := by
  obtain ⟨rfl, ha1, ha2, ha3⟩ := tEntry.val ha
  obtain ⟨rfl, hb1, hb2, hb3⟩ := tEntry.val hb
  refine Fn.enter (fun w => Try.call53 _ w) Try.func53 rfl ?_
  refine .seq (.region ?_)
  refine .v rfl rfl (.box rfl) ?_
  rintro _ w2 ⟨rfl, N2⟩
  refine .v rfl rfl (.box rfl) ?_
  rintro _ w3 ⟨rfl, N3⟩
  have B2 := N2.blk.ext N3.ext (fun x => x)
  have B3 := N3.blk
  have X3 := N2.ext.trans N3.ext
  refine .p rfl rfl (.as rfl) ?_
  refine .nil (.code (.seq (.keep [(3, _), (2, _)] ⟨rfl, rfl, trivial⟩ (.mix (fun _ => False) [4, 9, 10, 11] (by kernel_rfl) (by kernel_rfl) (by kernel_rfl) ?_))))
  refine .p rfl rfl rfl (fun wx hx => .fieldAddr rfl rfl rfl rfl) ?_
  refine .p rfl rfl rfl (fun wx hx => .load rfl rfl rfl ((B2.ext hx (fun x => x)).cell 0)) ?_
  refine .p rfl rfl rfl (fun wx hx => .fieldAddr rfl rfl rfl rfl) ?_
  refine .p rfl rfl rfl (fun wx hx => .load rfl rfl rfl ((B3.ext hx (fun x => x)).cell 0)) ?_
  refine .call (first := []) (captured := []) rfl rfl rfl rfl rfl (strCompare_fn (a := a.key) (b := b.key)) (by rintro _ _ ⟨_, hx⟩; exact hx) ?_
  rintro _ w9 ⟨rfl, X9⟩
  refine .p rfl rfl rfl (fun wx hx => .fieldAddr rfl rfl rfl rfl) ?_
  refine .p rfl rfl rfl (fun wx hx => .load rfl rfl rfl ((B3.ext hx (fun x => x)).cell 2)) ?_
  refine .p rfl rfl rfl (fun wx hx => .fieldAddr rfl rfl rfl rfl) ?_
  refine .p rfl rfl rfl (fun wx hx => .load rfl rfl rfl ((B2.ext hx (fun x => x)).cell 2)) ?_
  refine .call (first := []) (captured := []) rfl rfl rfl rfl rfl (cmpCompare_fn (a := b.seq) (b := a.seq)) (by rintro _ _ ⟨_, hx⟩; exact X9.trans hx) ?_
  rintro _ w14 ⟨rfl, X14⟩
  refine .v rfl rfl rfl (.lits rfl rfl (fun _ => by kernel_rfl)) (by rintro _ _ ⟨_, hN⟩; exact (X9.trans X14).trans hN.ext) ?_
  rintro _ w15 ⟨rfl, N15⟩
  refine .call (first := []) (captured := []) rfl rfl rfl rfl rfl (cmpOr_fn (a := Lib.compareBytes a.key b.key) (b := cmpI b.seq a.seq) (Sl.mk (us := [i64 _, i64 _]) (each_int (l := [_, _]) (by intro x hx; simp at hx; rcases hx with rfl | rfl; have := cmpB_range a.key b.key; omega; have := cmpI_range b.seq a.seq; omega)) (by have := N15.blk.cells; exact this) trivial N15.blk.lt (by simp) (by simp [Lim]) rfl)) (by rintro _ _ ⟨_, hx⟩; exact (X9.trans (X14.trans N15.ext)).trans hx) ?_
  rintro _ w16 ⟨rfl, X16⟩
  refine .p rfl rfl rfl (fun wx hx => .lt rfl rfl) ?_
  refine .p rfl rfl rfl (fun wx hx => .as rfl) ?_
  refine .nil (.code ?_)
  refine .ret _ rfl ?_
  exact ⟨rfl, X3.trans (X9.trans (X14.trans (N15.ext.trans X16)))⟩
theorem one_fn {w : World} {v : Value} {x : Entry} (h : tEntry.rep All w v x) : Fn Try.prog 52 [v] w (fun r w2 => r = i64 (oneE x) ∧ Ext (fun _ => False) w w2) := by
  obtain ⟨rfl, h1, h2, h3⟩ := tEntry.val h
  refine Fn.enter (fun w => Try.call52 _ w) Try.func52 rfl ?_
  refine .seq (.region ?_)
  refine .v rfl rfl (.box rfl) ?_
  rintro _ w1 ⟨rfl, N1⟩
  have B1 := N1.blk
  refine .p rfl rfl (.as rfl) ?_
  refine .nil (.code (.seq (.block (.seq (.keep [(1, _)] ⟨rfl, trivial⟩ (.region ?_))))))
  refine .p rfl rfl (.fieldAddr rfl rfl rfl rfl) ?_
  refine .p rfl rfl (.load rfl rfl rfl (B1.cell 0)) ?_
  refine .p rfl rfl (.eqS rfl rfl) ?_
  refine .p rfl rfl (.mv rfl) ?_
  refine .caseD 7 rfl (fun c7 => ?_) (fun c7 => ?_)
  · refine .skip rfl rfl ?_
    refine .skip rfl rfl ?_
    refine .skip rfl rfl ?_
    refine .skip rfl rfl ?_
    refine .p rfl rfl (.pickT rfl rfl) ?_
    refine .p rfl rfl (.as rfl) ?_
    refine .nil (.code (.keep [(3, _), (1, _)] ⟨rfl, rfl, trivial⟩ (.condT rfl (.seq (.keep [] trivial (.region ?_))))))
    refine .p rfl rfl (.as rfl) ?_
    refine .nil (.code ?_)
    refine .ret _ rfl ?_
    exact ⟨by unfold oneE; rw [if_pos (.inl c7)]; rfl, N1.ext⟩
  · refine .p rfl rfl (.fieldAddr rfl rfl rfl rfl) ?_
    refine .p rfl rfl (.load rfl rfl rfl (B1.cell 0)) ?_
    refine .p rfl rfl (.lenS rfl rfl) ?_
    refine .p rfl rfl (.gt rfl rfl) ?_
    refine .p rfl rfl (.pickF rfl rfl) ?_
    refine .p rfl rfl (.as rfl) ?_
    refine .nil (.code (.keep [(3, _), (1, _)] ⟨rfl, rfl, trivial⟩ ?_))
    refine .condD rfl (fun c3 => ?_) (fun c3 => ?_)
    · refine .seq (.keep [] trivial (.region ?_))
      refine .p rfl rfl (.as rfl) ?_
      refine .nil (.code ?_)
      refine .ret _ rfl ?_
      exact ⟨by unfold oneE; rw [if_pos (.inr (by omega))]; rfl, N1.ext⟩
    · refine .seq (.keep [(1, _)] ⟨rfl, trivial⟩ (.region ?_))
      refine .p rfl rfl (.fieldAddr rfl rfl rfl rfl) ?_
      refine .p rfl rfl (.load rfl rfl rfl (B1.cell 1)) ?_
      refine .p rfl rfl (.lenS rfl rfl) ?_
      refine .p rfl rfl (.gt rfl rfl) ?_
      refine .p rfl rfl (.as rfl) ?_
      refine .nil (.code (.keep [(13, _), (1, _)] ⟨rfl, rfl, trivial⟩ ?_))
      refine .condD rfl (fun c13 => ?_) (fun c13 => ?_)
      · refine .seq (.keep [] trivial (.region ?_))
        refine .p rfl rfl (.as rfl) ?_
        refine .nil (.code ?_)
        refine .ret _ rfl ?_
        exact ⟨by unfold oneE; rw [if_neg (fun h => h.elim c7 (by omega)), if_pos (by omega)]; rfl, N1.ext⟩
      · refine .seq (.keep [(1, _)] ⟨rfl, trivial⟩ (.region ?_))
        refine .p rfl rfl (.fieldAddr rfl rfl rfl rfl) ?_
        refine .p rfl rfl (.load rfl rfl rfl (B1.cell 2)) ?_
        refine .p rfl rfl (.lt rfl rfl) ?_
        refine .p rfl rfl (.mv rfl) ?_
        refine .caseD 22 rfl (fun c22 => ?_) (fun c22 => ?_)
        · refine .skip rfl rfl ?_
          refine .skip rfl rfl ?_
          refine .skip rfl rfl ?_
          refine .p rfl rfl (.pickT rfl rfl) ?_
          refine .p rfl rfl (.as rfl) ?_
          refine .nil (.code (.keep [(18, _), (1, _)] ⟨rfl, rfl, trivial⟩ (.condT rfl (.seq (.keep [] trivial (.region ?_))))))
          refine .p rfl rfl (.as rfl) ?_
          refine .nil (.code ?_)
          refine .ret _ rfl ?_
          exact ⟨by unfold oneE; rw [if_neg (fun h => h.elim c7 (by omega)), if_neg (by omega), if_pos (by omega)]; rfl, N1.ext⟩
        · refine .p rfl rfl (.fieldAddr rfl rfl rfl rfl) ?_
          refine .p rfl rfl (.load rfl rfl rfl (B1.cell 2)) ?_
          refine .p rfl rfl (.gt rfl rfl) ?_
          refine .p rfl rfl (.pickF rfl rfl) ?_
          refine .p rfl rfl (.as rfl) ?_
          refine .nil (.code (.keep [(18, _), (1, _)] ⟨rfl, rfl, trivial⟩ ?_))
          refine .condD rfl (fun c18 => ?_) (fun c18 => ?_)
          · refine .seq (.keep [] trivial (.region ?_))
            refine .p rfl rfl (.as rfl) ?_
            refine .nil (.code ?_)
            refine .ret _ rfl ?_
            exact ⟨by unfold oneE; rw [if_neg (fun h => h.elim c7 (by omega)), if_neg (by omega), if_pos (by omega)]; rfl, N1.ext⟩
          · refine .seq (.keep [(1, _)] ⟨rfl, trivial⟩ (.region ?_))
            refine .p rfl rfl (.fieldAddr rfl rfl rfl rfl) ?_
            refine .p rfl rfl (.load rfl rfl rfl (B1.cell 3)) ?_
            refine .p rfl rfl (.mv rfl) ?_
            refine .case 30 rfl (fun c30 => ?_) (fun c30 => ?_)
            · refine .p rfl rfl (.fieldAddr rfl rfl rfl rfl) ?_
              refine .p rfl rfl (.load rfl rfl rfl (B1.cell 1)) ?_
              refine .p rfl rfl (.neS rfl rfl) ?_
              refine .p rfl rfl (.pickT rfl rfl) ?_
              refine .p rfl rfl (.as rfl) ?_
              refine .nil (.code (.keep [(27, _)] ⟨rfl, trivial⟩ ?_))
              refine .condD rfl (fun c27 => ?_) (fun c27 => ?_)
              · refine .seq (.keep [] trivial (.region ?_))
                refine .p rfl rfl (.as rfl) ?_
                refine .nil (.code ?_)
                refine .ret _ rfl ?_
                exact ⟨by unfold oneE; rw [if_neg (fun h => h.elim c7 (by omega)), if_neg (by omega), if_neg (by omega), if_pos ⟨c30, c27⟩]; rfl, N1.ext⟩
              · refine .skip (.blk (.code (.seq (.keep [] trivial (.region ?_)))))
                refine .p rfl rfl (.as rfl) ?_
                refine .nil (.code ?_)
                refine .ret _ rfl ?_
                exact ⟨by unfold oneE; rw [if_neg (fun h => h.elim c7 (by omega)), if_neg (by omega), if_neg (by omega), if_neg (fun h => c27 h.2)]; rfl, N1.ext⟩
            · refine .skip rfl rfl ?_
              refine .skip rfl rfl ?_
              refine .skip rfl rfl ?_
              refine .p rfl rfl (.pickF rfl rfl) ?_
              refine .p rfl rfl (.as rfl) ?_
              refine .nil (.code (.keep [(27, _)] ⟨rfl, trivial⟩ (.condF rfl (.skip (.blk (.code (.seq (.keep [] trivial (.region ?_)))))))))
              refine .p rfl rfl (.as rfl) ?_
              refine .nil (.code ?_)
              refine .ret _ rfl ?_
              exact ⟨by unfold oneE; rw [if_neg (fun h => h.elim c7 (by omega)), if_neg (by omega), if_neg (by omega), if_neg (by simp [c30])]; rfl, N1.ext⟩
theorem Check_fn {w : World} {v : Value} {l : List Entry} (h : (Sl tEntry).rep All w v l) : Fn Try.prog 18 [v] w (fun r w2 => r = i64 (checkE l) ∧ Ext (fun _ => False) w w2) := by
  obtain ⟨a, cap, rfl, hcap⟩ := Sl.val h
  have hlim := Sl.lim h
  simp only [Lim] at hlim
  refine Fn.enter (fun w => Try.call18 _ w) Try.func18 rfl ?_
  refine .seq (.region ?_)
  refine .p rfl rfl (.as rfl) ?_
  refine .nil (.code (.seq (.seq (.keep [(0, _)] ⟨rfl, trivial⟩ (.region ?_)))))
  refine .p rfl rfl (.mv rfl) ?_
  refine .p rfl rfl (.len rfl rfl) ?_
  refine .p rfl rfl (.gt rfl rfl) ?_
  refine .nil (.code (.keep [(8, _), (0, _)] ⟨rfl, rfl, trivial⟩ ?_))
  refine .condD rfl (fun c8 => ?_) (fun c8 => ?_)
  · refine .seq (.keep [] trivial (.region ?_))
    refine .p rfl rfl (.as rfl) ?_
    refine .nil (.code ?_)
    refine .ret _ rfl ?_
    exact ⟨by unfold checkE; rw [if_pos (by omega)]; rfl, .refl _⟩
  · refine .skip (.code (.seq (.seq (.keep [(0, _)] ⟨rfl, trivial⟩ (.region ?_)))))
    refine .p rfl rfl (.mv rfl) ?_
    refine .p rfl rfl (.len rfl rfl) ?_
    refine .p rfl rfl (.mv rfl) ?_
    refine .nil (.code (.block ?_))
    refine .loop (S := Nat × World) (fun s => [(0, .slice a l.length cap), (9, .slice a l.length cap), (10, i64 l.length), (11, i64 s.1)]) (fun s => s.2) (fun s => s.1 ≤ l.length ∧ Ext (fun _ => False) w s.2 ∧ chk none l = chk (aheadE l s.1) (l.drop s.1)) (fun s => l.length - s.1) (0, w) ⟨rfl, rfl, rfl, rfl, trivial⟩ rfl ⟨Nat.zero_le _, .refl _, rfl⟩ ?_
    rintro ⟨i, wi⟩ J ⟨hi', hX, hck⟩ again
    simp only at hi' hX hck
    change G _ [(0, .slice a l.length cap), (9, .slice a l.length cap), (10, i64 l.length), (11, i64 i)] _ _ wi
    refine .seq (.region ?_)
    refine .p rfl rfl (.lt rfl rfl) ?_
    refine .nil (.code (.seq ?_))
    refine .condD rfl (fun c12 => ?_) (fun c12 => ?_)
    · have hi : i < l.length := by omega
      obtain ⟨b0, o0, c0, ue, e, _, hcs, hre⟩ := Sl.at h (List.getElem?_eq_getElem hi)
      cases e
      obtain ⟨rfl, h1, h2, h3⟩ := tEntry.val hre
      have hstep := chk_step hi
      refine .skip (.code (.seq (.block (.seq (.keep [(0, _), (9, _), (10, _), (11, _)] ⟨rfl, rfl, rfl, rfl, trivial⟩ (.region ?_))))))
      refine .p rfl rfl (.mv rfl) ?_
      refine .p rfl rfl (.indexAddr (s := 4) rfl rfl rfl rfl (by omega)) ?_
      refine .p rfl rfl (.loadA (n := 4) rfl rfl rfl rfl rfl (hcs.ext hX (fun x => x))) ?_
      refine .v rfl rfl (.alloc rfl rfl) ?_
      rintro _ w4 ⟨rfl, N4⟩
      refine .p rfl rfl (.as rfl) ?_
      refine .s rfl (.storeAll (n := 4) rfl rfl rfl rfl rfl N4.blk rfl) ?_
      intro w5 P5
      have X5 := N4.ext.then P5.ext (by rintro k rfl _; exact Nat.le_refl _)
      refine .nil (.code (.seq (.seq (.keep [(3, _), (4, _), (0, _), (9, _), (10, _), (11, _)] ⟨rfl, rfl, rfl, rfl, rfl, rfl, trivial⟩ (.region ?_)))))
      refine .p rfl rfl (.loadA (n := 4) rfl rfl rfl rfl rfl P5.blk.cells) ?_
      refine .call (first := []) (captured := []) rfl rfl rfl rfl (one_fn (x := l[i]) (tEntry.mk h1 h2 h3)) ?_
      rintro _ w17 ⟨rfl, X17⟩
      refine .p rfl rfl (.as rfl) ?_
      refine .nil (.code (.seq (.keep [(5, _), (3, _), (4, _), (0, _), (9, _), (10, _), (11, _)] ⟨rfl, rfl, rfl, rfl, rfl, rfl, rfl, trivial⟩ (.region ?_))))
      refine .p rfl rfl (.mv rfl) ?_
      refine .p rfl rfl (.ne rfl rfl) ?_
      refine .nil (.code (.keep [(19, _), (5, _), (3, _), (4, _), (0, _), (9, _), (10, _), (11, _)] ⟨rfl, rfl, rfl, rfl, rfl, rfl, rfl, rfl, trivial⟩ ?_))
      refine .condD rfl (fun c19 => ?_) (fun c19 => ?_)
      · refine .seq (.keep [(5, _)] ⟨rfl, trivial⟩ (.region ?_))
        refine .p rfl rfl (.mv rfl) ?_
        refine .p rfl rfl (.as rfl) ?_
        refine .nil (.code ?_)
        refine .ret _ rfl ?_
        exact ⟨by unfold checkE; rw [if_neg (by omega), hck, hstep, if_pos c19]; rfl, hX.trans (X5.trans X17)⟩
      · refine .skip (.code (.seq (.keep [(3, _), (4, _), (0, _), (9, _), (10, _), (11, _)] ⟨rfl, rfl, rfl, rfl, rfl, rfl, trivial⟩ (.mix (fun _ => False) [9] (by kernel_rfl) (by kernel_rfl) (by kernel_rfl) ?_))))
        refine .p rfl rfl rfl (fun wx hx => .mv rfl) ?_
        refine .p rfl rfl rfl (fun wx hx => .gt rfl rfl) ?_
        refine .p rfl rfl rfl (fun wx hx => .mv rfl) ?_
        refine .caseD 23 rfl (fun c23 => ?_) (fun c23 => ?_)
        · obtain ⟨j, rfl⟩ : ∃ j, i = j + 1 := ⟨i - 1, by omega⟩
          obtain ⟨b9, o9, c9, ue9, e9, _, hcp, hrp⟩ := Sl.at h (List.getElem?_eq_getElem (show j < l.length by omega))
          cases e9
          obtain ⟨rfl, g1, g2, g3⟩ := tEntry.val hrp
          have e26 : (((j + 1 : Nat) : Int) - 1).toNat = j := by omega
          have hah : aheadE l (j + 1) = some l[j] := List.getElem?_eq_getElem (show j < l.length by omega)
          refine .p rfl rfl rfl (fun wx hx => .mv rfl) ?_
          refine .p rfl rfl rfl (fun wx hx => .mv rfl) ?_
          refine .p rfl rfl rfl (fun wx hx => .sub rfl rfl (by omega)) ?_
          refine .p rfl rfl rfl (fun wx hx => .cast (.indexAddr (s := 4) rfl rfl rfl rfl (by omega)) (show _ = Value.pointer (some ⟨b0, o0 + j * 4, none⟩) by rw [e26])) ?_
          refine .p rfl rfl rfl (fun wx hx => .loadA (n := 4) rfl rfl rfl rfl rfl ((hcp.ext (hX.trans (X5.trans X17)) (fun x => x)).ext hx (fun x => x))) ?_
          refine .p rfl rfl rfl (fun wx hx => .loadA (n := 4) rfl rfl rfl rfl rfl ((P5.blk.ext X17 (fun x => x)).ext hx (fun x => x)).cells) ?_
          refine .call (first := []) (captured := []) rfl rfl rfl rfl rfl (Less_fn (a := l[j]) (b := l[j + 1]) (tEntry.mk g1 g2 g3) (tEntry.mk h1 h2 h3)) (by rintro _ _ ⟨_, hx⟩; exact hx) ?_
          rintro _ w30 ⟨rfl, X30⟩
          refine .p rfl rfl rfl (fun wx hx => .not rfl) ?_
          refine .p rfl rfl rfl (fun wx hx => .pickT rfl rfl) ?_
          refine .nil (.code (.keep [(32, _), (0, _), (9, _), (10, _), (11, _)] ⟨rfl, rfl, rfl, rfl, rfl, trivial⟩ ?_))
          refine .cond rfl (fun c32 => ?_) (fun c32 => ?_)
          · refine .seq (.keep [] trivial (.region ?_))
            refine .p rfl rfl (.as rfl) ?_
            refine .nil (.code ?_)
            refine .ret _ rfl ?_
            exact ⟨by unfold checkE; rw [if_neg (by omega), hck, hstep, if_neg (by simp [Decidable.not_not.1 c19]), hah, if_pos (by simp [ahd]; simp_all)]; rfl, hX.trans (X5.trans (X17.trans X30))⟩
          · refine .skip (.blk (.code (.keep [(0, _), (9, _), (10, _), (11, _)] ⟨rfl, rfl, rfl, rfl, trivial⟩ (.region ?_))))
            refine .p rfl rfl (.add rfl rfl (by omega)) ?_
            refine .p rfl rfl (.mv rfl) ?_
            refine .nil ?_
            exact (again (j + 1 + 1, w30) ⟨by show j + 1 + 1 ≤ _; omega, hX.trans (X5.trans (X17.trans X30)), by show chk none l = chk (aheadE l (j + 1 + 1)) (l.drop (j + 1 + 1)); rw [hck, hstep, if_neg (by simp [Decidable.not_not.1 c19]), hah, if_neg (by simp [ahd]; simp_all)]⟩ (by show _ - (j + 1 + 1) < _ - (j + 1); omega)).of ⟨rfl, rfl, rfl, rfl, trivial⟩
        · obtain rfl : i = 0 := by omega
          refine .skip rfl rfl ?_
          refine .skip rfl rfl ?_
          refine .skip rfl rfl ?_
          refine .skip rfl rfl ?_
          refine .skip rfl rfl ?_
          refine .skip rfl rfl ?_
          refine .skip rfl rfl ?_
          refine .skip rfl rfl ?_
          refine .p rfl rfl rfl (fun wx hx => .pickF rfl rfl) ?_
          refine .nil (.code (.keep [(32, _), (0, _), (9, _), (10, _), (11, _)] ⟨rfl, rfl, rfl, rfl, rfl, trivial⟩ (.condF rfl (.skip (.blk (.code (.keep [(0, _), (9, _), (10, _), (11, _)] ⟨rfl, rfl, rfl, rfl, trivial⟩ (.region ?_))))))))
          refine .p rfl rfl (.add rfl rfl (by omega)) ?_
          refine .p rfl rfl (.mv rfl) ?_
          refine .nil ?_
          exact (again (0 + 1, w17) ⟨by show 0 + 1 ≤ _; omega, hX.trans (X5.trans X17), by show chk none l = chk (aheadE l (0 + 1)) (l.drop (0 + 1)); rw [hck, hstep, if_neg (by simp [Decidable.not_not.1 c19]), if_neg (by simp [aheadE, ahd])]⟩ (by show _ - (0 + 1) < _ - 0; omega)).of ⟨rfl, rfl, rfl, rfl, trivial⟩
    · obtain rfl : i = l.length := by omega
      refine .exit rfl (.code (.seq (.keep [] trivial (.region ?_))))
      refine .p rfl rfl (.as rfl) ?_
      refine .nil (.code ?_)
      refine .ret _ rfl ?_
      exact ⟨by unfold checkE; rw [if_neg (by omega), hck, List.drop_length, chk]; rfl, hX⟩
end Go.Proofs.Ythkgadhamecnlaa
