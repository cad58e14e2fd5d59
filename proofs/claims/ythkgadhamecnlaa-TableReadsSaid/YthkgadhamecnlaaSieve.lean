
/-
  Layer 7: the walks of package sieve.
-/
import Derived.Test.YthkgadhamecnlaaSieveDef
set_option linter.unusedVariables false
set_option maxRecDepth 20000
namespace Go.Proofs.Ythkgadhamecnlaa
open Go sieve

theorem marks_u32 (h g : UInt32) (i : Nat) : h + UInt32.ofNat i * g + g = h + UInt32.ofNat (i + 1) * g := by
  rw [UInt32.ofNat_add, UInt32.add_mul]
  simp [UInt32.add_assoc]
theorem Marks_fn {w : World} {key : Bs} {many : Int} (hk : key.length < Lim) : Fn Try.prog 64 [str key, i64 many] w (fun r w2 => ∃ s, r = .tuple #[s, i64 (marksF key many).2] ∧ tInts.rep (fun k => w.heap.size ≤ k) w2 s (marksF key many).1 ∧ Ext (fun _ => False) w w2) := by
  simp only [Lim] at hk
  refine Fn.enter (fun w => Try.call64 _ w) Try.func64 rfl ?_
  refine .seq (.region ?_)
  refine .p rfl rfl (.as rfl) ?_
  refine .p rfl rfl (.as rfl) ?_
  refine .nil (.code (.seq (.seq (.keep [(0, _), (1, _)] ⟨rfl, rfl, trivial⟩ (.region ?_)))))
  refine .p rfl rfl (.mv rfl) ?_
  refine .p rfl rfl (.lenS rfl rfl) ?_
  refine .p rfl rfl (.gt rfl rfl) ?_
  refine .nil (.code (.keep [(12, _), (0, _), (1, _)] ⟨rfl, rfl, rfl, trivial⟩ ?_))
  refine .condD rfl (fun c12 => ?_) (fun c12 => ?_)
  · refine .seq (.keep [] trivial (.region ?_))
    refine .p rfl rfl (.as rfl) ?_
    refine .p rfl rfl (.as rfl) ?_
    refine .nil (.code ?_)
    refine .ret _ rfl ?_
    have e : marksF key many = ([], 3) := by unfold marksF; rw [if_pos (by omega)]
    rw [e]
    exact ⟨_, rfl, Sl.nil, .refl _⟩
  · refine .skip (.code (.seq (.seq (.keep [(0, _), (1, _)] ⟨rfl, rfl, trivial⟩ (.region ?_)))))
    refine .p rfl rfl (.mv rfl) ?_
    refine .p rfl rfl (.lt rfl rfl) ?_
    refine .p rfl rfl (.mv rfl) ?_
    refine .caseD 15 rfl (fun c15 => ?_) (fun c15 => ?_)
    · refine .skip rfl rfl ?_
      refine .skip rfl rfl ?_
      refine .p rfl rfl (.pickT rfl rfl) ?_
      refine .nil (.code (.keep [(18, _), (0, _), (1, _)] ⟨rfl, rfl, rfl, trivial⟩ (.condT rfl (.seq (.keep [] trivial (.region ?_))))))
      refine .p rfl rfl (.as rfl) ?_
      refine .p rfl rfl (.as rfl) ?_
      refine .nil (.code ?_)
      refine .ret _ rfl ?_
      have e : marksF key many = ([], 2) := by unfold marksF; rw [if_neg (by omega), if_pos (by omega)]
      rw [e]
      exact ⟨_, rfl, Sl.nil, .refl _⟩
    · refine .p rfl rfl (.mv rfl) ?_
      refine .p rfl rfl (.gt rfl rfl) ?_
      refine .p rfl rfl (.pickF rfl rfl) ?_
      refine .nil (.code (.keep [(18, _), (0, _), (1, _)] ⟨rfl, rfl, rfl, trivial⟩ ?_))
      refine .condD rfl (fun c18 => ?_) (fun c18 => ?_)
      · refine .seq (.keep [] trivial (.region ?_))
        refine .p rfl rfl (.as rfl) ?_
        refine .p rfl rfl (.as rfl) ?_
        refine .nil (.code ?_)
        refine .ret _ rfl ?_
        have e : marksF key many = ([], 2) := by unfold marksF; rw [if_neg (by omega), if_pos (by omega)]
        rw [e]
        exact ⟨_, rfl, Sl.nil, .refl _⟩
      · refine .skip (.code (.seq (.keep [(0, _), (1, _)] ⟨rfl, rfl, trivial⟩ (.region ?_))))
        refine .p rfl rfl (.mv rfl) ?_
        refine .v rfl rfl (.strBytes rfl rfl rfl rfl) ?_
        rintro _ w20 ⟨cap20, cs20, rfl, hc20, _, hs20, N20⟩
        have R20 := strBytes_rep (hk) hc20 hs20 N20
        refine .call (first := []) (captured := []) rfl rfl rfl rfl (Sum_fn (allOf R20)) ?_
        rintro _ w21 ⟨rfl, X21⟩
        refine .p rfl rfl (.mv rfl) ?_
        refine .p rfl rfl (.addS rfl rfl (by simp; omega)) ?_
        refine .v rfl rfl (.strBytes rfl rfl rfl rfl) ?_
        rintro _ w24 ⟨cap24, cs24, rfl, hc24, _, hs24, N24⟩
        have R24 := strBytes_rep (by simp only [Lim, List.length_append, List.length_cons, List.length_nil]; omega) hc24 hs24 N24
        refine .call (first := []) (captured := []) rfl rfl rfl rfl (Sum_fn (allOf R24)) ?_
        rintro _ w25 ⟨rfl, X25⟩
        refine .p rfl rfl (.or32 (b := 1) rfl rfl) ?_
        refine .p rfl rfl (.as rfl) ?_
        refine .p rfl rfl (.as rfl) ?_
        refine .nil (.code (.seq (.keep [(7, _), (6, _), (1, _)] ⟨rfl, rfl, rfl, trivial⟩ (.region ?_))))
        refine .v rfl rfl (.make (eb := 8) rfl rfl rfl rfl rfl rfl rfl rfl (by omega)) ?_
        rintro _ w27 ⟨rfl, N27⟩
        have X27 := N20.ext.trans (X21.trans (N24.ext.trans (X25.trans N27.ext)))
        have hlt := N24.ext.size
        have hm1 : 1 ≤ (UInt32.ofNat many.toNat).toNat := by simp; omega
        refine .p rfl rfl (.as rfl) ?_
        refine .nil (.code (.seq (.seq (.keep [(8, _), (7, _), (6, _), (1, _)] ⟨rfl, rfl, rfl, rfl, trivial⟩ (.region ?_)))))
        refine .p rfl rfl (.mv rfl) ?_
        refine .p rfl rfl (.len rfl rfl) ?_
        refine .p rfl rfl (.mv rfl) ?_
        refine .nil (.code (.block (.keep [(30, _), (29, _), (8, _), (7, _), (6, _), (1, _)] ⟨rfl, rfl, rfl, rfl, rfl, rfl, trivial⟩ ?_)))
        have h0 : u32 (crc key) = u32 (hOf key + UInt32.ofNat 0 * gOf key) := by simp [hOf]
        rw [h0]
        refine .loop (S := Nat × World) (fun s => [(8, .slice (some ⟨w25.heap.size, 0, none⟩) 4 4), (29, i64 4), (30, i64 s.1), (6, u32 (hOf key + UInt32.ofNat s.1 * gOf key)), (7, u32 (gOf key)), (1, i64 many)]) (fun s => s.2) (fun s => s.1 ≤ 4 ∧ Blk s.2 w25.heap.size 3 ((List.range s.1).map (fun i => i64 (markN (hOf key) (gOf key) many.toNat i)) ++ List.replicate (4 - s.1) (i64 0)) ∧ Ext (· = w25.heap.size) w27 s.2) (fun s => 4 - s.1) (0, w27) ⟨rfl, rfl, rfl, rfl, rfl, rfl, trivial⟩ rfl ⟨Nat.zero_le _, N27.blk, .refl _⟩ ?_
        rintro ⟨i, w28⟩ J ⟨hi, hB, hX⟩ again
        simp only at hi hB hX
        refine .seq (.region ?_)
        refine .p rfl rfl (.lt rfl rfl) ?_
        refine .nil (.code (.seq ?_))
        refine .condD rfl (fun c31 => ?_) (fun c31 => ?_)
        · refine .skip (.code (.seq (.block (.seq (.keep [(8, _), (29, _), (30, _), (6, _), (7, _), (1, _)] ⟨rfl, rfl, rfl, rfl, rfl, rfl, trivial⟩ (.region ?_))))))
          refine .p rfl rfl (.mv rfl) ?_
          refine .p rfl rfl (.as rfl) ?_
          refine .nil (.code (.seq (.keep [(9, _), (8, _), (29, _), (30, _), (6, _), (7, _), (1, _)] ⟨rfl, rfl, rfl, rfl, rfl, rfl, rfl, trivial⟩ (.region ?_))))
          refine .p rfl rfl (.mv rfl) ?_
          refine .p rfl rfl (.mv rfl) ?_
          refine .p rfl rfl (.mv rfl) ?_
          refine .p rfl rfl (.mv rfl) ?_
          refine .p rfl rfl (.convi_32 rfl rfl rfl (by omega)) ?_
          refine .p rfl rfl (.rem32 rfl rfl hm1) ?_
          refine .p rfl rfl (.conv32_i rfl rfl rfl) ?_
          refine .p rfl rfl (.indexAddr0 rfl rfl rfl rfl (by omega)) ?_
          refine .s rfl (.store rfl rfl rfl rfl rfl hB (by simp; omega)) ?_
          intro w40 P40
          have hB' := P40.blk
          refine .nil (.code (.keep [(8, _), (29, _), (30, _), (6, _), (7, _), (1, _)] ⟨rfl, rfl, rfl, rfl, rfl, rfl, trivial⟩ (.region ?_)))
          refine .p rfl rfl (.mv rfl) ?_
          refine .p rfl rfl (.mv rfl) ?_
          refine .p rfl rfl (.add32 rfl rfl) ?_
          refine .p rfl rfl (.as rfl) ?_
          refine .nil (.blk (.code (.keep [(6, _), (8, _), (29, _), (30, _), (7, _), (1, _)] ⟨rfl, rfl, rfl, rfl, rfl, rfl, trivial⟩ (.region ?_))))
          refine .p rfl rfl (.add rfl rfl (by omega)) ?_
          refine .p rfl rfl (.mv rfl) ?_
          refine .nil ?_
          have hset := fill_set (fun i => i64 (markN (hOf key) (gOf key) many.toNat i)) (i64 0) 4 i (by omega)
          refine (again (i + 1, w40) ⟨by show i + 1 ≤ 4; omega, by show Blk w40 _ _ _; rw [← hset]; exact hB', hX.trans P40.ext⟩ (by show 4 - (i + 1) < 4 - i; omega)).of ⟨rfl, rfl, rfl, ?_, rfl, rfl, trivial⟩
          rw [← marks_u32]; rfl
        · refine .exit rfl (.code (.seq (.keep [(8, _)] ⟨rfl, trivial⟩ (.region ?_))))
          refine .p rfl rfl (.mv rfl) ?_
          refine .p rfl rfl (.as rfl) ?_
          refine .p rfl rfl (.as rfl) ?_
          refine .nil (.code ?_)
          refine .ret _ rfl ?_
          have e : marksF key many = (marksL key many.toNat, 0) := by unfold marksF; rw [if_neg (by omega), if_neg (by omega)]
          rw [e]
          obtain rfl : i = 4 := by omega
          refine ⟨_, rfl, ?_, X27.then hX (by intro k hk _; have := N20.ext.size; have := X21.size; have := X25.size; omega)⟩
          have hlen := marksL_length key many.toNat
          have h1 := N20.ext.size
          have h2 := X21.size
          have h3 := X25.size
          refine Sl.mkInts hB (by show List.take (marksL key many.toNat).length _ = _; rw [hlen]; rfl) (fun x hx => ?_) (by show w.heap.size ≤ w25.heap.size; omega) (by show (marksL key many.toNat).length ≤ 4; omega) (by show (marksL key many.toNat).length < Lim; rw [hlen]; decide) hlen.symm
          have := marksL_bd (key := key) (m := many.toNat) (by omega) (by omega) x hx
          omega
theorem index_some {p : Bs → Bool} {xs : List Bs} {k : Nat} (hk : k < xs.length) (hall : ∀ j (h : j < xs.length), j < k → p xs[j] = false) (hp : p xs[k] = true) : xs.findIdx? p = some k := by
  rw [List.findIdx?_eq_some_iff_getElem]
  exact ⟨hk, hp, fun j hj => by simp [hall j (by omega) hj]⟩
theorem index_none {p : Bs → Bool} {xs : List Bs} (hall : ∀ j (h : j < xs.length), p xs[j] = false) : xs.findIdx? p = none := by
  rw [List.findIdx?_eq_none_iff]
  intro x hx
  obtain ⟨j, hj, rfl⟩ := List.mem_iff_getElem.1 hx
  exact hall j hj
theorem snoc_all {n k : Nat} (q : (j : Nat) → j < n → Prop) (h : ∀ j (hj : j < n), j < k → q j hj) (hk : ∀ hk : k < n, q k hk) : ∀ j (hj : j < n), j < k + 1 → q j hj := by
  intro j hj hlt
  rcases Nat.lt_or_ge j k with h1 | h1
  · exact h j hj h1
  · obtain rfl : j = k := by omega
    exact hk hj
def idxOf (p : Bs → Bool) (xs : List Bs) : Int := match xs.findIdx? p with | some k => (k : Int) | none => -1
theorem SieveIndexFunc_fn {w : World} {v : Value} {xs : List Bs} {f : FuncId} {p : Bs → Bool} (h : tStrs.rep All w v xs) (hf : ∀ w x, Fn Try.prog f [str x] w (fun r w2 => r = .bool (p x) ∧ Same w w2)) : Fn Try.prog 87 [v, .func (.func f) #[] #[]] w (fun r w2 => r = i64 (idxOf p xs) ∧ Same w w2) := by
  obtain ⟨a, cap, rfl, hcap⟩ := Sl.val h
  have hlim := Sl.lim h
  simp only [Lim] at hlim
  refine Fn.enter (fun w => Try.call87 _ w) Try.func87 rfl ?_
  refine .seq (.region ?_)
  refine .p rfl rfl (.as rfl) ?_
  refine .nil (.code (.seq (.seq (.keep [(0, _), (1, _)] ⟨rfl, rfl, trivial⟩ (.region ?_)))))
  refine .p rfl rfl (.mv rfl) ?_
  refine .p rfl rfl (.len rfl rfl) ?_
  refine .p rfl rfl (.mv rfl) ?_
  refine .nil (.code (.block (.keep [(8, _), (7, _), (0, _), (1, _)] ⟨rfl, rfl, rfl, rfl, trivial⟩ ?_)))
  refine .loop (S := Nat × World) (fun s => [(7, i64 xs.length), (8, i64 s.1), (0, .slice a xs.length cap), (1, .func (.func f) #[] #[])]) (fun s => s.2) (fun s => s.1 ≤ xs.length ∧ (∀ j (h : j < xs.length), j < s.1 → p xs[j] = false) ∧ Same w s.2) (fun s => xs.length - s.1) (0, w) ⟨rfl, rfl, rfl, rfl, trivial⟩ rfl ⟨Nat.zero_le _, fun j h hj => absurd hj (Nat.not_lt_zero _), .refl w⟩ ?_
  rintro ⟨k, wk⟩ J ⟨hk', hall, hS⟩ again
  simp only at hk' hall hS
  refine .seq (.region ?_)
  refine .p rfl rfl (.lt rfl rfl) ?_
  refine .nil (.code (.seq ?_))
  refine .condD rfl (fun c9 => ?_) (fun c9 => ?_)
  · have hk : k < xs.length := by omega
    obtain ⟨b, o, rfl, _, hc, _⟩ := Sl.strAt h hk
    have X : Ext (fun _ => False) w wk := .same hS
    refine .skip (.code (.seq (.block (.seq (.keep [(7, _), (8, _), (0, _), (1, _)] ⟨rfl, rfl, rfl, rfl, trivial⟩ (.region ?_))))))
    refine .p rfl rfl (.mv rfl) ?_
    refine .p rfl rfl (.as rfl) ?_
    refine .nil (.code (.seq (.keep [(5, _), (7, _), (8, _), (0, _), (1, _)] ⟨rfl, rfl, rfl, rfl, rfl, trivial⟩ (.region ?_))))
    refine .p rfl rfl (.mv rfl) ?_
    refine .p rfl rfl (.mv rfl) ?_
    refine .p rfl rfl (.mv rfl) ?_
    refine .p rfl rfl (.indexAddr1 rfl rfl rfl rfl (by omega)) ?_
    refine .p rfl rfl (.load rfl rfl rfl (X.cell hc (fun x => x))) ?_
    refine .call (first := []) (captured := []) rfl rfl rfl rfl (hf _ _) ?_
    rintro _ w16 ⟨rfl, S16⟩
    refine .nil (.code (.keep [(16, _), (5, _), (7, _), (8, _), (0, _), (1, _)] ⟨rfl, rfl, rfl, rfl, rfl, rfl, trivial⟩ ?_))
    refine .cond rfl (fun c16 => ?_) (fun c16 => ?_)
    · refine .seq (.keep [(5, _)] ⟨rfl, trivial⟩ (.region ?_))
      refine .p rfl rfl (.mv rfl) ?_
      refine .p rfl rfl (.as rfl) ?_
      refine .nil (.code ?_)
      refine .ret _ rfl ?_
      exact ⟨by unfold idxOf; rw [index_some hk hall c16]; rfl, hS.trans S16⟩
    · refine .skip (.blk (.code (.keep [(7, _), (8, _), (0, _), (1, _)] ⟨rfl, rfl, rfl, rfl, trivial⟩ (.region ?_))))
      refine .p rfl rfl (.add rfl rfl (by omega)) ?_
      refine .p rfl rfl (.mv rfl) ?_
      refine .nil ?_
      exact (again (k + 1, w16) ⟨by show k + 1 ≤ _; omega, snoc_all (fun j h => p xs[j] = false) hall (fun _ => c16), hS.trans S16⟩ (by show _ - (k + 1) < _; omega)).of ⟨rfl, rfl, rfl, rfl, trivial⟩
  · refine .exit rfl (.code (.seq (.keep [] trivial (.region ?_))))
    refine .p rfl rfl (.as rfl) ?_
    refine .nil (.code ?_)
    refine .ret _ rfl ?_
    exact ⟨by unfold idxOf; rw [index_none (fun j h => hall j h (by show j < k; have : ¬ (k : Int) < xs.length := c9; omega))]; rfl, hS⟩
theorem ContainsFunc_fn {w : World} {v : Value} {xs : List Bs} {f : FuncId} {p : Bs → Bool} (h : tStrs.rep All w v xs) (hf : ∀ w x, Fn Try.prog f [str x] w (fun r w2 => r = .bool (p x) ∧ Same w w2)) : Fn Try.prog 62 [v, .func (.func f) #[] #[]] w (fun r w2 => r = .bool (xs.any p) ∧ Same w w2) := by
  refine Fn.enter (fun w => Try.call62 _ w) Try.func62 rfl ?_
  refine .seq (.region ?_)
  refine .p rfl rfl (.as rfl) ?_
  refine .nil (.code (.seq (.keep [(0, _), (1, _)] ⟨rfl, rfl, trivial⟩ (.region ?_))))
  refine .p rfl rfl (.mv rfl) ?_
  refine .p rfl rfl (.mv rfl) ?_
  refine .call (first := []) (captured := []) rfl rfl rfl rfl (SieveIndexFunc_fn h hf) ?_
  rintro _ w7 ⟨rfl, S7⟩
  refine .p rfl rfl (.ge rfl rfl) ?_
  refine .p rfl rfl (.as rfl) ?_
  refine .nil (.code ?_)
  refine .ret _ rfl ?_
  refine ⟨?_, S7⟩
  show Value.bool _ = _
  congr 1
  unfold idxOf
  cases hi : xs.findIdx? p with
  | none =>
    rw [List.findIdx?_eq_none_iff] at hi
    symm
    simp only [Int.reduceNeg, Int.reduceLE, decide_false]
    rw [List.any_eq_false]
    intro x hx; simp [hi x hx]
  | some k =>
    obtain ⟨hk, hp, _⟩ := List.findIdx?_eq_some_iff_getElem.1 hi
    symm
    rw [List.any_eq_true.2 ⟨_, List.getElem_mem hk, hp⟩]
    simp
theorem MakeLit_fn {w : World} {x : Bs} : Fn Try.prog 63 [str x] w (fun r w2 => r = .bool (decide (256 < x.length)) ∧ Same w w2) := by
  refine Fn.enter (fun w => Try.call63 _ w) Try.func63 rfl ?_
  refine .seq (.region ?_)
  refine .p rfl rfl (.as rfl) ?_
  refine .nil (.code (.seq (.keep [(0, _)] ⟨rfl, trivial⟩ (.region ?_))))
  refine .p rfl rfl (.mv rfl) ?_
  refine .p rfl rfl (.lenS rfl rfl) ?_
  refine .p rfl rfl (.gt rfl rfl) ?_
  refine .p rfl rfl (.as rfl) ?_
  refine .nil (.code ?_)
  refine .ret _ rfl ?_
  exact ⟨by show Value.bool _ = _; congr 1; rw [decide_eq_decide]; omega, .refl w⟩
theorem SieveMake_fn {w : World} {v : Value} {keys : List Bs} {many : Int} (h : tStrs.rep All w v keys) : Fn Try.prog 33 [v, i64 many] w (fun r w2 => ∃ s, r = .tuple #[s, i64 (makeF keys many).2] ∧ tBytes.rep (fun k => w.heap.size ≤ k) w2 s (makeF keys many).1 ∧ Ext (fun _ => False) w w2) := by
  obtain ⟨a, cap, rfl, hcap⟩ := Sl.val h
  have hlim := Sl.lim h
  simp only [Lim] at hlim
  refine Fn.enter (fun w => Try.call33 _ w) Try.func33 rfl ?_
  refine .seq (.region ?_)
  refine .p rfl rfl (.as rfl) ?_
  refine .p rfl rfl (.as rfl) ?_
  refine .nil (.code (.seq (.seq (.keep [(0, _), (1, _)] ⟨rfl, rfl, trivial⟩ (.region ?_)))))
  refine .p rfl rfl (.mv rfl) ?_
  refine .p rfl rfl (.len rfl rfl) ?_
  refine .p rfl rfl (.gt rfl rfl) ?_
  refine .nil (.code (.keep [(15, _), (0, _), (1, _)] ⟨rfl, rfl, rfl, trivial⟩ ?_))
  refine .condD rfl (fun c15 => ?_) (fun c15 => ?_)
  · refine .seq (.keep [] trivial (.region ?_))
    refine .p rfl rfl (.as rfl) ?_
    refine .p rfl rfl (.as rfl) ?_
    refine .nil (.code ?_)
    refine .ret _ rfl ?_
    have e : makeF keys many = ([], 4) := by unfold makeF; rw [if_pos (by omega)]
    rw [e]
    exact ⟨_, rfl, Sl.nil, .refl _⟩
  · refine .skip (.code (.seq (.seq (.keep [(0, _), (1, _)] ⟨rfl, rfl, trivial⟩ (.region ?_)))))
    refine .p rfl rfl (.mv rfl) ?_
    refine .call (first := []) (captured := []) rfl rfl rfl rfl (ContainsFunc_fn h (fun w x => MakeLit_fn)) ?_
    rintro _ w17 ⟨rfl, S17⟩
    refine .nil (.code (.keep [(17, _), (0, _), (1, _)] ⟨rfl, rfl, rfl, trivial⟩ ?_))
    refine .cond rfl (fun c17 => ?_) (fun c17 => ?_)
    · refine .seq (.keep [] trivial (.region ?_))
      refine .p rfl rfl (.as rfl) ?_
      refine .p rfl rfl (.as rfl) ?_
      refine .nil (.code ?_)
      refine .ret _ rfl ?_
      have e : makeF keys many = ([], 3) := by unfold makeF; rw [if_neg (by omega), if_pos c17]
      rw [e]
      exact ⟨_, rfl, Sl.nil, .same S17⟩
    · refine .skip (.code (.seq (.seq (.keep [(0, _), (1, _)] ⟨rfl, rfl, trivial⟩ (.region ?_)))))
      refine .p rfl rfl (.mv rfl) ?_
      refine .p rfl rfl (.lt rfl rfl) ?_
      refine .p rfl rfl (.mv rfl) ?_
      refine .caseD 20 rfl (fun c20 => ?_) (fun c20 => ?_)
      · refine .skip rfl rfl ?_
        refine .skip rfl rfl ?_
        refine .p rfl rfl (.pickT rfl rfl) ?_
        refine .p rfl rfl (.mv rfl) ?_
        refine .skip rfl rfl ?_
        refine .skip rfl rfl ?_
        refine .skip rfl rfl ?_
        refine .p rfl rfl (.pickT rfl rfl) ?_
        refine .nil (.code (.keep [(28, _), (0, _), (1, _)] ⟨rfl, rfl, rfl, trivial⟩ (.condT rfl (.seq (.keep [] trivial (.region ?_))))))
        refine .p rfl rfl (.as rfl) ?_
        refine .p rfl rfl (.as rfl) ?_
        refine .nil (.code ?_)
        refine .ret _ rfl ?_
        have e : makeF keys many = ([], 2) := by unfold makeF; rw [if_neg (by omega), if_neg (by rw [c17]; simp), if_pos (by omega)]
        rw [e]
        exact ⟨_, rfl, Sl.nil, .same S17⟩
      · refine .p rfl rfl (.mv rfl) ?_
        refine .p rfl rfl (.gt rfl rfl) ?_
        refine .p rfl rfl (.pickF rfl rfl) ?_
        refine .p rfl rfl (.mv rfl) ?_
        refine .caseD 24 rfl (fun c24 => ?_) (fun c24 => ?_)
        · refine .skip rfl rfl ?_
          refine .skip rfl rfl ?_
          refine .skip rfl rfl ?_
          refine .p rfl rfl (.pickT rfl rfl) ?_
          refine .nil (.code (.keep [(28, _), (0, _), (1, _)] ⟨rfl, rfl, rfl, trivial⟩ (.condT rfl (.seq (.keep [] trivial (.region ?_))))))
          refine .p rfl rfl (.as rfl) ?_
          refine .p rfl rfl (.as rfl) ?_
          refine .nil (.code ?_)
          refine .ret _ rfl ?_
          have e : makeF keys many = ([], 2) := by unfold makeF; rw [if_neg (by omega), if_neg (by rw [c17]; simp), if_pos (by omega)]
          rw [e]
          exact ⟨_, rfl, Sl.nil, .same S17⟩
        · refine .p rfl rfl (.mv rfl) ?_
          refine .p rfl rfl (.maskC 3 7 8 rfl rfl (by omega) (by omega) rfl rfl) ?_
          refine .p rfl rfl (.ne rfl rfl) ?_
          refine .p rfl rfl (.pickF rfl rfl) ?_
          refine .nil (.code (.keep [(28, _), (0, _), (1, _)] ⟨rfl, rfl, rfl, trivial⟩ ?_))
          refine .condD rfl (fun c28 => ?_) (fun c28 => ?_)
          · refine .seq (.keep [] trivial (.region ?_))
            refine .p rfl rfl (.as rfl) ?_
            refine .p rfl rfl (.as rfl) ?_
            refine .nil (.code ?_)
            refine .ret _ rfl ?_
            have e : makeF keys many = ([], 2) := by unfold makeF; rw [if_neg (by omega), if_neg (by rw [c17]; simp), if_pos (by omega)]
            rw [e]
            exact ⟨_, rfl, Sl.nil, .same S17⟩
          · have hmany : 0 ≤ many := by omega
            obtain ⟨m, rfl⟩ := Int.eq_ofNat_of_zero_le hmany
            have hm8 : m % 8 = 0 := by omega
            refine .skip (.code (.seq (.keep [(0, _), (1, _)] ⟨rfl, rfl, trivial⟩ (.region ?_))))
            refine .p rfl rfl (.mv rfl) ?_
            refine .p rfl rfl (.quo rfl rfl (by omega)) ?_
            refine .v rfl rfl (.make (eb := 1) rfl rfl rfl rfl rfl rfl rfl rfl (by omega)) ?_
            rintro _ w31 ⟨rfl, N31⟩
            have X31 := (Ext.same S17).trans N31.ext
            have hz17 : w17.heap.size = w.heap.size := by rw [S17.heap]
            refine .p rfl rfl (.as rfl) ?_
            refine .nil (.code (.seq (.seq (.keep [(6, _), (0, _), (1, _)] ⟨rfl, rfl, rfl, trivial⟩ (.region ?_)))))
            refine .p rfl rfl (.mv rfl) ?_
            refine .p rfl rfl (.len rfl rfl) ?_
            refine .p rfl rfl (.mv rfl) ?_
            refine .nil (.code (.block (.keep [(34, _), (33, _), (32, _), (6, _), (1, _)] ⟨rfl, rfl, rfl, rfl, rfl, trivial⟩ ?_)))
            refine .loop (S := Nat × World) (fun s => [(32, .slice a keys.length cap), (33, i64 keys.length), (34, i64 s.1), (6, .slice (some ⟨w17.heap.size, 0, none⟩) (m / 8) (m / 8)), (1, i64 m)]) (fun s => s.2) (fun s => s.1 ≤ keys.length ∧ Blk s.2 w17.heap.size 5 ((makeTo keys m s.1).map u8) ∧ Ext (· = w17.heap.size) w31 s.2) (fun s => keys.length - s.1) (0, w31) ⟨rfl, rfl, rfl, rfl, rfl, trivial⟩ rfl ⟨Nat.zero_le _, by show Blk w31 _ _ ((makeTo keys m 0).map u8); rw [makeTo_zero]; exact N31.blk, .refl _⟩ ?_
            rintro ⟨i, w32⟩ J ⟨hi', hB, hX⟩ again
            simp only at hi' hB hX
            refine .seq (.region ?_)
            refine .p rfl rfl (.lt rfl rfl) ?_
            refine .nil (.code (.seq ?_))
            refine .condD rfl (fun c35 => ?_) (fun c35 => ?_)
            · have hi : i < keys.length := by omega
              obtain ⟨b, o, rfl, _, hc, hkl⟩ := Sl.strAt h hi
              have hbw : b < w.heap.size := World.block_lt_of_cell? w _ hc
              have hc' : w32.cell? ⟨b, o + i, none⟩ = some (str keys[i]) := hX.cell (X31.cell hc (fun x => x)) (by show ¬ b = w17.heap.size; omega)
              have hkey : ¬ 256 < keys[i].length := by
                intro hgt
                have := List.any_eq_false.1 c17 _ (List.getElem_mem hi)
                simp at this
                omega
              have hmarks : marksF keys[i] ↑m = (marksL keys[i] m, 0) := by
                unfold marksF
                rw [if_neg hkey, if_neg (by omega)]
                rfl
              refine .skip (.code (.seq (.block (.seq (.keep [(32, _), (33, _), (34, _), (6, _), (1, _)] ⟨rfl, rfl, rfl, rfl, rfl, trivial⟩ (.region ?_))))))
              refine .p rfl rfl (.indexAddr1 rfl rfl rfl rfl (by omega)) ?_
              refine .p rfl rfl (.load rfl rfl rfl hc') ?_
              refine .p rfl rfl (.as rfl) ?_
              refine .nil (.code (.seq (.keep [(8, _), (32, _), (33, _), (34, _), (6, _), (1, _)] ⟨rfl, rfl, rfl, rfl, rfl, rfl, trivial⟩ (.region ?_))))
              refine .p rfl rfl (.mv rfl) ?_
              refine .p rfl rfl (.mv rfl) ?_
              refine .call (first := []) (captured := []) rfl rfl rfl rfl (Marks_fn hkl) ?_
              rintro _ w41 ⟨l, rfl, hl, X41⟩
              rw [hmarks] at hl ⊢
              obtain ⟨al, lcap, rfl, hlcap⟩ := Sl.val hl
              have hll : (marksL keys[i] m).length = 4 := marksL_length _ _
              simp only [hll] at hl ⊢
              refine .p rfl rfl (.mv rfl) ?_
              refine .p rfl rfl (.extract rfl rfl) ?_
              refine .p rfl rfl (.extract rfl rfl) ?_
              refine .p rfl rfl (.as rfl) ?_
              refine .p rfl rfl (.as rfl) ?_
              refine .nil (.code (.seq (.keep [(9, _), (32, _), (33, _), (34, _), (6, _), (1, _)] ⟨rfl, rfl, rfl, rfl, rfl, rfl, trivial⟩ (.region ?_))))
              refine .p rfl rfl (.mv rfl) ?_
              refine .p rfl rfl (.len rfl rfl) ?_
              refine .p rfl rfl (.mv rfl) ?_
              refine .nil (.code (.block (.keep [(46, _), (45, _), (44, _), (32, _), (33, _), (34, _), (6, _), (1, _)] ⟨rfl, rfl, rfl, rfl, rfl, rfl, rfl, rfl, trivial⟩ ?_)))
              refine .loop (S := Nat × World) (fun s => [(44, .slice al 4 lcap), (45, i64 4), (46, i64 s.1), (32, .slice (some ⟨b, o, none⟩) keys.length cap), (33, i64 keys.length), (34, i64 i), (6, .slice (some ⟨w17.heap.size, 0, none⟩) (m / 8) (m / 8)), (1, i64 m)]) (fun s => s.2) (fun s => s.1 ≤ 4 ∧ Blk s.2 w17.heap.size 5 ((setAll (makeTo keys m i) ((marksL keys[i] m).take s.1)).map u8) ∧ Ext (· = w17.heap.size) w41 s.2) (fun s => 4 - s.1) (0, w41) ⟨rfl, rfl, rfl, rfl, rfl, rfl, rfl, rfl, trivial⟩ rfl ⟨Nat.zero_le _, by exact hB.ext X41 (fun x => x), .refl _⟩ ?_
              rintro ⟨k, w46⟩ J ⟨hk', hB', hX'⟩ again'
              simp only at hk' hB' hX'
              refine .seq (.region ?_)
              refine .p rfl rfl (.lt rfl rfl) ?_
              refine .nil (.code (.seq ?_))
              refine .condD rfl (fun c47 => ?_) (fun c47 => ?_)
              · have hk : k < (marksL keys[i] m).length := by omega
                obtain ⟨lb, lo, rfl, hlb, hq, _⟩ := Sl.intAt hl hk
                have hbd := marksL_bd (key := keys[i]) (m := m) (by omega) (by omega) _ (List.getElem_mem hk)
                obtain ⟨q, hq0⟩ := Int.eq_ofNat_of_zero_le hbd.1
                rw [hq0] at hq hbd
                have hlbw : lb < w41.heap.size := World.block_lt_of_cell? w41 _ hq
                have hz := hX.size
                have hz31 := N31.size
                have hq' : w46.cell? ⟨lb, lo + k, none⟩ = some (i64 ↑q) := hX'.cell hq (by show ¬ lb = w17.heap.size; have hlb : w32.heap.size ≤ lb := hlb; omega)
                have hlen : (setAll (makeTo keys m i) ((marksL keys[i] m).take k)).length = m / 8 := by rw [setAll_length, makeTo_length]
                have hq8 : q / 8 < (setAll (makeTo keys m i) ((marksL keys[i] m).take k)).length := by rw [hlen]; omega
                have hb54 : w46.cell? ⟨w17.heap.size, q / 8, none⟩ = some (u8 (setAll (makeTo keys m i) ((marksL keys[i] m).take k))[q / 8]) := by
                  rw [hB'.cell]
                  simp [hq8]
                refine .skip (.code (.seq (.block (.seq (.keep [(44, _), (45, _), (46, _), (32, _), (33, _), (34, _), (6, _), (1, _)] ⟨rfl, rfl, rfl, rfl, rfl, rfl, rfl, rfl, trivial⟩ (.region ?_))))))
                refine .p rfl rfl (.indexAddr1 rfl rfl rfl rfl (by omega)) ?_
                refine .p rfl rfl (.load rfl rfl rfl hq') ?_
                refine .p rfl rfl (.as rfl) ?_
                refine .nil (.code (.keep [(12, _), (44, _), (45, _), (46, _), (32, _), (33, _), (34, _), (6, _), (1, _)] ⟨rfl, rfl, rfl, rfl, rfl, rfl, rfl, rfl, rfl, trivial⟩ (.mix ((· = w17.heap.size)) [4, 10] (by kernel_rfl) (by kernel_rfl) (by kernel_rfl) ?_)))
                refine .p rfl rfl rfl (fun wx hx => .mv rfl) ?_
                refine .p rfl rfl rfl (fun wx hx => .mv rfl) ?_
                refine .p rfl rfl rfl (fun wx hx => .shrC 3 8 rfl rfl (by decide) rfl) ?_
                refine .p rfl rfl rfl (fun wx hx => .indexAddr0 rfl rfl rfl rfl (by omega)) ?_
                refine .v rfl rfl rfl (.ofEv (.load rfl rfl rfl hb54)) (by rintro _ _ ⟨rfl, rfl⟩; exact .refl _) ?_
                rintro _ _ ⟨rfl, rfl⟩
                refine .p rfl rfl rfl (fun wx hx => .mv rfl) ?_
                refine .p rfl rfl rfl (fun wx hx => .maskC 3 7 8 rfl rfl (by omega) (by omega) rfl rfl) ?_
                refine .p rfl rfl rfl (fun wx hx => .shl8 (a := 1) (q % 8) rfl rfl (by omega)) ?_
                refine .p rfl rfl rfl (fun wx hx => .or8 rfl rfl) ?_
                refine .p rfl rfl rfl (fun wx hx => .indexAddr0 rfl rfl rfl rfl (by omega)) ?_
                refine .s rfl rfl (.store rfl rfl rfl rfl rfl hB' (by simp; omega)) (by intro w2 P; exact P.ext) ?_
                intro w60 P60
                refine .nil (.blk (.code (.keep [(44, _), (45, _), (46, _), (32, _), (33, _), (34, _), (6, _), (1, _)] ⟨rfl, rfl, rfl, rfl, rfl, rfl, rfl, rfl, trivial⟩ (.region ?_))))
                refine .p rfl rfl (.add rfl rfl (by omega)) ?_
                refine .p rfl rfl (.mv rfl) ?_
                refine .nil ?_
                have hs1 : setAll (makeTo keys m i) ((marksL keys[i] m).take (k + 1)) = setBit (setAll (makeTo keys m i) ((marksL keys[i] m).take k)) q := by
                  rw [List.take_succ_eq_append_getElem hk, setAll, List.foldl_append]
                  simp [hq0, setAll]
                refine (again' (k + 1, w60) ⟨by show k + 1 ≤ _; omega, ?_, hX'.trans P60.ext⟩ (by show _ - (k + 1) < _ - k; omega)).of ⟨rfl, rfl, rfl, rfl, rfl, rfl, rfl, rfl, trivial⟩
                show Blk w60 _ _ _
                rw [hs1]
                have hb := P60.blk
                have e : ((setAll (makeTo keys m i) ((marksL keys[i] m).take k)).map u8).set (q / 8) (u8 ((setAll (makeTo keys m i) ((marksL keys[i] m).take k))[q / 8] ||| 1 <<< UInt8.ofNat (q % 8))) = (setBit (setAll (makeTo keys m i) ((marksL keys[i] m).take k)) q).map u8 := by
                  unfold setBit
                  rw [List.map_set, List.getD, List.getElem?_eq_getElem hq8]
                  rfl
                rw [← e]
                exact hb
              · refine .exit rfl (.blk (.code (.keep [(32, _), (33, _), (34, _), (6, _), (1, _)] ⟨rfl, rfl, rfl, rfl, rfl, trivial⟩ (.region ?_))))
                refine .p rfl rfl (.add rfl rfl (by omega)) ?_
                refine .p rfl rfl (.mv rfl) ?_
                refine .nil ?_
                have hfin : setAll (makeTo keys m i) ((marksL keys[i] m).take k) = makeTo keys m (i + 1) := by
                  rw [makeTo_succ keys m i hi, List.take_of_length_le (by omega)]
                exact (again (i + 1, w46) ⟨by show i + 1 ≤ _; omega, by show Blk w46 _ _ _; rw [← hfin]; exact hB', hX.trans ((X41.mono (fun _ _ hf => hf.elim)).trans hX')⟩ (by show _ - (i + 1) < _ - i; omega)).of ⟨rfl, rfl, rfl, rfl, rfl, trivial⟩
            · refine .exit rfl (.code (.seq (.keep [(6, _)] ⟨rfl, trivial⟩ (.region ?_))))
              refine .p rfl rfl (.mv rfl) ?_
              refine .p rfl rfl (.as rfl) ?_
              refine .p rfl rfl (.as rfl) ?_
              refine .nil (.code ?_)
              refine .ret _ rfl ?_
              have e : makeF keys ↑m = (makeL keys m, 0) := by unfold makeF; rw [if_neg (by omega), if_neg (by rw [c17]; simp), if_neg (by omega)]; rfl
              rw [e]
              obtain rfl : i = keys.length := by omega
              have e2 := makeTo_all keys m
              have hl2 : (makeL keys m).length = m / 8 := by rw [← e2, makeTo_length]
              rw [e2] at hB
              refine ⟨_, rfl, Sl.mkBytesB hB (by rw [List.take_of_length_le (by simp)]) (by show w.heap.size ≤ w17.heap.size; omega) (by show (makeL keys m).length ≤ m / 8; omega) (by show (makeL keys m).length < Lim; simp only [Lim]; omega) hl2.symm, X31.then hX (by intro k hk _; omega)⟩
theorem Has_fn {w : World} {v : Value} {b : Bs} {key : Bs} (h : tBytes.rep All w v b) (hk : key.length < Lim) : Fn Try.prog 47 [v, str key] w (fun r w2 => r = .tuple #[.bool (hasF b key).1, i64 (hasF b key).2] ∧ Ext (fun _ => False) w w2) := by
  obtain ⟨a, cap, rfl, hcap⟩ := Sl.val h
  have hlim := Sl.lim h
  simp only [Lim] at hlim
  refine Fn.enter (fun w => Try.call47 _ w) Try.func47 rfl ?_
  refine .seq (.region ?_)
  refine .p rfl rfl (.as rfl) ?_
  refine .p rfl rfl (.as rfl) ?_
  refine .nil (.code (.seq (.seq (.keep [(0, _), (1, _)] ⟨rfl, rfl, trivial⟩ (.region ?_)))))
  refine .p rfl rfl (.mv rfl) ?_
  refine .p rfl rfl (.len rfl rfl) ?_
  refine .p rfl rfl (.lt rfl rfl) ?_
  refine .p rfl rfl (.mv rfl) ?_
  refine .caseD 14 rfl (fun c14 => ?_) (fun c14 => ?_)
  · refine .skip rfl rfl ?_
    refine .skip rfl rfl ?_
    refine .skip rfl rfl ?_
    refine .p rfl rfl (.pickT rfl rfl) ?_
    refine .nil (.code (.keep [(18, _), (0, _), (1, _)] ⟨rfl, rfl, rfl, trivial⟩ (.condT rfl (.seq (.keep [] trivial (.region ?_))))))
    refine .p rfl rfl (.as rfl) ?_
    refine .p rfl rfl (.as rfl) ?_
    refine .nil (.code ?_)
    refine .ret _ rfl ?_
    have e : hasF b key = (false, 2) := by unfold hasF; rw [if_pos (by omega)]
    rw [e]
    exact ⟨rfl, .refl _⟩
  · refine .p rfl rfl (.mv rfl) ?_
    refine .p rfl rfl (.len rfl rfl) ?_
    refine .p rfl rfl (.gt rfl rfl) ?_
    refine .p rfl rfl (.pickF rfl rfl) ?_
    refine .nil (.code (.keep [(18, _), (0, _), (1, _)] ⟨rfl, rfl, rfl, trivial⟩ ?_))
    refine .condD rfl (fun c18 => ?_) (fun c18 => ?_)
    · refine .seq (.keep [] trivial (.region ?_))
      refine .p rfl rfl (.as rfl) ?_
      refine .p rfl rfl (.as rfl) ?_
      refine .nil (.code ?_)
      refine .ret _ rfl ?_
      have e : hasF b key = (false, 2) := by unfold hasF; rw [if_pos (by omega)]
      rw [e]
      exact ⟨rfl, .refl _⟩
    · refine .skip (.code (.seq (.keep [(0, _), (1, _)] ⟨rfl, rfl, trivial⟩ (.region ?_))))
      refine .p rfl rfl (.mv rfl) ?_
      refine .p rfl rfl (.mv rfl) ?_
      refine .p rfl rfl (.len rfl rfl) ?_
      refine .p rfl rfl (.mul rfl rfl (by omega)) ?_
      refine .call (first := []) (captured := []) rfl rfl rfl rfl (Marks_fn hk) ?_
      rintro _ w24 ⟨l, rfl, hl, X24⟩
      refine .p rfl rfl (.mv rfl) ?_
      refine .p rfl rfl (.extract rfl rfl) ?_
      refine .p rfl rfl (.extract rfl rfl) ?_
      refine .p rfl rfl (.as rfl) ?_
      refine .p rfl rfl (.as rfl) ?_
      refine .nil (.code (.seq (.seq (.keep [(7, _), (6, _), (0, _)] ⟨rfl, rfl, rfl, trivial⟩ (.region ?_)))))
      refine .p rfl rfl (.mv rfl) ?_
      refine .p rfl rfl (.ne rfl rfl) ?_
      refine .nil (.code (.keep [(28, _), (7, _), (6, _), (0, _)] ⟨rfl, rfl, rfl, rfl, trivial⟩ ?_))
      refine .condD rfl (fun c28 => ?_) (fun c28 => ?_)
      · refine .seq (.keep [(7, _)] ⟨rfl, trivial⟩ (.region ?_))
        refine .p rfl rfl (.mv rfl) ?_
        refine .p rfl rfl (.as rfl) ?_
        refine .p rfl rfl (.as rfl) ?_
        refine .nil (.code ?_)
        refine .ret _ rfl ?_
        have hgt : 256 < key.length := by
          apply Decidable.byContradiction
          intro hle
          apply c28
          unfold marksF
          rw [if_neg hle, if_neg (by omega)]
        have e : hasF b key = (false, 3) := by unfold hasF; rw [if_neg (by omega), if_pos hgt]
        have e2 : marksF key (8 * ↑b.length) = ([], 3) := by unfold marksF; rw [if_pos hgt]
        rw [e, e2]
        exact ⟨rfl, X24⟩
      · have hkey : ¬ 256 < key.length := by
          intro hgt
          apply c28
          have e : marksF key (8 * ↑b.length) = ([], 3) := by unfold marksF; rw [if_pos hgt]
          rw [e]
          simp
        have hmarks : marksF key (8 * ↑b.length) = (marksL key (8 * b.length), 0) := by
          unfold marksF
          rw [if_neg hkey, if_neg (by omega)]
          congr 2
        rw [hmarks] at hl
        obtain ⟨al, lcap, rfl, hlcap⟩ := Sl.val hl
        have hll : (marksL key (8 * b.length)).length = 4 := marksL_length _ _
        simp only [hll] at hl ⊢
        refine .skip (.code (.seq (.keep [(6, _), (0, _)] ⟨rfl, rfl, trivial⟩ (.region ?_))))
        refine .p rfl rfl (.mv rfl) ?_
        refine .p rfl rfl (.len rfl rfl) ?_
        refine .p rfl rfl (.shl8 (a := 1) 4 rfl rfl (by omega)) ?_
        refine .p rfl rfl (.sub8 (b := 1) rfl rfl) ?_
        refine .p rfl rfl (.as rfl) ?_
        refine .nil (.code (.seq (.seq (.keep [(8, _), (6, _), (0, _)] ⟨rfl, rfl, rfl, trivial⟩ (.region ?_)))))
        refine .p rfl rfl (.mv rfl) ?_
        refine .p rfl rfl (.len rfl rfl) ?_
        refine .p rfl rfl (.mv rfl) ?_
        refine .nil (.code (.block (.keep [(36, _), (35, _), (34, _), (8, _), (0, _)] ⟨rfl, rfl, rfl, rfl, rfl, trivial⟩ ?_)))
        refine .loop (S := Nat) (fun s => [(34, .slice al 4 lcap), (35, i64 4), (36, i64 s), (0, .slice a b.length cap), (8, u8 (leftTo b (marksL key (8 * b.length)) s))]) (fun s => w24) (fun s => s ≤ 4) (fun s => 4 - s) 0 ⟨rfl, rfl, rfl, rfl, rfl, trivial⟩ rfl (Nat.zero_le _) ?_
        intro k J hk4 again
        refine .seq (.region ?_)
        refine .p rfl rfl (.lt rfl rfl) ?_
        refine .nil (.code (.seq ?_))
        refine .condD rfl (fun c37 => ?_) (fun c37 => ?_)
        · have hk' : k < (marksL key (8 * b.length)).length := by omega
          obtain ⟨lb, lo, rfl, hlb, hq, _⟩ := Sl.intAt hl hk'
          have hbd := marksL_bd (key := key) (m := 8 * b.length) (by omega) (by omega) _ (List.getElem_mem hk')
          obtain ⟨q, hq0⟩ := Int.eq_ofNat_of_zero_le hbd.1
          rw [hq0] at hq hbd
          have hq8 : q / 8 < b.length := by omega
          obtain ⟨bb, bo, rfl, _, hb⟩ := Sl.byteAt h hq8
          have hbit : bitAt b q = ((b[q / 8] >>> UInt8.ofNat (q % 8)) &&& 1 == 1) := by unfold bitAt; rw [List.getD, List.getElem?_eq_getElem hq8]; rfl
          have hstep : leftTo b (marksL key (8 * b.length)) (k + 1) = if bitAt b q then leftTo b (marksL key (8 * b.length)) k &&& ~~~(1 <<< UInt8.ofNat k) else leftTo b (marksL key (8 * b.length)) k := by
            rw [leftTo, List.getD, List.getElem?_eq_getElem hk', Option.getD_some, hq0]
            rfl
          refine .skip (.code (.seq (.block (.seq (.keep [(34, _), (35, _), (36, _), (0, _), (8, _)] ⟨rfl, rfl, rfl, rfl, rfl, trivial⟩ (.region ?_))))))
          refine .p rfl rfl (.mv rfl) ?_
          refine .p rfl rfl (.indexAddr1 rfl rfl rfl rfl (by omega)) ?_
          refine .p rfl rfl (.load rfl rfl rfl hq) ?_
          refine .p rfl rfl (.as rfl) ?_
          refine .p rfl rfl (.as rfl) ?_
          refine .nil (.code (.seq (.keep [(10, _), (9, _), (34, _), (35, _), (36, _), (0, _), (8, _)] ⟨rfl, rfl, rfl, rfl, rfl, rfl, rfl, trivial⟩ (.region ?_))))
          refine .p rfl rfl (.mv rfl) ?_
          refine .p rfl rfl (.mv rfl) ?_
          refine .p rfl rfl (.shrC 3 8 rfl rfl (by decide) rfl) ?_
          refine .p rfl rfl (.indexAddr1 rfl rfl rfl rfl (by omega)) ?_
          refine .p rfl rfl (.load rfl rfl rfl (X24.cell hb (fun x => x))) ?_
          refine .p rfl rfl (.mv rfl) ?_
          refine .p rfl rfl (.maskC 3 7 8 rfl rfl (by omega) (by omega) rfl rfl) ?_
          refine .p rfl rfl (.shr8 (q % 8) rfl rfl (by omega)) ?_
          refine .p rfl rfl (.and8 (b := 1) rfl rfl) ?_
          refine .p rfl rfl (.eq rfl rfl) ?_
          refine .nil (.code (.keep [(50, _), (9, _), (34, _), (35, _), (36, _), (0, _), (8, _)] ⟨rfl, rfl, rfl, rfl, rfl, rfl, rfl, trivial⟩ ?_))
          refine .condD rfl (fun c50 => ?_) (fun c50 => ?_)
          · refine .keep [(9, _), (34, _), (35, _), (36, _), (0, _), (8, _)] ⟨rfl, rfl, rfl, rfl, rfl, rfl, trivial⟩ (.region ?_)
            refine .p rfl rfl (.mv rfl) ?_
            refine .p rfl rfl (.mv rfl) ?_
            refine .p rfl rfl (.shl8 (a := 1) k rfl rfl (by omega)) ?_
            refine .p rfl rfl (.andNot8 rfl rfl) ?_
            refine .p rfl rfl (.as rfl) ?_
            refine .nil (.blk (.code (.keep [(8, _), (34, _), (35, _), (36, _), (0, _)] ⟨rfl, rfl, rfl, rfl, rfl, trivial⟩ (.region ?_))))
            refine .p rfl rfl (.add rfl rfl (by omega)) ?_
            refine .p rfl rfl (.mv rfl) ?_
            refine .nil ?_
            have hs : leftTo b (marksL key (8 * b.length)) (k + 1) = leftTo b (marksL key (8 * b.length)) k &&& ~~~(1 <<< UInt8.ofNat k) := by
              rw [hstep, hbit, if_pos ((bit_of _).1 c50)]
            exact (again (k + 1) (by show k + 1 ≤ 4; omega) (by show 4 - (k + 1) < 4 - k; omega)).of ⟨rfl, rfl, rfl, rfl, by rw [hs]; rfl, trivial⟩
          · refine .skip (.blk (.code (.keep [(34, _), (35, _), (36, _), (0, _), (8, _)] ⟨rfl, rfl, rfl, rfl, rfl, trivial⟩ (.region ?_))))
            refine .p rfl rfl (.add rfl rfl (by omega)) ?_
            refine .p rfl rfl (.mv rfl) ?_
            refine .nil ?_
            have hs : leftTo b (marksL key (8 * b.length)) (k + 1) = leftTo b (marksL key (8 * b.length)) k := by
              rw [hstep, hbit, if_neg (fun h => c50 ((bit_of _).2 h))]
            exact (again (k + 1) (by show k + 1 ≤ 4; omega) (by show 4 - (k + 1) < 4 - k; omega)).of ⟨rfl, rfl, rfl, rfl, by rw [hs]; rfl, trivial⟩
        · refine .exit rfl (.code (.seq (.keep [(8, _)] ⟨rfl, trivial⟩ (.region ?_))))
          refine .p rfl rfl (.mv rfl) ?_
          refine .p rfl rfl (.eq rfl rfl) ?_
          refine .p rfl rfl (.as rfl) ?_
          refine .p rfl rfl (.as rfl) ?_
          refine .nil (.code ?_)
          refine .ret _ rfl ?_
          obtain rfl : k = 4 := by omega
          have e : hasF b key = (hasL b (marksL key (8 * b.length)), 0) := by unfold hasF; rw [if_neg (by omega), if_neg hkey]
          rw [e, ← leftTo_all b _ hll]
          exact ⟨rfl, X24⟩
end Go.Proofs.Ythkgadhamecnlaa
