
/-
  Package room: slices.SortFunc at pieces, by their beginnings.
-/
import Derived.Shelf.SlSortCmp.WholeK
import Derived.Shelf.SlSortCmp.NoneTotal
import Derived.Shelf.SlicesG.Cmp
import Derived.Test.YtagjfplipknlkaaRWorld
import Derived.Test.YtagjfplipknlkaaProg
set_option linter.unusedVariables false
set_option linter.unusedSimpArgs false
set_option maxRecDepth 20000
namespace Go.Proofs.Ytagjfplipknlkaa
open Go Go.Proofs Go.Shelf Go.RowKit Go.Lib Go.Sort
def sortP_ren : Go.Shelf.Ren := ⟨fun | 6 => 32 | 14 => 35 | 15 => 36 | 20 => 38 | 21 => 39 | 22 => 40 | 23 => 41 | 24 => 42 | 25 => 43 | 26 => 44 | 27 => 45 | 28 => 46 | 29 => 47 | 46 => 48 | 47 => 49 | 48 => 50 | 49 => 51 | 50 => 52 | 57 => 53 | n => n, fun | 0 => 0 | 3 => 3 | 4 => 4 | 5 => 5 | 9 => 9 | 22 => 22 | 24 => 30 | 25 => 62 | 39 => 65 | 45 => 68 | 46 => 69 | 50 => 73 | 53 => 76 | 55 => 78 | 66 => 79 | 70 => 83 | 76 => 85 | 77 => 34 | n => n, fun n => n⟩
theorem sortP : SlLaysF0.n6 Try.prog sortP_ren where
  mixed := by kernel_rfl
  f6 := ⟨ "slices.SortFunc[[]docket/api.Piece,docket/api.Piece]", by decide, Try.func32.trans (congrArg some (by kernel_rfl))⟩
  f14 := ⟨ "slices.pdqsortCmpFunc[docket/api.Piece]", by decide, Try.func35.trans (congrArg some (by kernel_rfl))⟩
  f15 := Try.func36.trans (congrArg some (by kernel_rfl))
  f20 := ⟨ "slices.insertionSortCmpFunc[docket/api.Piece]", by decide, Try.func38.trans (congrArg some (by kernel_rfl))⟩
  f21 := ⟨ "slices.heapSortCmpFunc[docket/api.Piece]", by decide, Try.func39.trans (congrArg some (by kernel_rfl))⟩
  f22 := ⟨ "slices.breakPatternsCmpFunc[docket/api.Piece]", by decide, Try.func40.trans (congrArg some (by kernel_rfl))⟩
  f23 := ⟨ "slices.choosePivotCmpFunc[docket/api.Piece]", by decide, Try.func41.trans (congrArg some (by kernel_rfl))⟩
  f24 := ⟨ "slices.reverseRangeCmpFunc[docket/api.Piece]", by decide, Try.func42.trans (congrArg some (by kernel_rfl))⟩
  f25 := ⟨ "slices.partialInsertionSortCmpFunc[docket/api.Piece]", by decide, Try.func43.trans (congrArg some (by kernel_rfl))⟩
  f26 := ⟨ "slices.partitionEqualCmpFunc[docket/api.Piece]", by decide, Try.func44.trans (congrArg some (by kernel_rfl))⟩
  f27 := ⟨ "slices.partitionCmpFunc[docket/api.Piece]", by decide, Try.func45.trans (congrArg some (by kernel_rfl))⟩
  f28 := Try.func46.trans (congrArg some (by kernel_rfl))
  f29 := Try.func47.trans (congrArg some (by kernel_rfl))
  f46 := ⟨ "slices.siftDownCmpFunc[docket/api.Piece]", by decide, Try.func48.trans (congrArg some (by kernel_rfl))⟩
  f47 := Try.func49.trans (congrArg some (by kernel_rfl))
  f48 := Try.func50.trans (congrArg some (by kernel_rfl))
  f49 := ⟨ "slices.medianAdjacentCmpFunc[docket/api.Piece]", by decide, Try.func51.trans (congrArg some (by kernel_rfl))⟩
  f50 := ⟨ "slices.medianCmpFunc[docket/api.Piece]", by decide, Try.func52.trans (congrArg some (by kernel_rfl))⟩
  f57 := ⟨ "slices.order2CmpFunc[docket/api.Piece]", by decide, Try.func53.trans (congrArg some (by kernel_rfl))⟩
  t0 := Try.underlying0
  a0 := Try.isAgg0
  z0 := Try.sizeOf0
  v0 := Try.zeroValue0
  t3 := Try.underlying3
  a3 := Try.isAgg3
  z3 := Try.sizeOf3
  v3 := Try.zeroValue3
  t4 := Try.underlying4
  a4 := Try.isAgg4
  z4 := Try.sizeOf4
  v4 := Try.zeroValue4
  t5 := Try.underlying5
  a5 := Try.isAgg5
  z5 := Try.sizeOf5
  v5 := Try.zeroValue5
  t9 := Try.underlying9
  a9 := Try.isAgg9
  z9 := Try.sizeOf9
  v9 := Try.zeroValue9
  t22 := Try.underlying22
  a22 := Try.isAgg22
  z22 := Try.sizeOf22
  v22 := Try.zeroValue22
  t25 := Try.underlying62
  a25 := Try.isAgg62
  z25 := Try.sizeOf62
  v25 := Try.zeroValue62
  t39 := Try.underlying65
  a39 := Try.isAgg65
  z39 := Try.sizeOf65
  v39 := Try.zeroValue65
  t45 := Try.underlying68
  a45 := Try.isAgg68
  z45 := Try.sizeOf68
  v45 := Try.zeroValue68
  t46 := Try.underlying69
  a46 := Try.isAgg69
  z46 := Try.sizeOf69
  v46 := Try.zeroValue69
  t50 := Try.underlying73
  a50 := Try.isAgg73
  z50 := Try.sizeOf73
  v50 := Try.zeroValue73
  t53 := Try.underlying76
  a53 := Try.isAgg76
  z53 := Try.sizeOf76
  v53 := Try.zeroValue76
  t55 := Try.underlying78
  a55 := Try.isAgg78
  z55 := Try.sizeOf78
  v55 := Try.zeroValue78
  t66 := Try.underlying79
  a66 := Try.isAgg79
  z66 := Try.sizeOf79
  v66 := Try.zeroValue79
  t70 := Try.underlying83
  a70 := Try.isAgg83
  z70 := Try.sizeOf83
  v70 := Try.zeroValue83
  t76 := Try.underlying85
  a76 := Try.isAgg85
  z76 := Try.sizeOf85
  v76 := Try.zeroValue85
  t77 := Try.underlying34
  a77 := Try.isAgg34
  z77 := Try.sizeOf34
  v77 := Try.zeroValue34
def cmpP_ren : Go.Shelf.Ren := ⟨fun | 5 => 34 | 7 => 37 | n => n, fun | 3 => 3 | 4 => 4 | 22 => 3 | n => n, fun n => n⟩
theorem cmpP : SlLaysC2.n5 Try.prog cmpP_ren where
  mixed := by kernel_rfl
  f5 := ⟨ "cmp.Compare[int]", by decide, Try.func34.trans (congrArg some (by kernel_rfl))⟩
  f7 := ⟨ "cmp.isNaN[int]", by decide, Try.func37.trans (congrArg some (by kernel_rfl))⟩
  t3 := Try.underlying3
  a3 := Try.isAgg3
  z3 := Try.sizeOf3
  v3 := Try.zeroValue3
  t4 := Try.underlying4
  a4 := Try.isAgg4
  z4 := Try.sizeOf4
  v4 := Try.zeroValue4
  t22 := Try.underlying3
  a22 := Try.isAgg3
  z22 := Try.sizeOf3
  v22 := Try.zeroValue3
namespace room
theorem ltFr (x y : Piece) : ltOf (fun x y : Piece => Lib.compareInt x.fr y.fr) x y = decide (x.fr < y.fr) := by
  unfold ltOf Lib.compareInt
  by_cases h1 : x.fr < y.fr
  · simp [h1]
  · by_cases h2 : y.fr < x.fr <;> simp [h1, h2]
theorem swoFr : SWO (ltOf fun x y : Piece => Lib.compareInt x.fr y.fr) where
  irrefl x := by rw [ltFr]; simp
  trans x y z h1 h2 := by rw [ltFr] at *; simp at *; omega
  ntrans x y z h1 h2 := by rw [ltFr] at *; simp at *; omega
set_option maxHeartbeats 1000000 in
theorem closureP (x y : Piece) (W : World) : Calls Try.prog 33 #[.agg #[.int .i64 x.fr, .int .i64 x.ct], .agg #[.int .i64 y.fr, .int .i64 y.ct]] W fun e w' => e = .returned (.int .i64 (Lib.compareInt x.fr y.fr)) ∧ ∃ q os', w' = grow (W.drewN q) os' := by
  have hcon := fun W' => AnyG.cmp_Compare_int cmpP x.fr y.fr W'
  change ∀ W', Calls Try.prog 34 _ _ _ at hcon
  generalize Lib.compareInt x.fr y.fr = r at hcon ⊢
  go_enter Try.func33, Try.ntmps33
  go_wp2_with (go_at_call 34; refine (hcon _).mono ?_; rintro e w' ⟨rfl, rfl⟩)
  go_ret
  exact ⟨rfl, 0, _, by rw [alloc_eq_grow, alloc_eq_grow, grow_grow]; rfl⟩
theorem cmpLaysP (blk off size : Nat) (w : World) : CmpLays Try.prog 33 #[] encP 2 (fun x y : Piece => Lib.compareInt x.fr y.fr) blk off size w :=
  fun _ _ _ _ x y => closureP x y _
end room
open room
theorem SortFunc_fn {w : World} {v : Value} {xs : List Piece} {B : Nat → Prop} (hO : OwnO tPiece (fun _ => False) 30 w v xs B) : Fn Try.prog 32 [v, .func (.func 33) #[] #[]] w (fun r w2 => r = .tuple #[] ∧ ∃ ys, ys.Perm xs ∧ ys.Pairwise (fun p q => p.fr ≤ q.fr) ∧ OwnO tPiece (fun _ => False) 30 w2 v ys B ∧ Ext B w w2) := by
  rcases hO with ⟨rfl, rfl⟩ | ⟨b, hb, hlt, hl, ⟨rfl, rfl⟩ | ⟨cap, us, sp, rfl, hc, he, hB, hn⟩⟩
  · refine ⟨fun w' => Try.call32 _ w', fun w' hw => ?_⟩
    have h := AnyF.slices_SortFunc_none sortP none 0 (.func (.func 33) #[] #[]) w'
    refine Calls.mono h ?_
    rintro e w2 ⟨rfl, rfl⟩
    exact ⟨_, w, hw, rfl, rfl, [], .nil, .nil, OwnO.nil, .refl _⟩
  · refine ⟨fun w' => Try.call32 _ w', fun w' hw => ?_⟩
    have h := AnyF.slices_SortFunc_none sortP none 0 (.func (.func 33) #[] #[]) w'
    refine Calls.mono h ?_
    rintro e w2 ⟨rfl, rfl⟩
    exact ⟨_, w, hw, rfl, rfl, [], .nil, .nil, OwnO.nil, .refl _⟩
  · refine ⟨fun w' => Try.call32 _ w', fun w' hw => ?_⟩
    have hfl := flat_P he
    have hrg := each_range he
    rw [hfl] at hB hn
    have hB' : Blk w' b 30 (flatP xs ++ sp) := hB.keep (by rw [hw.heap])
    have eg : ∀ args w, (callFunc 33 args).run Try.prog w = .ok (.enter 33 args) w := enters_of Try.func33 (by kernel_rfl) rfl
    have hcon := AnyQ.slices_SortFunc sortP 2 Try.isAgg30 Try.sizeOf30 encP (fun _ => rfl) (fun x v hv => by simp [encP] at hv; rcases hv with rfl | rfl <;> rfl) (fun x y : Piece => Lib.compareInt x.fr y.fr) swoFr 33 #[] b 0 cap xs.toArray w' eg (cmpLaysP b 0 xs.toArray.size w') (holdsK_of hB') hB'.lt (by simp only [Lim] at hl; simp; omega)
    refine Calls.mono hcon ?_
    rintro e w2 ⟨rfl, d', n, os, hp, hs, rfl⟩
    obtain ⟨p1, p2, p3⟩ := hp
    obtain ⟨ys, rfl⟩ : ∃ ys : List Piece, d' = ys.toArray := ⟨d'.toList, by simp⟩
    have hlen : ys.length = xs.length := by simpa using p1
    have hperm : ys.Perm xs := by
      have e1 : (ys.toArray.extract 0 xs.toArray.size).toList = ys := by simp [← hlen]
      have e2 : (xs.toArray.extract 0 xs.toArray.size).toList = xs := by simp
      rw [e1, e2] at p3
      exact p3
    have hsorted : ys.Pairwise (fun p q => p.fr ≤ q.fr) := by
      rw [List.pairwise_iff_getElem]
      intro i j hi hj hij
      have h := hs i j (Nat.zero_le _) hij (by simpa [hlen] using hj)
      rw [ltFr] at h
      have e1 : ys.toArray[i]! = ys[i] := by simp [hi]
      have e2 : ys.toArray[j]! = ys[j] := by simp [hj]
      rw [e1, e2] at h
      have h := of_decide_eq_false h
      omega
    obtain ⟨g1, g2⟩ := sorted_world (n := n) (os := os) hw hB hlen
    have hry : ∀ p ∈ ys, (-9223372036854775808 ≤ p.fr ∧ p.fr ≤ 9223372036854775807) ∧ -9223372036854775808 ≤ p.ct ∧ p.ct ≤ 9223372036854775807 := fun p hp => hrg p (hperm.mem_iff.1 hp)
    have hey := each_P (P := fun _ => False) (w := sortWorldK encP 2 w' b 0 n ys.toArray os) hry
    refine ⟨_, _, .refl _, rfl, rfl, ys, hperm, hsorted, .inr ⟨b, hb, g1.lt, by rw [hlen]; exact hl, .inr ⟨cap, _, sp, by rw [hlen], by rw [hlen]; exact hc, hey, by rw [flat_P hey]; exact g1, ?_⟩⟩, g2.mono (by rintro k _ rfl; exact hb)⟩
    rw [flat_P hey, List.length_append, flatP_length, hlen, ← hn, List.length_append, flatP_length]
end Go.Proofs.Ytagjfplipknlkaa
