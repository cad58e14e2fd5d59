import Derived.Shelf.SlSortCmp.WholeK
import Derived.Shelf.SlSortCmp.NoneTotal
import Derived.Lib.Bytealg
import Derived.Test.YtpfehnopghffjaaGreatDoorQ23
import Derived.Test.YtpfehnopghffjaaGreatDoorQ20
import Derived.Test.YtpfehnopghffjaaGreatDoorProg
import Derived.Test.YtpfehnopghffjaaGreatDoorQ22
set_option linter.unusedVariables false
set_option linter.unusedSimpArgs false
set_option maxRecDepth 20000
/-
  Package files: slices.SortFunc at files, by their names.
-/
namespace Go.Proofs.YtpfehnopghffjaaGreatDoor
open Go Go.Proofs Go.Shelf Go.RowKit Go.Lib Go.Sort
def sortF_ren : Go.Shelf.Ren := ⟨fun | 6 => 92 | 14 => 133 | 15 => 134 | 20 => 155 | 21 => 156 | 22 => 157 | 23 => 158 | 24 => 159 | 25 => 160 | 26 => 161 | 27 => 162 | 28 => 163 | 29 => 164 | 46 => 175 | 47 => 176 | 48 => 177 | 49 => 178 | 50 => 179 | 57 => 191 | n => n, fun | 0 => 0 | 3 => 3 | 4 => 4 | 5 => 5 | 9 => 9 | 22 => 22 | 24 => 28 | 25 => 156 | 39 => 177 | 45 => 225 | 46 => 226 | 50 => 230 | 53 => 233 | 55 => 99 | 66 => 253 | 70 => 257 | 76 => 265 | 77 => 56 | n => n, fun n => n⟩
theorem sortF : SlLaysF0.n6 Tryz.prog sortF_ren where
  mixed := by kernel_rfl
  f6 := ⟨ "slices.SortFunc[[]docket/api.File,docket/api.File]", by decide, Tryz.func92.trans (congrArg some (by kernel_rfl))⟩
  f14 := ⟨ "slices.pdqsortCmpFunc[docket/api.File]", by decide, Tryz.func133.trans (congrArg some (by kernel_rfl))⟩
  f15 := Tryz.func134.trans (congrArg some (by kernel_rfl))
  f20 := ⟨ "slices.insertionSortCmpFunc[docket/api.File]", by decide, Tryz.func155.trans (congrArg some (by kernel_rfl))⟩
  f21 := ⟨ "slices.heapSortCmpFunc[docket/api.File]", by decide, Tryz.func156.trans (congrArg some (by kernel_rfl))⟩
  f22 := ⟨ "slices.breakPatternsCmpFunc[docket/api.File]", by decide, Tryz.func157.trans (congrArg some (by kernel_rfl))⟩
  f23 := ⟨ "slices.choosePivotCmpFunc[docket/api.File]", by decide, Tryz.func158.trans (congrArg some (by kernel_rfl))⟩
  f24 := ⟨ "slices.reverseRangeCmpFunc[docket/api.File]", by decide, Tryz.func159.trans (congrArg some (by kernel_rfl))⟩
  f25 := ⟨ "slices.partialInsertionSortCmpFunc[docket/api.File]", by decide, Tryz.func160.trans (congrArg some (by kernel_rfl))⟩
  f26 := ⟨ "slices.partitionEqualCmpFunc[docket/api.File]", by decide, Tryz.func161.trans (congrArg some (by kernel_rfl))⟩
  f27 := ⟨ "slices.partitionCmpFunc[docket/api.File]", by decide, Tryz.func162.trans (congrArg some (by kernel_rfl))⟩
  f28 := Tryz.func163.trans (congrArg some (by kernel_rfl))
  f29 := Tryz.func164.trans (congrArg some (by kernel_rfl))
  f46 := ⟨ "slices.siftDownCmpFunc[docket/api.File]", by decide, Tryz.func175.trans (congrArg some (by kernel_rfl))⟩
  f47 := Tryz.func176.trans (congrArg some (by kernel_rfl))
  f48 := Tryz.func177.trans (congrArg some (by kernel_rfl))
  f49 := ⟨ "slices.medianAdjacentCmpFunc[docket/api.File]", by decide, Tryz.func178.trans (congrArg some (by kernel_rfl))⟩
  f50 := ⟨ "slices.medianCmpFunc[docket/api.File]", by decide, Tryz.func179.trans (congrArg some (by kernel_rfl))⟩
  f57 := ⟨ "slices.order2CmpFunc[docket/api.File]", by decide, Tryz.func191.trans (congrArg some (by kernel_rfl))⟩
  t0 := Tryz.underlying0
  a0 := Tryz.isAgg0
  z0 := Tryz.sizeOf0
  v0 := Tryz.zeroValue0
  t3 := Tryz.underlying3
  a3 := Tryz.isAgg3
  z3 := Tryz.sizeOf3
  v3 := Tryz.zeroValue3
  t4 := Tryz.underlying4
  a4 := Tryz.isAgg4
  z4 := Tryz.sizeOf4
  v4 := Tryz.zeroValue4
  t5 := Tryz.underlying5
  a5 := Tryz.isAgg5
  z5 := Tryz.sizeOf5
  v5 := Tryz.zeroValue5
  t9 := Tryz.underlying9
  a9 := Tryz.isAgg9
  z9 := Tryz.sizeOf9
  v9 := Tryz.zeroValue9
  t22 := Tryz.underlying22
  a22 := Tryz.isAgg22
  z22 := Tryz.sizeOf22
  v22 := Tryz.zeroValue22
  t25 := Tryz.underlying156
  a25 := Tryz.isAgg156
  z25 := Tryz.sizeOf156
  v25 := Tryz.zeroValue156
  t39 := Tryz.underlying177
  a39 := Tryz.isAgg177
  z39 := Tryz.sizeOf177
  v39 := Tryz.zeroValue177
  t45 := Tryz.underlying225
  a45 := Tryz.isAgg225
  z45 := Tryz.sizeOf225
  v45 := Tryz.zeroValue225
  t46 := Tryz.underlying226
  a46 := Tryz.isAgg226
  z46 := Tryz.sizeOf226
  v46 := Tryz.zeroValue226
  t50 := Tryz.underlying230
  a50 := Tryz.isAgg230
  z50 := Tryz.sizeOf230
  v50 := Tryz.zeroValue230
  t53 := Tryz.underlying233
  a53 := Tryz.isAgg233
  z53 := Tryz.sizeOf233
  v53 := Tryz.zeroValue233
  t55 := Tryz.underlying99
  a55 := Tryz.isAgg99
  z55 := Tryz.sizeOf99
  v55 := Tryz.zeroValue99
  t66 := Tryz.underlying253
  a66 := Tryz.isAgg253
  z66 := Tryz.sizeOf253
  v66 := Tryz.zeroValue253
  t70 := Tryz.underlying257
  a70 := Tryz.isAgg257
  z70 := Tryz.sizeOf257
  v70 := Tryz.zeroValue257
  t76 := Tryz.underlying265
  a76 := Tryz.isAgg265
  z76 := Tryz.sizeOf265
  v76 := Tryz.zeroValue265
  t77 := Tryz.underlying56
  a77 := Tryz.isAgg56
  z77 := Tryz.sizeOf56
  v77 := Tryz.zeroValue56
namespace files
theorem cmp_less : ∀ a b : Bs, Lib.compareBytes a b < 0 ↔ Op.bytesLess a b = true
  | [], [] => by simp [Lib.compareBytes, Op.bytesLess]
  | [], _ :: _ => by simp [Lib.compareBytes, Op.bytesLess]
  | _ :: _, [] => by simp [Lib.compareBytes, Op.bytesLess]
  | a :: x, b :: y => by
    rw [bl_cons]
    unfold Lib.compareBytes
    have ih := cmp_less x y
    by_cases h1 : a < b
    · rw [if_pos h1]; exact ⟨fun _ => .inl h1, fun _ => by decide⟩
    · by_cases h2 : b < a
      · rw [if_neg h1, if_pos h2]
        refine ⟨fun h => absurd h (by decide), fun h => ?_⟩
        rcases h with h | ⟨rfl, _⟩
        · exact absurd h h1
        · exact absurd h2 (UInt8.lt_irrefl _)
      · rw [if_neg h1, if_neg h2, ih]
        have e : a = b := UInt8.le_antisymm (UInt8.not_lt.1 h2) (UInt8.not_lt.1 h1)
        exact ⟨fun h => .inr ⟨e, h⟩, fun h => h.elim (fun h => absurd h h1) (fun h => h.2)⟩
theorem ltNm (x y : FV) : ltOf (fun x y : FV => Lib.compareBytes x.1 y.1) x y = Op.bytesLess x.1 y.1 := by
  unfold ltOf
  have := cmp_less x.1 y.1
  cases h : Op.bytesLess x.1 y.1 with
  | true => rw [h] at this; exact decide_eq_true (this.2 rfl)
  | false => rw [h] at this; exact decide_eq_false (fun hx => by cases this.1 hx)
theorem swoNm : SWO (ltOf fun x y : FV => Lib.compareBytes x.1 y.1) where
  irrefl x := by rw [ltNm]; have := bl_irr x.1; simpa using this
  trans x y z h1 h2 := by rw [ltNm] at *; exact bl_trans h1 h2
  ntrans x y z h1 h2 := by
    rw [ltNm] at *
    cases h : Op.bytesLess x.1 z.1 with
    | false => rfl
    | true =>
      rcases bl_tri y.1 x.1 with h3 | h3 | h3
      · have := bl_trans h3 h; rw [this] at h2; cases h2
      · rw [← h3] at h; rw [h] at h2; cases h2
      · rw [h3] at h1; cases h1
set_option maxHeartbeats 1000000 in
theorem cmpStr_calls (a b : Bs) (w : World) : Calls Tryz.prog 135 #[str a, str b] w fun e w' => e = .returned (.int .i64 (Lib.compareBytes a b)) ∧ w' = w := by
  have h1 : (bs a).data.toList = a := by simp [bs]
  have h2 : (bs b).data.toList = b := by simp [bs]
  go_enter Tryz.func135, Tryz.ntmps135
  go_wp2
  rw [run_callFunc_extern Tryz.func165 (by kernel_rfl) (by kernel_rfl) (by kernel_rfl) (e := Extern.BytealgCompare.compare) (by kernel_rfl), show str a = .string (bs a) from rfl, show str b = .string (bs b) from rfl, Lib.run_compareString]
  simp only [Result.andThen]
  rw [Oper.upon_value]
  go_wp2
  go_ret
  exact ⟨rfl, rfl⟩
set_option maxHeartbeats 1000000 in
theorem compare_calls (a b : Bs) (w : World) : Calls Tryz.prog 94 #[str a, str b] w fun e w' => e = .returned (.int .i64 (Lib.compareBytes a b)) ∧ w' = w := by
  go_enter Tryz.func94, Tryz.ntmps94
  go_wp2_with (go_at_call 135; refine (cmpStr_calls _ _ _).mono ?_; rintro e w' ⟨rfl, rfl⟩)
  go_ret
  exact ⟨rfl, rfl⟩
set_option maxHeartbeats 1000000 in
theorem closureF (x y : FV) (W : World) : Calls Tryz.prog 93 #[.agg #[str x.1, i64 x.2.1, .slice x.2.2.1 x.2.2.2.1 x.2.2.2.2], .agg #[str y.1, i64 y.2.1, .slice y.2.2.1 y.2.2.2.1 y.2.2.2.2]] W fun e w' => e = .returned (.int .i64 (Lib.compareBytes x.1 y.1)) ∧ ∃ q os', w' = grow (W.drewN q) os' := by
  have hcon := fun W' => compare_calls x.1 y.1 W'
  generalize Lib.compareBytes x.1 y.1 = r at hcon ⊢
  go_enter Tryz.func93, Tryz.ntmps93
  go_wp2_with (go_at_call 94; refine (hcon _).mono ?_; rintro e w' ⟨rfl, rfl⟩)
  go_ret
  exact ⟨rfl, 0, _, by rw [alloc_eq_grow, alloc_eq_grow, grow_grow]; rfl⟩
theorem cmpLaysF (blk off size : Nat) (w : World) : CmpLays Tryz.prog 93 #[] encF 3 (fun x y : FV => Lib.compareBytes x.1 y.1) blk off size w :=
  fun _ _ _ _ x y => closureF x y _
theorem perm_lift {α β : Type} {f : α → β} {l m : List β} (h : l.Perm m) : ∀ {zs : List α}, zs.map f = m → ∃ zs' : List α, zs'.Perm zs ∧ zs'.map f = l := by
  induction h with
  | nil => intro zs hz; exact ⟨[], by rw [List.map_eq_nil_iff.1 hz], rfl⟩
  | cons x _ ih =>
    intro zs hz
    cases zs with
    | nil => cases hz
    | cons z zs =>
      injection hz with h1 h2
      obtain ⟨zs', h3, h4⟩ := ih h2
      exact ⟨z :: zs', .cons z h3, by rw [List.map_cons, h1, h4]⟩
  | swap x y l =>
    intro zs hz
    match zs, hz with
    | a :: b :: c, hz =>
      simp only [List.map_cons, List.cons.injEq] at hz
      obtain ⟨h1, h2, h3⟩ := hz
      exact ⟨b :: a :: c, .swap a b c, by simp [h1, h2, h3]⟩
  | trans _ _ ih1 ih2 =>
    intro zs hz
    obtain ⟨z1, h1, h2⟩ := ih2 hz
    obtain ⟨z2, h3, h4⟩ := ih1 h2
    exact ⟨z2, h3.trans h1, h4⟩
def fvV (g : FV) : Value := .agg #[str g.1, i64 g.2.1, .slice g.2.2.1 g.2.2.2.1 g.2.2.2.2]
theorem flat_fv (gs : List FV) : flat (gs.map fvV) = flatF gs := by
  induction gs with
  | nil => rfl
  | cons g gs ih => rw [List.map_cons, flat_cons, ih]; rfl
theorem each_fv {P : Nat → Prop} {w : World} {us : List Value} {xs : List File} (h : Each (tFile.rep P w) us xs) : ∃ zs : List (FV × File), zs.map (·.2) = xs ∧ us = (zs.map (·.1)).map fvV ∧ ∀ z ∈ zs, tFile.rep P w (fvV z.1) z.2 ∧ z.1.1 = z.2.name := by
  induction h with
  | nil => exact ⟨[], rfl, rfl, fun z hz => by cases hz⟩
  | @cons u x us xs h1 _ ih =>
    obtain ⟨zs, h2, h3, h4⟩ := ih
    have h1' := h1
    obtain ⟨a, c, rfl, _⟩ := tFile.val h1
    refine ⟨((x.name, x.size, a, x.ps.length, c), x) :: zs, by rw [List.map_cons, h2], by rw [List.map_cons, List.map_cons, ← h3]; rfl, fun z hz => ?_⟩
    rcases List.mem_cons.1 hz with rfl | hz
    · exact ⟨h1', rfl⟩
    · exact h4 z hz
theorem fv_each {P : Nat → Prop} {w : World} : ∀ {zs : List (FV × File)}, (∀ z ∈ zs, tFile.rep P w (fvV z.1) z.2) → Each (tFile.rep P w) ((zs.map (·.1)).map fvV) (zs.map (·.2))
  | [], _ => .nil
  | z :: zs, h => .cons (h z (by simp)) (fv_each (fun y hy => h y (by simp [hy])))
end files
open files
theorem SortFiles_fn {w : World} {v : Value} {xs : List File} {B Q : Nat → Prop} (hO : OwnO tFile Q 28 w v xs B) (hq : ∀ k, Q k → ¬ B k) : Fn Tryz.prog 92 [v, .func (.func 93) #[] #[]] w (fun r w2 => r = .tuple #[] ∧ ∃ ys, ys.Perm xs ∧ ys.Pairwise (fun p q => Op.bytesLess q.name p.name = false) ∧ OwnO tFile (fun k => Q k ∧ k < w.heap.size) 28 w2 v ys B ∧ Ext B w w2) := by
  rcases hO with ⟨rfl, rfl⟩ | ⟨b, hb, hlt, hl, ⟨rfl, rfl⟩ | ⟨cap, us, sp, rfl, hc, he, hB, hn⟩⟩
  · refine ⟨fun w' => Tryz.call92 _ w', fun w' hw => ?_⟩
    have h := AnyF.slices_SortFunc_none sortF none 0 (.func (.func 93) #[] #[]) w'
    refine Calls.mono h ?_
    rintro e w2 ⟨rfl, rfl⟩
    exact ⟨_, w, hw, rfl, rfl, [], .nil, .nil, OwnO.nil, .refl _⟩
  · refine ⟨fun w' => Tryz.call92 _ w', fun w' hw => ?_⟩
    have h := AnyF.slices_SortFunc_none sortF none 0 (.func (.func 93) #[] #[]) w'
    refine Calls.mono h ?_
    rintro e w2 ⟨rfl, rfl⟩
    exact ⟨_, w, hw, rfl, rfl, [], .nil, .nil, OwnO.nil, .refl _⟩
  · refine ⟨fun w' => Tryz.call92 _ w', fun w' hw => ?_⟩
    obtain ⟨zs, hz1, rfl, hz2⟩ := each_fv he
    rw [flat_fv] at hB hn
    have hB' : Blk w' b 28 (flatF (zs.map (·.1)) ++ sp) := hB.keep (by rw [hw.heap])
    have hlz : (zs.map (·.1)).length = xs.length := by rw [← hz1, List.length_map, List.length_map]
    have hsz : (zs.map (·.1)).toArray.size = xs.length := by rw [List.size_toArray]; exact hlz
    have eg : ∀ args w, (callFunc 93 args).run Tryz.prog w = .ok (.enter 93 args) w := enters_of Tryz.func93 (by kernel_rfl) rfl
    have hcon := AnyQ.slices_SortFunc sortF 3 Tryz.isAgg28 Tryz.sizeOf28 encF (fun _ => rfl) (fun x v hv => by simp [encF] at hv; rcases hv with rfl | rfl | rfl <;> rfl) (fun x y : FV => Lib.compareBytes x.1 y.1) swoNm 93 #[] b 0 cap (zs.map (·.1)).toArray w' eg (cmpLaysF b 0 (zs.map (·.1)).toArray.size w') (holdsKF_of hB') hB'.lt (by rw [hsz]; simp only [Lim] at hl; omega)
    rw [hsz] at hcon
    refine Calls.mono hcon ?_
    rintro e w2 ⟨rfl, d', n, os, hp, hs, rfl⟩
    obtain ⟨p1, p2, p3⟩ := hp
    obtain ⟨gs, rfl⟩ : ∃ gs : List FV, d' = gs.toArray := ⟨d'.toList, by simp⟩
    have hlen : gs.length = (zs.map (·.1)).length := by rw [hlz]; simpa [hsz] using p1
    have hperm : gs.Perm (zs.map (·.1)) := by
      have e1 : (gs.toArray.extract 0 xs.length).toList = gs := by rw [← hlz, ← hlen]; simp
      have e2 : ((zs.map (·.1)).toArray.extract 0 xs.length).toList = zs.map (·.1) := by rw [← hlz]; simp; exact List.take_of_length_le (by simp)
      rw [e1, e2] at p3
      exact p3
    have hsorted : gs.Pairwise (fun p q => Op.bytesLess q.1 p.1 = false) := by
      rw [List.pairwise_iff_getElem]
      intro i j hi hj hij
      have h := hs i j (Nat.zero_le _) hij (by rw [← hlz, ← hlen]; exact hj)
      rw [ltNm] at h
      have e1 : gs.toArray[i]! = gs[i] := by simp [hi]
      have e2 : gs.toArray[j]! = gs[j] := by simp [hj]
      rw [e1, e2] at h
      exact h
    obtain ⟨g1, g2⟩ := sorted_worldF (n := n) (os := os) hw hB hlen
    obtain ⟨zs', hz3, rfl⟩ := perm_lift hperm rfl
    have hname : ∀ z ∈ zs', z.1.1 = z.2.name := fun z hz => (hz2 z (hz3.mem_iff.1 hz)).2
    have hre : ∀ z ∈ zs', tFile.rep (fun k => Q k ∧ k < w.heap.size) (sortWorldK encF 3 w' b 0 n (zs'.map (·.1)).toArray os) (fvV z.1) z.2 := by
      intro z hz
      have h0 := (hz2 z (hz3.mem_iff.1 hz)).1
      generalize fvV z.1 = u at h0 ⊢
      have h1 := tFile.mono (P' := fun k => Q k ∧ k < w.heap.size) h0 (fun k h hl => ⟨h, hl⟩)
      generalize sortWorldK encF 3 w' b 0 n (zs'.map (·.1)).toArray os = w9 at g2 ⊢
      exact tFile.ext h1 g2 (fun k hk _ e => hq k hk.1 (by have e : k = b := e; rw [e]; exact hb))
    have hey := fv_each hre
    have hly : (zs'.map (·.2)).length = xs.length := by rw [← hz1, List.length_map, List.length_map]; exact hz3.length_eq
    refine ⟨_, _, .refl _, rfl, rfl, zs'.map (·.2), ?_, ?_, .inr ⟨b, hb, g1.lt, by rw [hly]; exact hl, .inr ⟨cap, _, sp, by rw [hly], by rw [hly]; exact hc, hey, by rw [flat_fv]; exact g1, ?_⟩⟩, g2.mono (by rintro k _ rfl; exact hb)⟩
    · rw [← hz1]; exact hz3.map _
    · rw [List.pairwise_map] at hsorted ⊢
      refine List.Pairwise.imp_of_mem (fun {p q} hp hq h => ?_) hsorted
      rw [← hname p hp, ← hname q hq]; exact h
    · rw [flat_fv, List.length_append, flatF_length, hlen, ← hn, List.length_append, flatF_length]
end Go.Proofs.YtpfehnopghffjaaGreatDoor
/-
  Package files: Get, Names, Room, Format.
-/
namespace Go.Proofs.YtpfehnopghffjaaGreatDoor
open Go
open room files
theorem own_cutB {w : World} {E : TypeId} {B : Nat → Prop} {a : Option Addr} {n cap : Nat} {l : Bs} (h : OwnO tByte (fun _ => False) E w (.slice a n cap) l B) {k : Nat} (hk : k ≤ n) : OwnO tByte (fun _ => False) E w (cutV 1 a cap 0 k) (l.take k) B := by
  rcases h with ⟨rfl, e⟩ | ⟨b, hb, hlt, hl, ⟨rfl, e⟩ | ⟨c, us, sp, e, hc, he, hB, hn⟩⟩
  · cases e
    obtain rfl : k = 0 := by omega
    exact .inl ⟨rfl, rfl⟩
  · cases e
    obtain rfl : k = 0 := by omega
    exact .inl ⟨rfl, rfl⟩
  · cases e
    obtain rfl : us = l.map u8 := Each.eq_map u8 he
    have ev : cutV 1 (some ⟨b, 0, none⟩) cap 0 k = .slice (some ⟨b, 0, none⟩) (l.take k).length cap := by
      unfold cutV
      rw [List.length_take, Nat.min_eq_left hk]
      congr 1
      split
      · rfl
      · simp [Addr.add]
    rw [ev]
    rw [flat_u8] at hB hn
    have e2 : (l.take k).map u8 ++ ((l.drop k).map u8 ++ sp) = l.map u8 ++ sp := by rw [← List.append_assoc, ← List.map_append, List.take_append_drop]
    refine .inr ⟨b, hb, hlt, by rw [List.length_take]; exact Nat.lt_of_le_of_lt (Nat.min_le_right _ _) hl, .inr ⟨cap, (l.take k).map u8, (l.drop k).map u8 ++ sp, rfl, by rw [List.length_take]; omega, each_u8 _, ?_, ?_⟩⟩
    · rw [flat_u8, e2]; exact hB
    · rw [flat_u8, e2]; exact hn
namespace files
theorem sectE_length (l : List Piece) : (sectE l).length ≤ 4096 := by
  unfold sectE
  split
  · rename_i h
    have hm := (check_ok h).2.2.2
    have h1 := sect_total (may_pos hm)
    have h2 := (may_length (n := 4096) hm).2
    omega
  · exact Nat.zero_le _
theorem find_pos {x : Dir} {s : Bs} (h : ¬ findF x s < 0) : ∃ i, ∃ hi : i < x.fs.length, findF x s = (i : Int) := by
  have key : ∀ (l : List File) (k : Int), 0 ≤ k → ¬ findTo s l k < 0 → ∃ i, i < l.length ∧ findTo s l k = k + (i : Int) := by
    intro l
    induction l with
    | nil => intro k _ h; exact absurd (show findTo s [] k < 0 by rw [findTo]; decide) h
    | cons f l ih =>
      intro k hk h
      rw [findTo] at h ⊢
      by_cases he : f.name = s
      · rw [if_pos he]; exact ⟨0, by simp, by simp⟩
      · rw [if_neg he] at h ⊢
        obtain ⟨i, hi, e⟩ := ih (k + 1) (by omega) h
        exact ⟨i + 1, by simpa using hi, by rw [e]; push_cast; omega⟩
  obtain ⟨i, hi, e⟩ := key x.fs 0 (by omega) h
  exact ⟨i, hi, by unfold findF; rw [e]; omega⟩
theorem sect_in {d : Disk} (hm : (mountF d).2.2 = 0) {f : File} (hf : f ∈ (mountF d).1.fs) {n : Int} (hn : n ∈ sectE f.ps) : 0 ≤ n ∧ n < d.count := by
  obtain ⟨_, _, _, hmay, hck, _⟩ := mount_may hm
  have hmp := (check_ok hck).2.2.2
  obtain ⟨q, hq, h1, h2⟩ := (sect_mem (may_pos hmp)).1 (sectE_sub hf hn)
  have h3 := hmp.1 q hq
  unfold okP at h3
  omega
theorem mount_32 (d : Disk) : (mountF d).1.fs.length ≤ 32 := by
  by_cases h : (mountF d).2.2 = 0
  · exact (mount_may h).2.2.1
  · rw [(mountF_bad h).1]; exact Nat.zero_le _
theorem sect_many {x : Dir} (hm : mayD x) {i : Nat} (hi : i < x.fs.length) : ((sectE x.fs[i].ps).length : Int) = needF x.fs[i].size ∧ 0 ≤ x.fs[i].size := by
  have ho := hm.2.2.2 i hi
  have h0 := ho.2.2.1
  refine ⟨?_, h0⟩
  rw [← ho.2.2.2.2, manyF_eq]
  unfold sectE
  split
  · rename_i h
    exact sect_total (may_pos (check_ok h).2.2.2)
  · rfl
theorem free_check (a c : Int) (l : List Piece) : checkR 4096 (freeL a c l) = 0 := by
  by_cases h : freeE a c l = 0
  · obtain ⟨h1, h2, h3, h4⟩ := freeE_in h
    rw [freeL_ok h]
    have hr := runs_may (f := fun k => !covB l k) (a := a.toNat) (n := c.toNat - a.toNat) (N := 4096) (by omega) _ rfl
    exact (may_check (N := 4096) (by omega) hr).2
  · rw [freeL_bad h]; decide
theorem write_1 : (writeF ⟨1, []⟩).2 = 0 ∧ (writeF ⟨1, []⟩).1.length = 1024 := by
  have hc : checkD ⟨1, []⟩ = 0 := by
    refine checkD_0 (by simp) ⟨⟨by decide, by decide⟩, by decide, (fun p hp => by cases hp), (fun i h => absurd h (Nat.not_lt_zero _))⟩
  have hb : ¬ 952 < (bodyD []).length := by decide
  rw [writeF_0 hc hb]
  refine ⟨rfl, ?_⟩
  exact slotsD_length (by rw [List.length_append, List.length_replicate]; exact Nat.add_sub_cancel' (Nat.le_of_not_lt hb))
theorem formatF_20 {n : Int} (h : n < 96 ∨ 4096 < n) : formatF n = (disk.nodisk, 20) := by unfold formatF; rw [if_pos h]
theorem formatF_0 {n : Int} (h : ¬ (n < 96 ∨ 4096 < n)) : formatF n = (⟨n, (writeF ⟨1, []⟩).1 ++ List.replicate (n.toNat * 128 - 1024) 0, []⟩, 0) := by unfold formatF; rw [if_neg h]
theorem getF_m {d : Disk} {s : Bs} (h : ¬ (mountF d).2.2 = 0) : getF d s = ([], (mountF d).2.2) := by unfold getF; rw [if_pos h]
theorem getF_5 {d : Disk} {s : Bs} (h : (mountF d).2.2 = 0) (h2 : ¬ nameF s = true) : getF d s = ([], 5) := by unfold getF; rw [if_neg (fun x => x h), if_pos h2]
theorem getF_6 {d : Disk} {s : Bs} (h : (mountF d).2.2 = 0) (h2 : nameF s = true) (h3 : findF (mountF d).1 s < 0) : getF d s = ([], 6) := by unfold getF; rw [if_neg (fun x => x h), if_neg (fun x => x h2), if_pos h3]
theorem getF_0 {d : Disk} {s : Bs} (h : (mountF d).2.2 = 0) (h2 : nameF s = true) {i : Nat} (hi : i < (mountF d).1.fs.length) (h3 : findF (mountF d).1 s = (i : Int)) : getF d s = (bytesF d (mountF d).1.fs[i], 0) := by
  unfold getF
  rw [if_neg (fun x => x h), if_neg (fun x => x h2), h3, if_neg (by omega), Int.toNat_natCast, List.getD_eq_getElem?_getD, List.getElem?_eq_getElem hi]
  rfl
theorem flat_step (f : Int → Bs) {l : List Int} {i : Nat} (hi : i < l.length) : (l.take (i + 1)).flatMap f = (l.take i).flatMap f ++ f l[i] := ints_step hi f
theorem roomF_m {d : Disk} (h : ¬ (mountF d).2.2 = 0) : roomF d = (0, (mountF d).2.2) := by unfold roomF; rw [if_pos h]
theorem roomF_0 {d : Disk} (h : (mountF d).2.2 = 0) : roomF d = (totalF (freeL 80 d.count (allP (mountF d).1.fs)), 0) := by unfold roomF; rw [if_neg (fun x => x h)]
end files
attribute [local irreducible] readD slotB slotF mountF slotOK checkR disk.readF findTo findF writeF nameF sectE bytesF
theorem FileGet_fn {w : World} {v : Value} {d : Disk} {s : Bs} (h : disk.tDisk.rep All w v d) (hs : s.length < Lim) (hg : GOK w) : Fn Tryz.prog 19 [v, str s] w (fun r w2 => ∃ v', r = .tuple #[v', i64 (getF d s).2] ∧ Gr w2 v' (getF d s).1 w.heap.size ∧ Ext (fun _ => False) w w2) := by
  have h0 := h
  obtain ⟨u, u', rfl, hd1, hd2, hdc⟩ := disk.tDisk.val h
  obtain ⟨a1, k1, rfl, _⟩ := Sl.val hd1
  obtain ⟨a2, k2, rfl, _⟩ := Sl.val hd2
  refine Fn.enter (fun w => Tryz.call19 _ w) Tryz.func19 rfl ?_
  refine .seq (.region ?_)
  refine .v rfl rfl (.box rfl) ?_
  rintro _ w2 ⟨rfl, N2⟩
  have B2 := N2.blk
  have X2 := N2.ext
  have z2 := N2.size
  refine .p rfl rfl (.as rfl) ?_
  refine .p rfl rfl (.as rfl) ?_
  refine .nil (.code (.seq (.keep [(2, _), (1, _)] ⟨rfl, rfl, trivial⟩ (.region ?_))))
  refine .p rfl rfl (.loadA (n := 3) rfl rfl rfl rfl rfl (B2.ext (S := fun _ => False) (by repeat (first | exact Ext.refl _ | assumption | refine Ext.trans (by assumption) ?_)) (fun x => x)).cells) ?_
  refine .call (first := []) (captured := []) rfl rfl rfl rfl (Mount_fn (disk.tDisk.ext0 h0 (by repeat (first | exact Ext.refl _ | assumption | refine Ext.trans (by assumption) ?_))) (hg.ext0 (by repeat (first | exact Ext.refl _ | assumption | refine Ext.trans (by assumption) ?_)))) ?_
  rintro _ w18 ⟨u18, rfl, R18, X18⟩
  have z18 := X18.size
  obtain ⟨af, kf, rfl, hf, hgen⟩ := tDir.val R18
  refine .p rfl rfl (.mv rfl) ?_
  refine .p rfl rfl (.extract rfl rfl) ?_
  refine .p rfl rfl (.extract rfl rfl) ?_
  refine .v rfl rfl (.alloc rfl rfl) ?_
  rintro _ wn6 ⟨rfl, N6⟩
  refine .s rfl (.storeAll (n := 2) rfl rfl rfl rfl rfl N6.blk rfl) ?_
  intro w6 P6
  have Y6 := N6.ext.then P6.ext (by rintro k rfl _; exact Nat.le_refl _)
  have zy6 := Y6.size
  have B6 := P6.blk
  clear P6 N6
  refine .p rfl rfl (.as rfl) ?_
  refine .nil (.code (.seq (.seq (.keep [(7, _), (6, _), (2, _), (1, _)] ⟨rfl, rfl, rfl, rfl, trivial⟩ (.region ?_)))))
  refine .p rfl rfl (.mv rfl) ?_
  refine .p rfl rfl (.ne rfl rfl) ?_
  refine .nil (.code (.keep [(22, _), (7, _), (6, _), (2, _), (1, _)] ⟨rfl, rfl, rfl, rfl, rfl, trivial⟩ ?_))
  refine .condD rfl (fun c22 => ?_) (fun c22 => ?_)
  · refine .seq (.keep [(7, _)] ⟨rfl, trivial⟩ (.region ?_))
    refine .p rfl rfl (.mv rfl) ?_
    refine .p rfl rfl (.as rfl) ?_
    refine .p rfl rfl (.as rfl) ?_
    refine .nil (.code ?_)
    refine .ret _ rfl ?_
    rw [getF_m c22]
    exact ⟨_, rfl, OwnO.nil, (by repeat (first | exact Ext.refl _ | assumption | refine Ext.trans (by assumption) ?_))⟩
  · have hm : (mountF d).2.2 = 0 := Decidable.not_not.1 c22
    obtain ⟨hck, h96, _, hmay, hckr, hup⟩ := mount_may hm
    refine .skip (.code (.seq (.seq (.keep [(6, _), (2, _), (1, _)] ⟨rfl, rfl, rfl, trivial⟩ (.region ?_)))))
    refine .p rfl rfl (.mv rfl) ?_
    refine .call (first := []) (captured := []) rfl rfl rfl rfl (name_fn hs) ?_
    rintro _ w25 ⟨rfl, X25⟩
    have z25 := X25.size
    refine .p rfl rfl (.not rfl) ?_
    refine .nil (.code (.keep [(26, _), (6, _), (2, _), (1, _)] ⟨rfl, rfl, rfl, rfl, trivial⟩ ?_))
    refine .cond rfl (fun c26 => ?_) (fun c26 => ?_)
    · refine .seq (.keep [] trivial (.region ?_))
      refine .p rfl rfl (.as rfl) ?_
      refine .p rfl rfl (.as rfl) ?_
      refine .nil (.code ?_)
      refine .ret _ rfl ?_
      rw [getF_5 hm (by simpa using c26)]
      exact ⟨_, rfl, OwnO.nil, (by repeat (first | exact Ext.refl _ | assumption | refine Ext.trans (by assumption) ?_))⟩
    · have hnm : nameF s = true := by simpa using c26
      refine .skip (.code (.seq (.keep [(6, _), (2, _), (1, _)] ⟨rfl, rfl, rfl, trivial⟩ (.region ?_))))
      refine .p rfl rfl (.loadA (n := 2) rfl rfl rfl rfl rfl (B6.ext (S := fun _ => False) (by repeat (first | exact Ext.refl _ | assumption | refine Ext.trans (by assumption) ?_)) (fun x => x)).cells) ?_
      refine .p rfl rfl (.mv rfl) ?_
      refine .call (first := []) (captured := []) rfl rfl rfl rfl (find_fn (x := (mountF d).1) (s := s) (allOf (tDir.ext0 R18 (by repeat (first | exact Ext.refl _ | assumption | refine Ext.trans (by assumption) ?_))))) ?_
      rintro _ w29 ⟨rfl, X29⟩
      have z29 := X29.size
      refine .p rfl rfl (.as rfl) ?_
      refine .nil (.code (.seq (.seq (.keep [(8, _), (6, _), (2, _)] ⟨rfl, rfl, rfl, trivial⟩ (.region ?_)))))
      refine .p rfl rfl (.mv rfl) ?_
      refine .p rfl rfl (.lt rfl rfl) ?_
      refine .nil (.code (.keep [(31, _), (8, _), (6, _), (2, _)] ⟨rfl, rfl, rfl, rfl, trivial⟩ ?_))
      refine .condD rfl (fun c31 => ?_) (fun c31 => ?_)
      · refine .seq (.keep [] trivial (.region ?_))
        refine .p rfl rfl (.as rfl) ?_
        refine .p rfl rfl (.as rfl) ?_
        refine .nil (.code ?_)
        refine .ret _ rfl ?_
        rw [getF_6 hm hnm c31]
        exact ⟨_, rfl, OwnO.nil, (by repeat (first | exact Ext.refl _ | assumption | refine Ext.trans (by assumption) ?_))⟩
      · obtain ⟨i, hi, hfi⟩ := find_pos c31
        rw [hfi]
        obtain ⟨b1, o1, q1, ue1, e1, _, hcs, hre⟩ := Sl.at hf (List.getElem?_eq_getElem hi)
        cases e1
        obtain ⟨fa1, fc1, rfl, hps, hnm1, hsz1⟩ := tFile.val hre
        obtain ⟨hmany, hsz0⟩ := sect_many hmay hi
        unfold needF at hmany
        refine .skip (.code (.seq (.keep [(8, _), (6, _), (2, _)] ⟨rfl, rfl, rfl, trivial⟩ (.region ?_))))
        refine .p rfl rfl (.as rfl) ?_
        refine .nil (.code (.seq (.region ?_)))
        refine .p rfl rfl (.fieldAddr rfl rfl rfl rfl) ?_
        refine .p rfl rfl (.load rfl rfl rfl ((B6.ext (S := fun _ => False) (by repeat (first | exact Ext.refl _ | assumption | refine Ext.trans (by assumption) ?_)) (fun x => x)).cell 1)) ?_
        refine .p rfl rfl (.mv rfl) ?_
        refine .p rfl rfl (.indexAddr (s := 3) rfl rfl rfl rfl (by omega)) ?_
        refine .p rfl rfl (.fieldAddr rfl rfl rfl rfl) ?_
        refine .p rfl rfl (.load rfl rfl rfl ((hcs.ext (S := fun _ => False) (by repeat (first | exact Ext.refl _ | assumption | refine Ext.trans (by assumption) ?_)) (fun x => x)) 2 _ rfl)) ?_
        refine .call (first := []) (captured := []) rfl rfl rfl rfl (Sectors_fn (allOf ((Sl tPiece).ext0 hps (by repeat (first | exact Ext.refl _ | assumption | refine Ext.trans (by assumption) ?_))))) ?_
        rintro _ w39 ⟨v39, rfl, O39, X39⟩
        have z39 := X39.size
        have O39 : OwnO tInt (fun _ => False) 3 w39 v39 (sectE (mountF d).1.fs[i].ps) (fun k => w29.heap.size ≤ k) := by unfold sectE; exact O39
        have hsl := sectE_length (mountF d).1.fs[i].ps
        obtain ⟨aS, kS, rfl, hkS⟩ := OwnO.val O39
        have hS := OwnO.rep (R := All) O39 (fun _ _ _ => trivial) (fun _ h _ => h.elim)
        refine .p rfl rfl (.mv rfl) ?_
        refine .p rfl rfl (.extract rfl rfl) ?_
        refine .p rfl rfl (.extract rfl rfl) ?_
        refine .p rfl rfl (.as rfl) ?_
        refine .p rfl rfl (.as rfl) ?_
        refine .nil (.code (.seq (.seq (.keep [(10, _), (9, _), (8, _), (6, _), (2, _)] ⟨rfl, rfl, rfl, rfl, rfl, trivial⟩ (.region ?_)))))
        refine .p rfl rfl (.mv rfl) ?_
        refine .p rfl rfl (.len rfl rfl) ?_
        refine .p rfl rfl (.mv rfl) ?_
        refine .nil (.code (.block (.keep [(44, _), (43, _), (42, _), (9, _), (8, _), (6, _), (2, _)] ⟨rfl, rfl, rfl, rfl, rfl, rfl, rfl, trivial⟩ ?_)))
        refine .loop (S := Nat × Bs × Value × World) (fun s => [(2, .pointer (some ⟨w.heap.size, 0, none⟩)), (6, .pointer (some ⟨w18.heap.size, 0, none⟩)), (8, i64 (i : Nat)), (9, s.2.2.1), (42, .slice aS (sectE (mountF d).1.fs[i].ps).length kS), (43, i64 (sectE (mountF d).1.fs[i].ps).length), (44, i64 s.1)]) (fun s => s.2.2.2) (fun s => s.1 ≤ (sectE (mountF d).1.fs[i].ps).length ∧ s.2.1 = ((sectE (mountF d).1.fs[i].ps).take s.1).flatMap (fun n => disk.readF d n) ∧ s.2.1.length = s.1 * 128 ∧ Gr s.2.2.2 s.2.2.1 s.2.1 w39.heap.size ∧ Ext (fun _ => False) w39 s.2.2.2) (fun s => (sectE (mountF d).1.fs[i].ps).length - s.1) (0, [], .slice none 0 0, w39) ⟨rfl, rfl, rfl, rfl, rfl, rfl, rfl, trivial⟩ rfl ⟨Nat.zero_le _, rfl, rfl, OwnO.nil, .refl _⟩ ?_
        rintro ⟨j, acc, vi, wi⟩ J ⟨hj', ha, hal, hO, hX⟩ again
        simp only at hj' ha hal hO hX
        have zi := hX.size
        change G _ [(2, .pointer (some ⟨w.heap.size, 0, none⟩)), (6, .pointer (some ⟨w18.heap.size, 0, none⟩)), (8, i64 (i : Nat)), (9, vi), (42, .slice aS (sectE (mountF d).1.fs[i].ps).length kS), (43, i64 (sectE (mountF d).1.fs[i].ps).length), (44, i64 j)] _ _ wi
        refine .seq (.region ?_)
        refine .p rfl rfl (.lt rfl rfl) ?_
        refine .nil (.code (.seq ?_))
        refine .condD rfl (fun c45 => ?_) (fun c45 => ?_)
        · have hj : j < (sectE (mountF d).1.fs[i].ps).length := by omega
          obtain ⟨bs, os, e, _, hci, hri⟩ := Sl.intAt (tInts.ext0 hS hX) hj
          cases e
          have hin := sect_in hm (List.getElem_mem hi) (List.getElem_mem hj)
          have hrl := fread_length hck hin.1 hin.2
          refine .skip (.code (.seq (.block (.seq (.keep [(2, _), (6, _), (8, _), (9, _), (42, _), (43, _), (44, _)] ⟨rfl, rfl, rfl, rfl, rfl, rfl, rfl, trivial⟩ (.region ?_))))))
          refine .p rfl rfl (.indexAddr1 rfl rfl rfl rfl (by omega)) ?_
          refine .p rfl rfl (.load rfl rfl rfl hci) ?_
          refine .p rfl rfl (.as rfl) ?_
          refine .nil (.code (.seq (.keep [(13, _), (2, _), (6, _), (8, _), (9, _), (42, _), (43, _), (44, _)] ⟨rfl, rfl, rfl, rfl, rfl, rfl, rfl, rfl, trivial⟩ (.region ?_))))
          refine .p rfl rfl (.loadA (n := 3) rfl rfl rfl rfl rfl (B2.ext (S := fun _ => False) (by repeat (first | exact Ext.refl _ | assumption | refine Ext.trans (by assumption) ?_)) (fun x => x)).cells) ?_
          refine .p rfl rfl (.mv rfl) ?_
          refine .call (first := []) (captured := []) rfl rfl rfl rfl (Read0_fn (n := (sectE (mountF d).1.fs[i].ps)[j]) (disk.tDisk.ext0 h0 (by repeat (first | exact Ext.refl _ | assumption | refine Ext.trans (by assumption) ?_))) (disk.asked_of hck hin.1 hin.2)) ?_
          rintro _ w51 ⟨v51, rfl, R51, X51⟩
          have z51 := X51.size
          refine .p rfl rfl (.mv rfl) ?_
          refine .p rfl rfl (.extract rfl rfl) ?_
          refine .p rfl rfl (.extract rfl rfl) ?_
          refine .p rfl rfl (.as rfl) ?_
          refine .p rfl rfl (.as rfl) ?_
          refine .nil (.code (.keep [(14, _), (2, _), (6, _), (8, _), (9, _), (42, _), (43, _), (44, _)] ⟨rfl, rfl, rfl, rfl, rfl, rfl, rfl, rfl, trivial⟩ (.region ?_)))
          refine .p rfl rfl (.mv rfl) ?_
          refine .p rfl rfl (.mv rfl) ?_
          refine .v rfl rfl (.appendLo (t := tByte) (eb := 1) rfl (OwnO.ext0 hO X51) (fun k hk => by show w39.heap.size ≤ k; omega) rfl (Gr.holds R51) rfl rfl rfl rfl rfl rfl rfl (by omega) (by simp only [Lim]; omega) (fun _ h _ => h.elim)) ?_
          rintro v56 w56 ⟨O56, A56⟩
          have z56 := A56.size
          refine .p rfl rfl (.as rfl) ?_
          refine .nil (.blk (.code (.keep [(9, _), (2, _), (6, _), (8, _), (42, _), (43, _), (44, _)] ⟨rfl, rfl, rfl, rfl, rfl, rfl, rfl, trivial⟩ (.region ?_))))
          refine .p rfl rfl (.add rfl rfl (by omega)) ?_
          refine .p rfl rfl (.mv rfl) ?_
          refine .nil ?_
          exact (again (j + 1, acc ++ disk.readF d (sectE (mountF d).1.fs[i].ps)[j], v56, w56) ⟨by show j + 1 ≤ _; omega, by show _ = _; rw [flat_step _ hj, ha], by show (acc ++ _).length = (j + 1) * 128; rw [List.length_append]; omega, O56, (hX.trans X51).then A56 (fun k h _ => h)⟩ (by show _ - (j + 1) < _ - j; omega)).of ⟨rfl, rfl, rfl, rfl, rfl, rfl, rfl, trivial⟩
        · obtain rfl : j = (sectE (mountF d).1.fs[i].ps).length := by omega
          rw [List.take_length] at ha
          obtain ⟨ab, kb, rfl, hkb⟩ := OwnO.val hO
          refine .exit rfl (.code (.seq (.keep [(6, _), (8, _), (9, _)] ⟨rfl, rfl, rfl, trivial⟩ (.region ?_))))
          refine .p rfl rfl (.mv rfl) ?_
          refine .p rfl rfl (.fieldAddr rfl rfl rfl rfl) ?_
          refine .p rfl rfl (.load rfl rfl rfl ((B6.ext (S := fun _ => False) (by repeat (first | exact Ext.refl _ | assumption | refine Ext.trans (by assumption) ?_)) (fun x => x)).cell 1)) ?_
          refine .p rfl rfl (.mv rfl) ?_
          refine .p rfl rfl (.indexAddr (s := 3) rfl rfl rfl rfl (by omega)) ?_
          refine .p rfl rfl (.fieldAddr rfl rfl rfl rfl) ?_
          refine .p rfl rfl (.load rfl rfl rfl ((hcs.ext (S := fun _ => False) (by repeat (first | exact Ext.refl _ | assumption | refine Ext.trans (by assumption) ?_)) (fun x => x)) 1 _ rfl)) ?_
          refine .p rfl rfl (.cutHi (s := 1) rfl rfl rfl rfl (by omega)) ?_
          refine .p rfl rfl (.as rfl) ?_
          refine .p rfl rfl (.as rfl) ?_
          refine .nil (.code ?_)
          refine .ret _ rfl ?_
          rw [getF_0 hm hnm hi hfi]
          refine ⟨_, rfl, ?_, (by repeat (first | exact Ext.refl _ | assumption | refine Ext.trans (by assumption) ?_))⟩
          show Gr wi _ (bytesF d (mountF d).1.fs[i]) _
          unfold bytesF
          rw [← ha]
          exact OwnO.mono (own_cutB hO (by omega)) (fun _ h _ => h) (fun k h _ => by have h : w39.heap.size ≤ k := h; show w.heap.size ≤ k; omega)
theorem Names_fn {w : World} {v : Value} {d : Disk} (h : disk.tDisk.rep All w v d) (hg : GOK w) : Fn Tryz.prog 21 [v] w (fun r w2 => ∃ v', r = .tuple #[v', i64 (namesF d).2] ∧ OwnO tStr (fun _ => False) 9 w2 v' (namesF d).1 (fun k => w.heap.size ≤ k) ∧ Ext (fun _ => False) w w2) := by
  have h0 := h
  obtain ⟨u, u', rfl, hd1, hd2, hdc⟩ := disk.tDisk.val h
  obtain ⟨a1, k1, rfl, _⟩ := Sl.val hd1
  obtain ⟨a2, k2, rfl, _⟩ := Sl.val hd2
  refine Fn.enter (fun w => Tryz.call21 _ w) Tryz.func21 rfl ?_
  refine .seq (.region ?_)
  refine .v rfl rfl (.box rfl) ?_
  rintro _ w1 ⟨rfl, N1⟩
  have B1 := N1.blk
  have X1 := N1.ext
  have z1 := N1.size
  refine .p rfl rfl (.as rfl) ?_
  refine .p rfl rfl (.as rfl) ?_
  refine .nil (.code (.seq (.keep [(1, _)] ⟨rfl, trivial⟩ (.region ?_))))
  refine .p rfl rfl (.loadA (n := 3) rfl rfl rfl rfl rfl (B1.ext (S := fun _ => False) (by repeat (first | exact Ext.refl _ | assumption | refine Ext.trans (by assumption) ?_)) (fun x => x)).cells) ?_
  refine .call (first := []) (captured := []) rfl rfl rfl rfl (Mount_fn (disk.tDisk.ext0 h0 (by repeat (first | exact Ext.refl _ | assumption | refine Ext.trans (by assumption) ?_))) (hg.ext0 (by repeat (first | exact Ext.refl _ | assumption | refine Ext.trans (by assumption) ?_)))) ?_
  rintro _ w11 ⟨u11, rfl, R11, X11⟩
  have z11 := X11.size
  obtain ⟨af, kf, rfl, hf, hgen⟩ := tDir.val R11
  refine .p rfl rfl (.mv rfl) ?_
  refine .p rfl rfl (.extract rfl rfl) ?_
  refine .p rfl rfl (.extract rfl rfl) ?_
  refine .v rfl rfl (.alloc rfl rfl) ?_
  rintro _ wn4 ⟨rfl, N4⟩
  refine .s rfl (.storeAll (n := 2) rfl rfl rfl rfl rfl N4.blk rfl) ?_
  intro w4 P4
  have Y4 := N4.ext.then P4.ext (by rintro k rfl _; exact Nat.le_refl _)
  have zy4 := Y4.size
  have B4 := P4.blk
  clear P4 N4
  refine .p rfl rfl (.as rfl) ?_
  refine .nil (.code (.seq (.keep [(5, _), (4, _)] ⟨rfl, rfl, trivial⟩ (.region ?_))))
  refine .p rfl rfl (.as rfl) ?_
  refine .nil (.code (.seq (.seq (.region ?_))))
  refine .p rfl rfl (.fieldAddr rfl rfl rfl rfl) ?_
  refine .p rfl rfl (.load rfl rfl rfl ((B4.ext (S := fun _ => False) (by repeat (first | exact Ext.refl _ | assumption | refine Ext.trans (by assumption) ?_)) (fun x => x)).cell 1)) ?_
  refine .p rfl rfl (.len rfl rfl) ?_
  refine .p rfl rfl (.mv rfl) ?_
  refine .nil (.code (.block (.keep [(17, _), (16, _), (15, _), (6, _), (5, _)] ⟨rfl, rfl, rfl, rfl, rfl, trivial⟩ ?_)))
  refine .loop (S := Nat × List Bs × Value × World) (fun s => [(5, i64 (mountF d).2.2), (6, s.2.2.1), (15, .slice af (mountF d).1.fs.length kf), (16, i64 (mountF d).1.fs.length), (17, i64 s.1)]) (fun s => s.2.2.2) (fun s => s.1 ≤ (mountF d).1.fs.length ∧ s.2.1 = ((mountF d).1.fs.take s.1).map (·.name) ∧ OwnO tStr (fun _ => False) 9 s.2.2.2 s.2.2.1 s.2.1 (fun k => w4.heap.size ≤ k) ∧ Ext (fun _ => False) w4 s.2.2.2) (fun s => (mountF d).1.fs.length - s.1) (0, [], .slice none 0 0, w4) ⟨rfl, rfl, rfl, rfl, rfl, trivial⟩ rfl ⟨Nat.zero_le _, rfl, OwnO.nil, .refl _⟩ ?_
  rintro ⟨i, acc, vi, wi⟩ J ⟨hi', ha, hO, hX⟩ again
  simp only at hi' ha hO hX
  have zi := hX.size
  have hal : acc.length = i := by rw [ha, List.length_map, List.length_take]; omega
  change G _ [(5, i64 (mountF d).2.2), (6, vi), (15, .slice af (mountF d).1.fs.length kf), (16, i64 (mountF d).1.fs.length), (17, i64 i)] _ _ wi
  refine .seq (.region ?_)
  refine .p rfl rfl (.lt rfl rfl) ?_
  refine .nil (.code (.seq ?_))
  refine .condD rfl (fun c18 => ?_) (fun c18 => ?_)
  · have hi : i < (mountF d).1.fs.length := by omega
    obtain ⟨b1, o1, q1, ue1, e1, _, hcs, hre⟩ := Sl.at hf (List.getElem?_eq_getElem hi)
    cases e1
    obtain ⟨fa1, fc1, rfl, hps, hnm1, hsz1⟩ := tFile.val hre
    have hlim := mount_32 d
    refine .skip (.code (.seq (.block (.seq (.keep [(5, _), (6, _), (15, _), (16, _), (17, _)] ⟨rfl, rfl, rfl, rfl, rfl, trivial⟩ (.region ?_))))))
    refine .p rfl rfl (.indexAddr (s := 3) rfl rfl rfl rfl (by omega)) ?_
    refine .p rfl rfl (.loadA (n := 3) rfl rfl rfl rfl rfl (hcs.ext (S := fun _ => False) (by repeat (first | exact Ext.refl _ | assumption | refine Ext.trans (by assumption) ?_)) (fun x => x))) ?_
    refine .v rfl rfl (.alloc rfl rfl) ?_
    rintro _ wn8 ⟨rfl, N8⟩
    refine .s rfl (.storeAll (n := 3) rfl rfl rfl rfl rfl N8.blk rfl) ?_
    intro w8 P8
    have Y8 := N8.ext.then P8.ext (by rintro k rfl _; exact Nat.le_refl _)
    have zy8 := Y8.size
    have B8 := P8.blk
    clear P8 N8
    refine .nil (.code (.keep [(8, _), (5, _), (6, _), (15, _), (16, _), (17, _)] ⟨rfl, rfl, rfl, rfl, rfl, rfl, trivial⟩ (.region ?_)))
    refine .p rfl rfl (.mv rfl) ?_
    refine .p rfl rfl (.fieldAddr rfl rfl rfl rfl) ?_
    refine .p rfl rfl (.load rfl rfl rfl (B8.cell 0)) ?_
    refine .v rfl rfl (.lits rfl rfl (fun _ => by kernel_rfl)) ?_
    rintro _ w24 ⟨rfl, N24⟩
    have z24 := N24.size
    have X24 := N24.ext
    refine .v rfl rfl (.appendLo (t := tStr) (xs := acc) (ys := [(mountF d).1.fs[i].name]) (eb := 16) rfl (OwnO.ext0 hO (by repeat (first | exact Ext.refl _ | assumption | refine Ext.trans (by assumption) ?_))) (fun k hk => by show w4.heap.size ≤ k; omega) rfl (.inr (New.holds (t := tStr) (us := [_]) (xs := [(mountF d).1.fs[i].name]) N24 (.cons ⟨rfl, hnm1⟩ .nil) rfl)) rfl rfl rfl rfl rfl rfl rfl (by simp; omega) (by simp [Lim]; omega) (fun _ h _ => h.elim)) ?_
    rintro v25 w25 ⟨O25, A25⟩
    have z25 := A25.size
    refine .p rfl rfl (.as rfl) ?_
    refine .nil (.blk (.code (.keep [(6, _), (5, _), (15, _), (16, _), (17, _)] ⟨rfl, rfl, rfl, rfl, rfl, trivial⟩ (.region ?_))))
    refine .p rfl rfl (.add rfl rfl (by omega)) ?_
    refine .p rfl rfl (.mv rfl) ?_
    refine .nil ?_
    exact (again (i + 1, acc ++ [(mountF d).1.fs[i].name], v25, w25) ⟨by show i + 1 ≤ _; omega, by show _ = _; rw [List.take_succ_eq_append_getElem hi, List.map_append, ha]; rfl, O25, ((hX.trans Y8).trans X24).then A25 (fun k h _ => h)⟩ (by show _ - (i + 1) < _ - i; omega)).of ⟨rfl, rfl, rfl, rfl, rfl, trivial⟩
  · obtain rfl : i = (mountF d).1.fs.length := by omega
    rw [List.take_length] at ha
    refine .exit rfl (.code (.seq (.keep [(5, _), (6, _)] ⟨rfl, rfl, trivial⟩ (.region ?_))))
    refine .p rfl rfl (.mv rfl) ?_
    refine .p rfl rfl (.mv rfl) ?_
    refine .p rfl rfl (.as rfl) ?_
    refine .p rfl rfl (.as rfl) ?_
    refine .nil (.code ?_)
    refine .ret _ rfl ?_
    unfold namesF
    rw [← ha]
    exact ⟨_, rfl, OwnO.mono hO (fun _ h _ => h) (fun k h _ => by have h : w4.heap.size ≤ k := h; show w.heap.size ≤ k; omega), (by repeat (first | exact Ext.refl _ | assumption | refine Ext.trans (by assumption) ?_))⟩
theorem Room_fn {w : World} {v : Value} {d : Disk} (h : disk.tDisk.rep All w v d) (hg : GOK w) : Fn Tryz.prog 23 [v] w (fun r w2 => r = .tuple #[i64 (roomF d).1, i64 (roomF d).2] ∧ Ext (fun _ => False) w w2) := by
  have h0 := h
  obtain ⟨u, u', rfl, hd1, hd2, hdc⟩ := disk.tDisk.val h
  obtain ⟨a1, k1, rfl, _⟩ := Sl.val hd1
  obtain ⟨a2, k2, rfl, _⟩ := Sl.val hd2
  refine Fn.enter (fun w => Tryz.call23 _ w) Tryz.func23 rfl ?_
  refine .seq (.region ?_)
  refine .v rfl rfl (.box rfl) ?_
  rintro _ w1 ⟨rfl, N1⟩
  have B1 := N1.blk
  have X1 := N1.ext
  have z1 := N1.size
  refine .p rfl rfl (.as rfl) ?_
  refine .p rfl rfl (.as rfl) ?_
  refine .nil (.code (.seq (.keep [(1, _)] ⟨rfl, trivial⟩ (.region ?_))))
  refine .p rfl rfl (.loadA (n := 3) rfl rfl rfl rfl rfl (B1.ext (S := fun _ => False) (by repeat (first | exact Ext.refl _ | assumption | refine Ext.trans (by assumption) ?_)) (fun x => x)).cells) ?_
  refine .call (first := []) (captured := []) rfl rfl rfl rfl (Mount_fn (disk.tDisk.ext0 h0 (by repeat (first | exact Ext.refl _ | assumption | refine Ext.trans (by assumption) ?_))) (hg.ext0 (by repeat (first | exact Ext.refl _ | assumption | refine Ext.trans (by assumption) ?_)))) ?_
  rintro _ w12 ⟨u12, rfl, R12, X12⟩
  have z12 := X12.size
  obtain ⟨af, kf, rfl, hf, hgen⟩ := tDir.val R12
  refine .p rfl rfl (.mv rfl) ?_
  refine .p rfl rfl (.extract rfl rfl) ?_
  refine .p rfl rfl (.extract rfl rfl) ?_
  refine .v rfl rfl (.alloc rfl rfl) ?_
  rintro _ wn4 ⟨rfl, N4⟩
  refine .s rfl (.storeAll (n := 2) rfl rfl rfl rfl rfl N4.blk rfl) ?_
  intro w4 P4
  have Y4 := N4.ext.then P4.ext (by rintro k rfl _; exact Nat.le_refl _)
  have zy4 := Y4.size
  have B4 := P4.blk
  clear P4 N4
  refine .p rfl rfl (.as rfl) ?_
  refine .nil (.code (.seq (.seq (.keep [(5, _), (4, _), (1, _)] ⟨rfl, rfl, rfl, trivial⟩ (.region ?_)))))
  refine .p rfl rfl (.mv rfl) ?_
  refine .p rfl rfl (.ne rfl rfl) ?_
  refine .nil (.code (.keep [(16, _), (5, _), (4, _), (1, _)] ⟨rfl, rfl, rfl, rfl, trivial⟩ ?_))
  refine .condD rfl (fun c16 => ?_) (fun c16 => ?_)
  · refine .seq (.keep [(5, _)] ⟨rfl, trivial⟩ (.region ?_))
    refine .p rfl rfl (.mv rfl) ?_
    refine .p rfl rfl (.as rfl) ?_
    refine .p rfl rfl (.as rfl) ?_
    refine .nil (.code ?_)
    refine .ret _ rfl ?_
    rw [roomF_m c16]
    exact ⟨rfl, (by repeat (first | exact Ext.refl _ | assumption | refine Ext.trans (by assumption) ?_))⟩
  · have hm : (mountF d).2.2 = 0 := Decidable.not_not.1 c16
    obtain ⟨hck, h96, _, hmay, hckr, hup⟩ := mount_may hm
    refine .skip (.code (.seq (.keep [(4, _), (1, _)] ⟨rfl, rfl, trivial⟩ (.mix (fun _ => False) [3, 4] (by kernel_rfl) (by kernel_rfl) (by kernel_rfl) ?_))))
    refine .p rfl rfl rfl (fun wx hx => .fieldAddr rfl rfl rfl rfl) ?_
    refine .p rfl rfl rfl (fun wx hx => .load rfl rfl rfl ((B1.ext (S := fun _ => False) (Ext.trans (by repeat (first | exact Ext.refl _ | assumption | refine Ext.trans (by assumption) ?_)) hx) (fun x => x)).cell 0)) ?_
    refine .p rfl rfl rfl (fun wx hx => .loadA (n := 2) rfl rfl rfl rfl rfl (B4.ext (S := fun _ => False) (Ext.trans (by repeat (first | exact Ext.refl _ | assumption | refine Ext.trans (by assumption) ?_)) hx) (fun x => x)).cells) ?_
    refine .call (first := []) (captured := []) rfl rfl rfl rfl rfl (pieces_fn (x := (mountF d).1) (allOf (tDir.ext0 R12 (by repeat (first | exact Ext.refl _ | assumption | refine Ext.trans (by assumption) ?_)))) (small_dir hmay)) (by rintro _ _ ⟨_, hx⟩; exact Ext.trans (by repeat (first | exact Ext.refl _ | assumption | refine Ext.trans (by assumption) ?_)) hx) ?_
    rintro v22 w22 ⟨O22, X22⟩
    have z22 := X22.size
    refine .call (first := []) (captured := []) rfl rfl rfl rfl rfl (Free_fn (first := 80) (count := d.count) (OwnO.rep O22 (R := All) (fun _ _ _ => trivial) (fun _ h _ => h.elim))) (by rintro _ _ ⟨_, _, _, hx⟩; exact Ext.trans (by repeat (first | exact Ext.refl _ | assumption | refine Ext.trans (by assumption) ?_)) hx) ?_
    rintro _ w23 ⟨v23, rfl, O23, X23⟩
    have z23 := X23.size
    refine .p rfl rfl rfl (fun wx hx => .mv rfl) ?_
    refine .p rfl rfl rfl (fun wx hx => .extract rfl rfl) ?_
    refine .p rfl rfl rfl (fun wx hx => .extract rfl rfl) ?_
    refine .p rfl rfl rfl (fun wx hx => .as rfl) ?_
    refine .p rfl rfl rfl (fun wx hx => .as rfl) ?_
    refine .nil (.code (.seq (.keep [(6, _)] ⟨rfl, trivial⟩ (.region ?_))))
    refine .p rfl rfl (.mv rfl) ?_
    refine .call (first := []) (captured := []) rfl rfl rfl rfl (RoomMany_fn (OwnO.rep O23 (R := All) (fun _ _ _ => trivial) (fun _ h _ => h.elim))) ?_
    rintro _ w28 ⟨rfl, X28⟩
    have z28 := X28.size
    refine .p rfl rfl (.mv rfl) ?_
    refine .p rfl rfl (.extract rfl rfl) ?_
    refine .p rfl rfl (.extract rfl rfl) ?_
    refine .p rfl rfl (.as rfl) ?_
    refine .p rfl rfl (.as rfl) ?_
    refine .nil (.code (.seq (.keep [(8, _)] ⟨rfl, trivial⟩ (.region ?_))))
    refine .p rfl rfl (.mv rfl) ?_
    refine .p rfl rfl (.as rfl) ?_
    refine .p rfl rfl (.as rfl) ?_
    refine .nil (.code ?_)
    refine .ret _ rfl ?_
    rw [roomF_0 hm]
    refine ⟨?_, (by repeat (first | exact Ext.refl _ | assumption | refine Ext.trans (by assumption) ?_))⟩
    rw [if_pos (free_check 80 d.count (allP (mountF d).1.fs))]
    rfl
theorem NewB_fn {w : World} {n : Int} (hn : 1 ≤ n ∧ n ≤ 4096) : Fn Tryz.prog 38 [i64 n] w (fun r w2 => ∃ b, r = .tuple #[.agg #[i64 n, .slice (some ⟨b, 0, none⟩) (n.toNat * 128) (n.toNat * 128), .slice none 0 0], i64 0] ∧ Blk w2 b 5 (List.replicate (n.toNat * 128) (.int .u8 0)) ∧ w.heap.size < b ∧ Ext (fun _ => False) w w2) := by
  refine Fn.enter (fun w => Tryz.call38 _ w) Tryz.func38 rfl ?_
  refine .seq (.region ?_)
  refine .v rfl rfl (.alloc rfl rfl) ?_
  rintro _ w2 ⟨rfl, N2⟩
  refine .p rfl rfl (.as rfl) ?_
  refine .nil (.code (.seq (.seq (.keep [(2, _), (0, _)] ⟨rfl, rfl, trivial⟩ (.region ?_)))))
  refine .p rfl rfl (.mv rfl) ?_
  refine .p rfl rfl (.no (.lt rfl rfl) (by omega)) ?_
  refine .p rfl rfl (.mv rfl) ?_
  refine .p rfl rfl (.mv rfl) ?_
  refine .p rfl rfl (.no (.gt rfl rfl) (by omega)) ?_
  refine .p rfl rfl (.pickF rfl rfl) ?_
  refine .nil (.code (.keep [(9, _), (2, _), (0, _)] ⟨rfl, rfl, rfl, trivial⟩ (.condF rfl (.skip (.code (.seq (.keep [(2, _), (0, _)] ⟨rfl, rfl, trivial⟩ (.region ?_))))))))
  refine .p rfl rfl (.mv rfl) ?_
  refine .p rfl rfl (.mv rfl) ?_
  refine .p rfl rfl (.mul rfl rfl (by omega)) ?_
  refine .v rfl rfl (.make (eb := 1) rfl rfl rfl rfl rfl rfl rfl rfl (by omega)) ?_
  rintro _ w14 ⟨rfl, N14⟩
  refine .p rfl rfl (.build (cs := [i64 n, .slice (some ⟨w2.heap.size, 0, none⟩) (n * 128).toNat (n * 128).toNat, .slice none 0 0]) rfl (fun _ => by kernel_rfl)) ?_
  refine .s rfl (.storeAll (n := 3) rfl rfl rfl rfl rfl (N2.blk.ext N14.ext (fun x => x)) rfl) ?_
  intro w15 P15
  have X15 := (N2.ext.trans N14.ext).then P15.ext (by rintro k rfl _; exact Nat.le_refl _)
  have hz : w2.heap.size = w.heap.size + 1 := N2.size
  refine .p rfl rfl (.as rfl) ?_
  refine .nil (.code ?_)
  refine .retR (.cell (n := 3) rfl rfl rfl rfl rfl (P15.blk.cells) (.tmp rfl .nil)) ?_
  have e : (n * 128).toNat = n.toNat * 128 := by omega
  rw [e]
  have B := N14.blk.ext P15.ext (by show ¬ w2.heap.size = w.heap.size; omega)
  rw [e] at B
  exact ⟨w2.heap.size, rfl, B, by omega, X15⟩
theorem NewC_fn {w : World} {n : Int} (hn : 1 ≤ n) : Fn Tryz.prog 38 [i64 n] w (fun r w2 => ∃ m a l c a2 l2 c2 e, r = .tuple #[.agg #[i64 m, .slice a l c, .slice a2 l2 c2], i64 e] ∧ (e = 20 ∧ 4096 < n ∨ e = 0 ∧ n ≤ 4096 ∧ m = n ∧ a2 = none ∧ l2 = 0 ∧ c2 = 0 ∧ l = n.toNat * 128 ∧ c = l ∧ ∃ b, a = some ⟨b, 0, none⟩ ∧ Blk w2 b 5 (List.replicate (n.toNat * 128) (.int .u8 0)) ∧ w.heap.size < b) ∧ Ext (fun _ => False) w w2) := by
  by_cases h : n ≤ 4096
  · refine (NewB_fn (n := n) ⟨hn, h⟩).mono ?_
    rintro r w2 ⟨b, h1, h2, h3, h4⟩
    exact ⟨_, _, _, _, _, _, _, _, h1, .inr ⟨rfl, h, rfl, rfl, rfl, rfl, rfl, rfl, b, rfl, h2, h3⟩, h4⟩
  · refine (New_fn (n := n)).mono ?_
    rintro r w2 ⟨v, h1, h2, h3⟩
    obtain ⟨a1, c1, a2, c2, rfl⟩ := tDisk.shape h2
    refine ⟨_, _, _, _, _, _, _, _, h1, .inl ⟨?_, by omega⟩, h3⟩
    unfold disk.newF
    rw [if_pos (by omega)]
theorem data_1 {N : Nat} (hN : 1024 ≤ N) : ((List.replicate N (Value.int .u8 0)).take 0 ++ ((writeF ⟨1, []⟩).1.take (min (writeF ⟨1, []⟩).1.length N)).map u8 ++ (List.replicate N (Value.int .u8 0)).drop (0 + min (writeF ⟨1, []⟩).1.length N)).take ((writeF ⟨1, []⟩).1 ++ List.replicate (N - 1024) (0 : UInt8)).length = ((writeF ⟨1, []⟩).1 ++ List.replicate (N - 1024) (0 : UInt8)).map u8 := by
  have hl := write_1.2
  generalize (writeF ⟨1, []⟩).1 = b at *
  rw [hl, Nat.min_eq_left hN, Nat.zero_add, List.take_zero, List.nil_append, List.take_of_length_le (by omega : b.length ≤ 1024), List.drop_replicate, List.map_append, List.map_replicate]
  exact List.take_of_length_le (by simp)
theorem Format_fn {w : World} {n : Int} (hg : GOK w) (hn63 : n ≤ 9223372036854775807) : Fn Tryz.prog 28 [i64 n] w (fun r w2 => ∃ v, r = .tuple #[v, i64 (formatF n).2] ∧ disk.tDisk.rep (fun k => w.heap.size ≤ k) w2 v (formatF n).1 ∧ Ext (fun _ => False) w w2) := by
  refine Fn.enter (fun w => Tryz.call28 _ w) Tryz.func28 rfl ?_
  refine .seq (.region ?_)
  refine .v rfl rfl (.alloc rfl rfl) ?_
  rintro _ w2 ⟨rfl, N2⟩
  have X2 := N2.ext
  have B2 := N2.blk
  have z2 : w2.heap.size = w.heap.size + 1 := N2.size
  refine .p rfl rfl (.as rfl) ?_
  refine .nil (.code (.seq (.seq (.keep [(2, _), (0, _)] ⟨rfl, rfl, trivial⟩ (.region ?_)))))
  refine .p rfl rfl (.mv rfl) ?_
  refine .p rfl rfl (.lt rfl rfl) ?_
  refine .nil (.code (.keep [(9, _), (2, _), (0, _)] ⟨rfl, rfl, rfl, trivial⟩ ?_))
  refine .condD rfl (fun c9 => ?_) (fun c9 => ?_)
  · refine .seq (.keep [(2, _)] ⟨rfl, trivial⟩ (.region ?_))
    refine .p rfl rfl (.build (cs := [i64 0, .slice none 0 0, .slice none 0 0]) rfl (fun _ => by kernel_rfl)) ?_
    refine .s rfl (.storeAll (n := 3) rfl rfl rfl rfl rfl N2.blk rfl) ?_
    intro w3 P3
    refine .p rfl rfl (.as rfl) ?_
    refine .nil (.code ?_)
    refine .retR (.cell (n := 3) rfl rfl rfl rfl rfl (P3.blk.cells) (.tmp rfl .nil)) ?_
    rw [formatF_20 (.inl c9)]
    exact ⟨_, rfl, disk.tDisk.mk (d := disk.nodisk) Sl.nil Sl.nil (by decide), N2.ext.then P3.ext (by rintro k rfl _; exact Nat.le_refl _)⟩
  · have h96 : ¬ n < 96 := c9
    refine .skip (.code (.seq (.keep [(2, _), (0, _)] ⟨rfl, rfl, trivial⟩ (.region ?_))))
    refine .p rfl rfl (.mv rfl) ?_
    refine .call (first := []) (captured := []) rfl rfl rfl rfl (NewC_fn (n := n) (by omega)) ?_
    rintro _ w13 ⟨m, a, l, c, a2, l2, c2, e, rfl, hnew, X13⟩
    have z13 := X13.size
    refine .p rfl rfl (.mv rfl) ?_
    refine .p rfl rfl (.extract rfl rfl) ?_
    refine .p rfl rfl (.extract rfl rfl) ?_
    refine .v rfl rfl (.alloc rfl rfl) ?_
    rintro _ wn4 ⟨rfl, N4⟩
    refine .s rfl (.storeAll (n := 3) rfl rfl rfl rfl rfl N4.blk rfl) ?_
    intro w4 P4
    have Y4 := N4.ext.then P4.ext (by rintro k rfl _; exact Nat.le_refl _)
    have zy4 := Y4.size
    have B4 := P4.blk
    clear P4 N4
    refine .p rfl rfl (.as rfl) ?_
    refine .nil (.code (.seq (.seq (.keep [(5, _), (4, _), (2, _)] ⟨rfl, rfl, rfl, trivial⟩ (.region ?_)))))
    refine .p rfl rfl (.mv rfl) ?_
    refine .p rfl rfl (.ne rfl rfl) ?_
    refine .nil (.code (.keep [(17, _), (5, _), (4, _), (2, _)] ⟨rfl, rfl, rfl, rfl, trivial⟩ ?_))
    refine .condD rfl (fun c17 => ?_) (fun c17 => ?_)
    · have hbig : e = 20 ∧ 4096 < n := by rcases hnew with h | h; exact h; exact absurd h.1 c17
      obtain ⟨rfl, hbig⟩ := hbig
      refine .seq (.keep [(5, _), (2, _)] ⟨rfl, rfl, trivial⟩ (.region ?_))
      refine .p rfl rfl (.build (cs := [i64 0, .slice none 0 0, .slice none 0 0]) rfl (fun _ => by kernel_rfl)) ?_
      refine .p rfl rfl (.mv rfl) ?_
      refine .s rfl (.storeAll (n := 3) rfl rfl rfl rfl rfl (B2.ext (S := fun _ => False) (by repeat (first | exact Ext.refl _ | assumption | refine Ext.trans (by assumption) ?_)) (fun x => x)) rfl) ?_
      intro w3 P3
      refine .p rfl rfl (.as rfl) ?_
      refine .nil (.code ?_)
      refine .retR (.cell (n := 3) rfl rfl rfl rfl rfl (P3.blk.cells) (.tmp rfl .nil)) ?_
      rw [formatF_20 (.inr hbig)]
      exact ⟨_, rfl, disk.tDisk.mk (d := disk.nodisk) Sl.nil Sl.nil (by decide), Ext.then (S := fun k => k = w.heap.size) (by repeat (first | exact Ext.refl _ | assumption | refine Ext.trans (by assumption) ?_)) P3.ext (by rintro k rfl _; omega)⟩
    · have he : e = 0 := Decidable.not_not.1 c17
      rcases hnew with hnew | hnew
      · exact absurd (hnew.1.symm.trans he) (by decide)
      obtain ⟨_, h4, rfl, rfl, rfl, rfl, rfl, rfl, b, rfl, Bb, hb⟩ := hnew
      have hbl := Bb.lt
      refine .skip (.code (.seq (.keep [(4, _), (2, _)] ⟨rfl, rfl, trivial⟩ (.region ?_))))
      refine .p rfl rfl (.build (cs := [i64 1, .slice none 0 0]) rfl (fun _ => by kernel_rfl)) ?_
      refine .call (first := []) (captured := []) rfl rfl rfl rfl (FWrite_fn (x := ⟨1, []⟩) (tDir.mk (x := ⟨1, []⟩) Sl.nil ⟨by show (-9223372036854775808 : Int) ≤ 1; decide, by show (1 : Int) ≤ _; decide⟩) (by show (0 : Nat) ≤ _; decide) (hg.ext0 (by repeat (first | exact Ext.refl _ | assumption | refine Ext.trans (by assumption) ?_)))) ?_
      rintro _ w22 ⟨v22, rfl, G22, X22⟩
      have z22 := X22.size
      have hl1 := write_1.2
      refine .p rfl rfl (.mv rfl) ?_
      refine .p rfl rfl (.extract rfl rfl) ?_
      refine .p rfl rfl (.extract rfl rfl) ?_
      refine .p rfl rfl (.as rfl) ?_
      refine .p rfl rfl (.as rfl) ?_
      refine .nil (.code (.seq (.keep [(6, _), (4, _), (2, _)] ⟨rfl, rfl, rfl, trivial⟩ (.region ?_))))
      refine .p rfl rfl (.fieldAddr rfl rfl rfl rfl) ?_
      refine .p rfl rfl (.load rfl rfl rfl ((B4.ext (S := fun _ => False) (by repeat (first | exact Ext.refl _ | assumption | refine Ext.trans (by assumption) ?_)) (fun x => x)).cell 1)) ?_
      refine .p rfl rfl (.mv rfl) ?_
      refine .v rfl rfl (.copyB (l := (writeF ⟨1, []⟩).1) rfl (Bb.ext (S := fun _ => False) (by repeat (first | exact Ext.refl _ | assumption | refine Ext.trans (by assumption) ?_)) (fun x => x)) rfl (Gr.rep G22) rfl rfl (by rw [List.length_replicate, hl1]; omega)) ?_
      rintro _ w28 ⟨rfl, P28⟩
      have z28 := P28.ext.size
      have Bd := P28.blk
      have B428 := (B4.ext (S := fun _ => False) (by repeat (first | exact Ext.refl _ | assumption | refine Ext.trans (by assumption) ?_)) (fun x => x)).ext P28.ext (by omega)
      have B228 := (B2.ext (S := fun _ => False) (by repeat (first | exact Ext.refl _ | assumption | refine Ext.trans (by assumption) ?_)) (fun x => x)).ext P28.ext (by omega)
      refine .nil (.code (.seq (.keep [(4, _), (2, _)] ⟨rfl, rfl, trivial⟩ (.region ?_))))
      refine .p rfl rfl (.loadA (n := 3) rfl rfl rfl rfl rfl B428.cells) ?_
      refine .s rfl (.storeAll (n := 3) rfl rfl rfl rfl rfl B228 rfl) ?_
      intro w8 P8
      refine .p rfl rfl (.as rfl) ?_
      refine .nil (.code ?_)
      refine .retR (.cell (n := 3) rfl rfl rfl rfl rfl (P8.blk.cells) (.tmp rfl .nil)) ?_
      rw [formatF_0 (by omega)]
      refine ⟨_, rfl, ?_, (Ext.then (S := fun k => k = b) (by repeat (first | exact Ext.refl _ | assumption | refine Ext.trans (by assumption) ?_)) P28.ext (by rintro k rfl _; omega)).then P8.ext (by rintro k rfl _; omega)⟩
      refine disk.tDisk.mk (d := ⟨m, (writeF ⟨1, []⟩).1 ++ List.replicate (m.toNat * 128 - 1024) 0, []⟩) (tBytes.mono (Sl.mkBytesB (P := fun k => k = b) (Bd.ext P8.ext (by omega)) (data_1 (by omega)) rfl (by rw [List.length_append, List.length_replicate]; omega) (by rw [List.length_append, List.length_replicate]; simp only [Lim]; omega) (by rw [List.length_append, List.length_replicate]; omega)) (by rintro k rfl _; show w.heap.size ≤ k; omega)) Sl.nil (by show -9223372036854775808 ≤ m ∧ m ≤ 9223372036854775807; omega)
end Go.Proofs.YtpfehnopghffjaaGreatDoor
