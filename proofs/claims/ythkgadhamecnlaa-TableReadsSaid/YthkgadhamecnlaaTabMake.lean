
/-
  table.Make.
-/
import Derived.Test.YthkgadhamecnlaaPart
import Derived.Test.YthkgadhamecnlaaSieveLaw
import Derived.Test.YthkgadhamecnlaaSieve
import Derived.Test.YthkgadhamecnlaaPut
import Derived.Test.YthkgadhamecnlaaSum
import Derived.Test.YthkgadhamecnlaaPage1
set_option linter.unusedVariables false
set_option linter.unusedSimpArgs false
set_option maxRecDepth 20000
namespace Go.Proofs.Ythkgadhamecnlaa
open Go page table
section
variable {P : Program} {e : Env} {w : World} {x y : Operand} {T : TypeId} {v u : Value} {xs ys : Bs} {lo : Nat}
/-- an append to bytes that were put together -/
theorem DoV.appendJ {i : TypeInfo} {z : Value} {T' : TypeId} (hx : look e x = some v) (hJ : JoinO w v xs lo) (hlo : lo ≤ w.heap.size) (hpos : 0 < ys.length) (hy : look e y = some u) (hu : (∃ a cap, u = .slice a 0 cap ∧ ys = []) ∨ Holds tByte (fun _ => False) w u ys)
    (hT : P.underlying T = some (.slice 5)) (hT' : P.underlying T' = some (.slice 5)) (hi : P.info? 5 = some i) (hz : i.zero = some z) (hs : i.size = 1) (hzs : z.cells.size = 1) (hby : i.bytes = 1) (hlim : xs.length + ys.length ≤ 140737488355320) :
    DoV P e (.call { callee := .builtin .append, args := #[x, y], argTypes := #[T, T'] }) w (fun r w2 => Gr w2 r (xs ++ ys) lo ∧ Ext (fun k => lo ≤ k) w w2) := by
  have hl : xs.length + ys.length < Lim := by simp only [Lim]; omega
  obtain ⟨hr, hG | ⟨a, rfl⟩⟩ := hJ
  · exact DoV.appendLo (t := tByte) (eb := 1) (xs := xs) (ys := ys) hx hG (fun k hk => Nat.le_trans hlo hk) hy hu hT hT' hi hz hs hzs hby (by omega) hl (fun _ h _ => h.elim)
  · intro w' hw ρ hρ o ho
    obtain ⟨r, w2, w3, h1, h2, hO, hX⟩ := DoV.appendGrow (P := P) (t := tByte) (Q := fun _ => False) (eb := 1) (xs := xs) (ys := ys) hx hr (fun _ _ h => h) (by omega) hy hu hT hT' hi hz hs hzs hby (by omega) hl w' hw ρ hρ o ho
    exact ⟨r, w2, w3, h1, h2, OwnO.ofOwn hO (fun _ => hlo), hX.mono (fun _ _ h => h.elim)⟩
end
namespace table
theorem partF_ne {l : List Entry} (h : ¬ l = []) : partF l ≠ [] := fun e => h (by rw [← part_flat l, e]; rfl)
theorem partF_mem {l : List Entry} (hck : checkE l = 0) : ∀ q ∈ partF l, q ≠ [] ∧ (∀ x ∈ q, oneE x = 0) ∧ (pageB q).length ≤ 4915 := fun q hq => by
  obtain ⟨_, hone⟩ := check_ok hck
  refine ⟨parts_ne l [] q hq, fun x hx => hone x ?_, parts_small l [] hone (by rw [page_nil]; decide) q hq⟩
  rw [← part_flat l]
  exact List.mem_flatten.2 ⟨q, hq, hx⟩
theorem headD_mem {α : Type} {l : List α} (h : l ≠ []) (d : α) : l.headD d ∈ l := by
  cases l with
  | nil => exact absurd rfl h
  | cons x l => simp
theorem lastD_mem {α : Type} {l : List α} (h : l ≠ []) (d : α) : l.getLastD d ∈ l := by
  cases l with
  | nil => exact absurd rfl h
  | cons x l => rw [List.getLastD_cons]; exact List.getLastD_mem_cons
theorem partF_keys {l : List Entry} (hck : checkE l = 0) : ∀ q ∈ partF l, (fstK q).length ≤ 256 ∧ (lstK q).length ≤ 256 := fun q hq => by
  obtain ⟨hne, hone, _⟩ := partF_mem hck q hq
  exact ⟨(one_ok (hone _ (headD_mem hne zeroE))).2.1, (one_ok (hone _ (lastD_mem hne zeroE))).2.1⟩
theorem parts_many : ∀ (l acc : List Entry), (partsK acc l).length ≤ l.length + 1
  | [], acc => by
    by_cases h : acc = []
    · subst h; simp [partsK]
    · rw [partsK_nil h]; simp
  | x :: rest, acc => by
    by_cases h : rest = [] ∨ 512 ≤ (pageB (acc ++ [x])).length
    · rw [partsK_cut h]
      have := parts_many rest []
      simp only [List.length_cons]; omega
    · rw [partsK_on h]
      have := parts_many rest (acc ++ [x])
      simp only [List.length_cons]; omega
theorem flat_le {α : Type} (c : Nat) : ∀ (ls : List (List α)), (∀ q ∈ ls, q.length ≤ c) → ls.flatten.length ≤ ls.length * c
  | [], _ => by simp
  | q :: ls, h => by
    have h1 := flat_le c ls (fun p hp => h p (by simp [hp]))
    have h2 := h q (by simp)
    rw [List.flatten_cons, List.length_append, List.length_cons, Nat.add_mul]
    omega
theorem pages_le {l : List Entry} (hck : checkE l = 0) : (pagesB (partF l)).length ≤ 20136755 := by
  have h1 := flat_le 4915 ((partF l).map pageB) (fun q hq => by
    obtain ⟨p, hp, rfl⟩ := List.mem_map.1 hq
    exact (partF_mem hck p hp).2.2)
  have h2 := parts_many l []
  have h3 := (check_ok hck).1
  rw [List.length_map] at h1
  have h4 : (partF l).length * 4915 ≤ 4097 * 4915 := Nat.mul_le_mul_right _ (by unfold partF; omega)
  unfold pagesB
  omega
theorem index_le {l : List Entry} (hck : checkE l = 0) : (indexB (partF l)).length ≤ 2220584 := by
  have h1 := idx_len (partF_keys hck) _ (Nat.le_refl _)
  rw [idx_all] at h1
  have h2 := parts_many l []
  have h3 := (check_ok hck).1
  have h4 : (partF l).length * 542 ≤ 4097 * 542 := Nat.mul_le_mul_right _ (by unfold partF; omega)
  omega
theorem index_pos (ps : List (List Entry)) : 0 < (indexB ps).length := by
  have h : 0 < (smallF ps.length).length := by unfold smallF smallK; split <;> simp
  unfold indexB
  rw [List.length_append]
  omega
theorem sieve_ok {l : List Entry} (hck : checkE l = 0) (hne : ¬ l = []) : (sieve.makeF (l.map (·.key)) (manyB l.length : Int)).2 = 0 ∧ (sieveB l).length ≤ 8192 := by
  obtain ⟨h4, hone⟩ := check_ok hck
  have hp := List.length_pos_iff.2 hne
  obtain ⟨m1, m2, m3⟩ := many_ok (n := l.length) hp h4
  have e : sieve.makeF (l.map (·.key)) (manyB l.length : Int) = (sieve.makeL (l.map (·.key)) (manyB l.length), 0) := by
    unfold sieve.makeF
    rw [if_neg (by rw [List.length_map]; omega), if_neg, if_neg (by omega), Int.toNat_natCast]
    intro h
    obtain ⟨k, hk, hb⟩ := List.any_eq_true.1 h
    obtain ⟨x, hx, rfl⟩ := List.mem_map.1 hk
    have := (one_ok (hone x hx)).2.1
    have := of_decide_eq_true hb
    omega
  refine ⟨by rw [e], ?_⟩
  unfold sieveB
  rw [e, sieve.makeL_length]
  omega
end table
theorem JoinO.ext0 {w w2 : World} {v : Value} {l : Bs} {lo : Nat} (h : JoinO w v l lo) (hX : Ext (fun _ => False) w w2) : JoinO w2 v l lo := ⟨tBytes.ext0 h.1 hX, h.2.imp (fun g => Gr.ext0 g hX) id⟩
set_option maxHeartbeats 1000000 in
theorem TMake_fn {w : World} {v : Value} {l : List Entry} (h : (Sl tEntry).rep All w v l) : Fn Try.prog 12 [v] w (fun r w2 => ∃ v', r = .tuple #[v', i64 (makeT l).2] ∧ Gr w2 v' (makeT l).1 w.heap.size ∧ Ext (fun _ => False) w w2) := by
  obtain ⟨a, cap, rfl, hcap⟩ := Sl.val h
  refine Fn.enter (fun w => Try.call12 _ w) Try.func12 rfl ?_
  refine .seq (.region ?_)
  refine .p rfl rfl (.as rfl) ?_
  refine .p rfl rfl (.as rfl) ?_
  refine .nil (.code (.seq (.seq (.keep [(0, _)] ⟨rfl, trivial⟩ (.region ?_)))))
  refine .p rfl rfl (.mv rfl) ?_
  refine .call (first := []) (captured := []) rfl rfl rfl rfl (Check_fn h) ?_
  rintro _ w17 ⟨rfl, X17⟩
  refine .p rfl rfl (.as rfl) ?_
  refine .nil (.code (.seq (.keep [(4, _), (0, _)] ⟨rfl, rfl, trivial⟩ (.region ?_))))
  refine .p rfl rfl (.mv rfl) ?_
  refine .p rfl rfl (.ne rfl rfl) ?_
  refine .nil (.code (.keep [(19, _), (4, _), (0, _)] ⟨rfl, rfl, rfl, trivial⟩ ?_))
  refine .condD rfl (fun c19 => ?_) (fun c19 => ?_)
  · refine .seq (.keep [(4, _)] ⟨rfl, trivial⟩ (.region ?_))
    refine .p rfl rfl (.mv rfl) ?_
    refine .p rfl rfl (.as rfl) ?_
    refine .p rfl rfl (.as rfl) ?_
    refine .nil (.code ?_)
    refine .ret _ rfl ?_
    exact ⟨_, by unfold makeT; rw [if_pos c19]; rfl, by unfold makeT; rw [if_pos c19]; exact OwnO.nil, X17⟩
  · have hck : checkE l = 0 := Decidable.not_not.1 c19
    obtain ⟨hl4, hone⟩ := check_ok hck
    refine .skip (.code (.seq (.seq (.keep [(0, _)] ⟨rfl, trivial⟩ (.region ?_)))))
    refine .p rfl rfl (.mv rfl) ?_
    refine .p rfl rfl (.len rfl rfl) ?_
    refine .p rfl rfl (.eq rfl rfl) ?_
    refine .nil (.code (.keep [(23, _), (0, _)] ⟨rfl, rfl, trivial⟩ ?_))
    refine .condD rfl (fun c23 => ?_) (fun c23 => ?_)
    · obtain rfl : l = [] := List.length_eq_zero_iff.1 (by omega)
      refine .seq (.keep [] trivial (.region ?_))
      refine .p rfl rfl (.as rfl) ?_
      refine .p rfl rfl (.as rfl) ?_
      refine .nil (.code ?_)
      refine .ret _ rfl ?_
      have e : makeT [] = ([], 90) := by unfold makeT; rw [if_neg (fun hn => hn hck), if_pos rfl]
      rw [e]
      exact ⟨_, rfl, OwnO.nil, X17⟩
    · have hne : ¬ l = [] := fun e => c23 (by rw [e]; rfl)
      refine .skip (.code (.seq (.keep [(0, _)] ⟨rfl, trivial⟩ (.region ?_))))
      refine .p rfl rfl (.mv rfl) ?_
      refine .call (first := []) (captured := []) rfl rfl rfl rfl (part_fn ((Sl tEntry).ext0 h X17) hck) ?_
      rintro _ w26 ⟨rfl, ⟨c26, G26⟩, X26⟩
      have X026 := X17.trans X26
      refine .p rfl rfl (.mv rfl) ?_
      refine .p rfl rfl (.extract rfl rfl) ?_
      refine .p rfl rfl (.extract rfl rfl) ?_
      refine .p rfl rfl (.as rfl) ?_
      refine .p rfl rfl (.as rfl) ?_
      refine .nil (.code (.seq (.seq (.keep [(6, _), (5, _), (0, _)] ⟨rfl, rfl, rfl, trivial⟩ (.region ?_)))))
      refine .p rfl rfl (.mv rfl) ?_
      refine .p rfl rfl (.no (.ne rfl rfl) (by decide)) ?_
      refine .nil (.code (.keep [(30, _), (6, _), (5, _), (0, _)] ⟨rfl, rfl, rfl, rfl, trivial⟩ (.condF rfl (.skip (.code (.seq (.keep [(5, _), (0, _)] ⟨rfl, rfl, trivial⟩ (.region ?_))))))))
      refine .p rfl rfl (.as rfl) ?_
      refine .nil (.code (.seq (.seq (.region ?_))))
      refine .p rfl rfl (.mv rfl) ?_
      refine .p rfl rfl (.len rfl rfl) ?_
      refine .p rfl rfl (.mv rfl) ?_
      refine .nil (.code (.block ?_))
      refine .loop (S := Nat × Value × World) (fun s => [(0, .slice a l.length cap), (5, .pointer (some ⟨w17.heap.size, 0, none⟩)), (7, s.2.1), (32, .slice a l.length cap), (33, i64 l.length), (34, i64 s.1)]) (fun s => s.2.2) (fun s => s.1 ≤ l.length ∧ OwnO tStr (fun _ => False) 9 s.2.2 s.2.1 ((l.take s.1).map (·.key)) (fun k => w26.heap.size ≤ k) ∧ Ext (fun _ => False) w26 s.2.2) (fun s => l.length - s.1) (0, _, w26) ⟨rfl, rfl, rfl, rfl, rfl, rfl, trivial⟩ rfl ⟨Nat.zero_le _, OwnO.nil, .refl _⟩ ?_
      rintro ⟨i, v7, wi⟩ J ⟨hi', hO, hX⟩ again
      simp only at hi' hO hX
      have zwi := hX.size
      change G _ [(0, .slice a l.length cap), (5, .pointer (some ⟨w17.heap.size, 0, none⟩)), (7, v7), (32, .slice a l.length cap), (33, i64 l.length), (34, i64 i)] _ _ wi
      refine .seq (.region ?_)
      refine .p rfl rfl (.lt rfl rfl) ?_
      refine .nil (.code (.seq ?_))
      refine .condD rfl (fun c35 => ?_) (fun c35 => ?_)
      · have hi : i < l.length := by omega
        obtain ⟨b0, o0, c0, ue, e, _, hcs, hre⟩ := Sl.at h (List.getElem?_eq_getElem hi)
        cases e
        obtain ⟨rfl, h1, h2, h3⟩ := tEntry.val hre
        have hk0 := (one_ok (hone _ (List.getElem_mem hi))).2.1
        refine .skip (.code (.seq (.block (.seq (.keep [(0, _), (5, _), (7, _), (32, _), (33, _), (34, _)] ⟨rfl, rfl, rfl, rfl, rfl, rfl, trivial⟩ (.region ?_))))))
        refine .p rfl rfl (.indexAddr (s := 4) rfl rfl rfl rfl (by omega)) ?_
        refine .p rfl rfl (.loadA (n := 4) rfl rfl rfl rfl rfl (hcs.ext (X026.trans hX) (fun x => x))) ?_
        refine .v rfl rfl (.alloc rfl rfl) ?_
        rintro _ w8 ⟨rfl, N8⟩
        refine .s rfl (.storeAll (n := 4) rfl rfl rfl rfl rfl N8.blk rfl) ?_
        intro w9 P8
        have X8 := N8.ext.then P8.ext (by rintro k rfl _; exact Nat.le_refl _)
        have B8 := P8.blk
        have z8 : w9.heap.size = wi.heap.size + 1 := by rw [P8.size, N8.size]
        refine .nil (.code (.keep [(9, _), (0, _), (5, _), (7, _), (32, _), (33, _), (34, _)] ⟨rfl, rfl, rfl, rfl, rfl, rfl, rfl, trivial⟩ (.region ?_)))
        refine .p rfl rfl (.mv rfl) ?_
        refine .p rfl rfl (.fieldAddr rfl rfl rfl rfl) ?_
        refine .p rfl rfl (.load rfl rfl rfl (B8.cell 0)) ?_
        refine .v rfl rfl (.lits rfl rfl (fun _ => by kernel_rfl)) ?_
        rintro _ w41 ⟨rfl, N41⟩
        have z41 := N41.size
        refine .v rfl rfl (.appendLo (t := tStr) (Q := fun _ => False) (xs := (l.take i).map (·.key)) (ys := [l[i].key]) (B := fun k => w26.heap.size ≤ k) (eb := 16) rfl (OwnO.ext0 hO (X8.trans N41.ext)) (fun k hk => by have hk : w41.heap.size ≤ k := hk; show w26.heap.size ≤ k; omega) rfl (.inr (New.holds (t := tStr) (us := [_]) (xs := [l[i].key]) N41 (.cons (show tStr.rep _ _ (str l[i].key) l[i].key from ⟨rfl, by simp only [Lim]; omega⟩) .nil) rfl)) rfl rfl rfl rfl rfl rfl rfl (by simp; omega) (by simp [Lim]; omega) (fun _ h _ => h.elim)) ?_
        rintro r42 w42 ⟨O42, Y42⟩
        refine .p rfl rfl (.as rfl) ?_
        refine .nil (.blk (.code (.keep [(7, _), (0, _), (5, _), (32, _), (33, _), (34, _)] ⟨rfl, rfl, rfl, rfl, rfl, rfl, trivial⟩ (.region ?_))))
        refine .p rfl rfl (.add rfl rfl (by omega)) ?_
        refine .p rfl rfl (.mv rfl) ?_
        refine .nil ?_
        exact (again (i + 1, r42, w42) ⟨by show i + 1 ≤ _; omega, by show OwnO tStr _ _ w42 r42 ((l.take (i + 1)).map _) _; rw [List.take_succ_eq_append_getElem hi, List.map_append]; exact O42, ((hX.trans X8).trans N41.ext).then Y42 (fun k h _ => h)⟩ (by show _ - (i + 1) < _ - i; omega)).of ⟨rfl, rfl, rfl, rfl, rfl, rfl, trivial⟩
      · obtain rfl : i = l.length := by omega
        rw [List.take_length] at hO
        refine .exit rfl (.code (.seq (.keep [(0, _), (5, _), (7, _)] ⟨rfl, rfl, rfl, trivial⟩ (.region ?_))))
        refine .p rfl rfl (.mv rfl) ?_
        refine .p rfl rfl (.mv rfl) ?_
        refine .p rfl rfl (.len rfl rfl) ?_
        refine .p rfl rfl (.mul rfl rfl (by omega)) ?_
        refine .p rfl rfl (.add rfl rfl (by omega)) ?_
        refine .p rfl rfl (.quo rfl rfl (by omega)) ?_
        refine .p rfl rfl (.cast (.mul rfl rfl (by omega)) (show _ = i64 ((manyB l.length : Nat) : Int) from congrArg i64 (by unfold manyB; omega))) ?_
        refine .call (first := []) (captured := []) rfl rfl rfl rfl (SieveMake_fn (many := (manyB l.length : Int)) (OwnO.rep hO (fun _ _ _ => trivial) (fun _ h _ => h.elim))) ?_
        rintro _ w52 ⟨v52, rfl, R52, X52⟩
        obtain ⟨hs0, hsl⟩ := sieve_ok hck hne
        rw [hs0]
        have R52 : tBytes.rep (fun k => k < w52.heap.size) w52 v52 (sieveB l) := tBytes.mono R52 (fun k _ hk => hk)
        obtain ⟨a52, c52, rfl, hc52⟩ := Sl.val R52
        have Z52 := (X026.trans hX).trans X52
        have G52 := (G26.ext0 hX).ext0 X52
        have G52' := G52
        obtain ⟨v1, v2, v3, Bp, O1, O2, O3, hp0, hlo, hlo2⟩ := G52'
        have hpl := pages_le hck
        have hil := index_le hck
        have hmany := parts_many l []
        refine .p rfl rfl (.mv rfl) ?_
        refine .p rfl rfl (.extract rfl rfl) ?_
        refine .p rfl rfl (.extract rfl rfl) ?_
        refine .p rfl rfl (.as rfl) ?_
        refine .p rfl rfl (.as rfl) ?_
        refine .nil (.code (.seq (.seq (.keep [(6, _), (10, _), (5, _)] ⟨rfl, rfl, rfl, trivial⟩ (.region ?_)))))
        refine .p rfl rfl (.mv rfl) ?_
        refine .p rfl rfl (.no (.ne rfl rfl) (by decide)) ?_
        refine .nil (.code (.keep [(56, _), (6, _), (10, _), (5, _)] ⟨rfl, rfl, rfl, rfl, trivial⟩ (.condF rfl (.skip (.code (.seq (.keep [(10, _), (5, _)] ⟨rfl, rfl, trivial⟩ (.region ?_))))))))
        refine .p rfl rfl (.mv rfl) ?_
        refine .p rfl rfl (.nilCheck rfl) ?_
        refine .p rfl rfl (.fieldAddr rfl rfl rfl rfl) ?_
        refine .p rfl rfl (.load rfl rfl rfl (Bp.cell 0)) ?_
        refine .call (first := []) (captured := []) rfl rfl rfl rfl (bJoin_fn (xs := (partF l).map pageB) (OwnO.rep O1 (fun _ _ _ => trivial) (fun _ _ _ => trivial)) (fun e => partF_ne hne (List.map_eq_nil_iff.1 e)) (by show (pagesB (partF l)).length ≤ _; omega)) ?_
        rintro r62 w62 ⟨J62, X62⟩
        have J62 : JoinO w62 r62 (pagesB (partF l)) w52.heap.size := J62
        obtain ⟨a62, c62, rfl, hc62⟩ := Sl.val J62.1
        have z62 := X62.size
        refine .p rfl rfl (.as rfl) ?_
        refine .nil (.code (.seq (.keep [(11, _), (10, _), (5, _)] ⟨rfl, rfl, rfl, trivial⟩ (.region ?_))))
        refine .p rfl rfl (.mv rfl) ?_
        refine .p rfl rfl (.len rfl rfl) ?_
        refine .p rfl rfl (.mv rfl) ?_
        refine .call (first := []) (captured := []) rfl rfl rfl rfl (index_fn (G52.ext0 X62) (partF_keys hck) (by unfold partF; omega)) ?_
        rintro r66 w66 ⟨G66, X66⟩
        obtain ⟨a66, c66, rfl, hc66⟩ := OwnO.val G66
        have z66 := X66.size
        refine .p rfl rfl (.as rfl) ?_
        refine .p rfl rfl (.as rfl) ?_
        refine .nil (.code (.seq (.keep [(13, _), (12, _), (11, _), (10, _)] ⟨rfl, rfl, rfl, rfl, trivial⟩ (.region ?_))))
        refine .p rfl rfl (.mv rfl) ?_
        refine .p rfl rfl (.mv rfl) ?_
        refine .v rfl rfl (.appendJ (xs := pagesB (partF l)) (ys := indexB (partF l)) rfl (J62.ext0 X66) (by omega) (index_pos _) rfl (Gr.holds (Gr.rep G66)) rfl rfl rfl rfl rfl rfl rfl (by omega)) ?_
        rintro r69 w69 ⟨G69, Y69⟩
        have z69 := Y69.size
        have R69 := tBytes.ext (tBytes.ext0 (tBytes.ext0 R52 X62) X66) Y69 (fun k h1 _ h2 => by have h1 : k < w52.heap.size := h1; have h2 : w52.heap.size ≤ k := h2; omega)
        refine .p rfl rfl (.mv rfl) ?_
        refine .v rfl rfl (.appendLo (t := tByte) (eb := 1) rfl G69 (fun k hk => by have hk : w69.heap.size ≤ k := hk; show w52.heap.size ≤ k; omega) rfl (Gr.holds R69) rfl rfl rfl rfl rfl rfl rfl (by simp; omega) (by simp [Lim]; omega) (fun _ h _ => h.elim)) ?_
        rintro r71 w71 ⟨G71, Y71⟩
        have z71 : w69.heap.size ≤ w71.heap.size := Y71.size
        obtain ⟨lens, hlens⟩ : ∃ lens : List Nat, lens = [(pagesB (partF l)).length, (indexB (partF l)).length, (sieveB l).length] := ⟨_, rfl⟩
        have hl3 : lens.length = 3 := by rw [hlens]; rfl
        have hlb : ∀ n ∈ lens, n < 1099511627776 := by rw [hlens]; intro n hn; simp only [List.mem_cons, List.not_mem_nil, or_false] at hn; omega
        refine .p rfl rfl (.as rfl) ?_
        refine .nil (.code (.seq (.seq (.keep [(11, _), (13, _), (12, _), (10, _)] ⟨rfl, rfl, rfl, rfl, trivial⟩ (.region ?_)))))
        refine .p rfl rfl (.mv rfl) ?_
        refine .p rfl rfl (.mv rfl) ?_
        refine .p rfl rfl (.len rfl rfl) ?_
        refine .p rfl rfl (.mv rfl) ?_
        refine .p rfl rfl (.len rfl rfl) ?_
        refine .v rfl rfl (.lits rfl rfl (fun _ => by kernel_rfl)) ?_
        rintro _ w77 ⟨rfl, N77⟩
        have z77 := N77.size
        have B77 : Blk w77 w71.heap.size 3 (lens.map (fun n : Nat => i64 (n : Int))) := by rw [hlens]; exact N77.blk
        have G77 : OwnO tByte (fun _ => False) 5 w77 r71 (pagesB (partF l) ++ indexB (partF l) ++ sieveB l) (fun k => w52.heap.size ≤ k ∧ k ≠ w71.heap.size) := OwnO.ext0 (OwnO.mono G71 (fun _ h _ => h) (fun k h hk => ⟨h, by omega⟩)) N77.ext
        have Z77 : Ext (fun _ => False) w52 w77 := ((((X62.trans X66).then Y69 (fun k h _ => h)).then Y71 (fun k h _ => h)).trans N77.ext)
        refine .p rfl rfl (.len rfl rfl) ?_
        refine .p rfl rfl (.mv rfl) ?_
        refine .nil (.code (.block (.keep [(79, _), (78, _), (77, _), (11, _)] ⟨rfl, rfl, rfl, rfl, trivial⟩ ?_)))
        refine .loop (S := Nat × Value × World) (fun s => [(11, s.2.1), (77, .slice (some ⟨w71.heap.size, 0, none⟩) 3 3), (78, i64 3), (79, i64 s.1)]) (fun s => s.2.2) (fun s => s.1 ≤ 3 ∧ OwnO tByte (fun _ => False) 5 s.2.2 s.2.1 (pagesB (partF l) ++ indexB (partF l) ++ sieveB l ++ ((lens.take s.1).map put8).flatten) (fun k => w52.heap.size ≤ k ∧ k ≠ w71.heap.size) ∧ Blk s.2.2 w71.heap.size 3 (lens.map (fun n : Nat => i64 (n : Int))) ∧ Ext (fun _ => False) w52 s.2.2) (fun s => 3 - s.1) (0, r71, w77) ⟨rfl, rfl, rfl, rfl, trivial⟩ rfl ⟨Nat.zero_le _, by show OwnO tByte _ _ w77 r71 (_ ++ _ ++ _ ++ ((lens.take 0).map put8).flatten) _; rw [List.take_zero]; simpa using G77, B77, Z77⟩ ?_
        rintro ⟨i, v11, wi⟩ J ⟨hi', hG, hB, hX⟩ again
        simp only at hi' hG hB hX
        have zwi := hX.size
        have hBl := hB.lt
        have htl : ((lens.take i).map put8).flatten.length ≤ 24 := by have := flat_le 8 ((lens.take i).map put8) (fun q hq => by obtain ⟨n, _, rfl⟩ := List.mem_map.1 hq; rw [put8_length]; omega); rw [List.length_map, List.length_take] at this; omega
        change G _ [(11, v11), (77, .slice (some ⟨w71.heap.size, 0, none⟩) 3 3), (78, i64 3), (79, i64 i)] _ _ wi
        refine .seq (.region ?_)
        refine .p rfl rfl (.lt rfl rfl) ?_
        refine .nil (.code (.seq ?_))
        refine .condD rfl (fun c80 => ?_) (fun c80 => ?_)
        · have hi3 : i < lens.length := by omega
          have hn3 := hlb _ (List.getElem_mem hi3)
          refine .skip (.code (.seq (.block (.seq (.keep [(11, _), (77, _), (78, _), (79, _)] ⟨rfl, rfl, rfl, rfl, trivial⟩ (.region ?_))))))
          refine .p rfl rfl (.indexAddr1 rfl rfl rfl rfl (by omega)) ?_
          refine .p rfl rfl (.load rfl rfl rfl (show wi.cell? ⟨w71.heap.size, 0 + ((i : Nat) : Int).toNat, none⟩ = some (i64 (lens[i] : Int)) by rw [Nat.zero_add, Int.toNat_natCast, hB.cell, List.getElem?_map, List.getElem?_eq_getElem hi3]; rfl)) ?_
          refine .p rfl rfl (.as rfl) ?_
          refine .nil (.code (.keep [(15, _), (11, _), (77, _), (78, _), (79, _)] ⟨rfl, rfl, rfl, rfl, rfl, trivial⟩ (.region ?_)))
          refine .p rfl rfl (.mv rfl) ?_
          refine .p rfl rfl (.mv rfl) ?_
          refine .p rfl rfl (.convU rfl rfl rfl (by omega)) ?_
          refine .call (first := []) (captured := []) rfl rfl rfl rfl (Put_fn (n := lens[i]) (by omega)) ?_
          rintro r86 w86 ⟨R86, X86⟩
          have z86 := X86.size
          have h86 := put8_length lens[i]
          refine .v rfl rfl (.appendLo (t := tByte) (eb := 1) rfl (OwnO.ext0 hG X86) (fun k hk => by have hk : w86.heap.size ≤ k := hk; show _ ∧ _; omega) rfl (Gr.holds R86) rfl rfl rfl rfl rfl rfl rfl (by simp only [List.length_append]; omega) (by simp only [List.length_append, Lim]; omega) (fun _ h _ => h.elim)) ?_
          rintro r87 w87 ⟨G87, Y87⟩
          refine .p rfl rfl (.as rfl) ?_
          refine .nil (.blk (.code (.keep [(11, _), (77, _), (78, _), (79, _)] ⟨rfl, rfl, rfl, rfl, trivial⟩ (.region ?_))))
          refine .p rfl rfl (.add rfl rfl (by omega)) ?_
          refine .p rfl rfl (.mv rfl) ?_
          refine .nil ?_
          exact (again (i + 1, r87, w87) ⟨by show i + 1 ≤ _; omega, by show OwnO tByte _ _ w87 r87 (_ ++ _ ++ _ ++ ((lens.take (i + 1)).map put8).flatten) _; rw [List.take_succ_eq_append_getElem hi3, List.map_append, List.flatten_append, ← List.append_assoc]; simpa using G87, (hB.ext X86 (fun x => x)).ext Y87 (fun h => h.2 rfl), (hX.trans X86).then Y87 (fun k h _ => h.1)⟩ (by show _ - (i + 1) < _ - i; omega)).of ⟨rfl, rfl, rfl, rfl, trivial⟩
        · obtain rfl : i = 3 := by omega
          rw [show (3 : Nat) = lens.length by omega, List.take_length, hlens] at hG
          have hpre : pagesB (partF l) ++ indexB (partF l) ++ sieveB l ++ ([(pagesB (partF l)).length, (indexB (partF l)).length, (sieveB l).length].map put8).flatten = preT l := by unfold preT; simp [List.append_assoc]
          rw [hpre] at hG
          have hprl : (preT l).length ≤ 30000000 := by rw [← hpre]; simp [put8_length]; omega
          obtain ⟨a11, c11, rfl, hc11⟩ := OwnO.val hG
          refine .exit rfl (.code (.seq (.keep [(11, _)] ⟨rfl, trivial⟩ (.region ?_))))
          refine .p rfl rfl (.mv rfl) ?_
          refine .p rfl rfl (.mv rfl) ?_
          refine .call (first := []) (captured := []) rfl rfl rfl rfl (Sum_fn (OwnO.rep hG (fun _ _ _ => trivial) (fun _ h _ => h.elim))) ?_
          rintro _ w91 ⟨rfl, X91⟩
          have z91 := X91.size
          have hlt := (crc (preT l)).toNat_lt
          refine .p rfl rfl (.conv32_U rfl rfl rfl) ?_
          refine .call (first := []) (captured := []) rfl rfl rfl rfl (Put_fn (n := (crc (preT l)).toNat) (by omega)) ?_
          rintro r93 w93 ⟨R93, X93⟩
          have z93 := X93.size
          obtain ⟨a93, c93, rfl, hc93⟩ := Sl.val R93
          rw [put8_length] at R93 hc93
          obtain ⟨a94, c94, hv94, hc94, R94⟩ := Sl.cutE R93 0 4 (by omega) (by omega)
          rw [put8_length]
          refine .p rfl rfl (.cast (.cutHi (s := 1) rfl rfl rfl rfl (by omega)) (show cutV 1 a93 c93 0 (4 : Int).toNat = _ from hv94)) ?_
          refine .v rfl rfl (.appendLo (t := tByte) (eb := 1) (ys := sum4 (preT l)) rfl (OwnO.ext0 hG (X91.trans X93)) (fun k hk => by have hk : w93.heap.size ≤ k := hk; show _ ∧ _; omega) rfl (Gr.holds R94) rfl rfl rfl rfl rfl rfl rfl (by have := sum4_length (preT l); omega) (by have := sum4_length (preT l); simp only [Lim]; omega) (fun _ h _ => h.elim)) ?_
          rintro r95 w95 ⟨G95, Y95⟩
          have G95 : OwnO tByte (fun _ => False) 5 w95 r95 (tableB l) _ := G95
          obtain ⟨a95, c95, rfl, hc95⟩ := OwnO.val G95
          refine .p rfl rfl (.as rfl) ?_
          refine .nil (.code (.seq (.seq (.keep [(11, _)] ⟨rfl, trivial⟩ (.region ?_)))))
          refine .p rfl rfl (.mv rfl) ?_
          refine .p rfl rfl (.len rfl rfl) ?_
          refine .p rfl rfl (.gt rfl rfl) ?_
          refine .nil (.code (.keep [(98, _), (11, _)] ⟨rfl, rfl, trivial⟩ ?_))
          refine .condD rfl (fun c98 => ?_) (fun c98 => ?_)
          · refine .seq (.keep [] trivial (.region ?_))
            refine .p rfl rfl (.as rfl) ?_
            refine .p rfl rfl (.as rfl) ?_
            refine .nil (.code ?_)
            refine .ret _ rfl ?_
            have e : makeT l = ([], 7) := by unfold makeT; rw [if_neg c19, if_neg hne, if_pos (by omega)]
            rw [e]
            exact ⟨_, rfl, OwnO.nil, ((Z52.trans hX).trans (X91.trans X93)).then Y95 (fun k h _ => Nat.le_trans (Z52.size) h.1)⟩
          · refine .skip (.code (.seq (.keep [(11, _)] ⟨rfl, trivial⟩ (.region ?_))))
            refine .p rfl rfl (.mv rfl) ?_
            refine .p rfl rfl (.as rfl) ?_
            refine .p rfl rfl (.as rfl) ?_
            refine .nil (.code ?_)
            refine .ret _ rfl ?_
            have e : makeT l = (tableB l, 0) := by unfold makeT; rw [if_neg c19, if_neg hne, if_neg (by omega)]
            rw [e]
            exact ⟨_, rfl, OwnO.mono G95 (fun _ h _ => h) (fun k h _ => Nat.le_trans (Z52.size) h.1), ((Z52.trans hX).trans (X91.trans X93)).then Y95 (fun k h _ => Nat.le_trans (Z52.size) h.1)⟩
end Go.Proofs.Ythkgadhamecnlaa
