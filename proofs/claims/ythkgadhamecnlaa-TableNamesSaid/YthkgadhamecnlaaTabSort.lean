
/-
  Layer 9: what stands in a table's pages, by key; what is found.
-/
import Derived.Test.YthkgadhamecnlaaTabRead
import Derived.Test.YthkgadhamecnlaaLaw08a
import Derived.Test.YthkgadhamecnlaaPFind
set_option linter.unusedVariables false
set_option linter.unusedSimpArgs false
set_option maxRecDepth 20000
namespace Go.Proofs.Ythkgadhamecnlaa
open Go page
namespace table
theorem chk_sorted : ∀ {l : List Entry} {p : Option Entry}, chk p l = 0 → l.Pairwise (fun a b => lessE a b = true) ∧ ∀ y, p = some y → ∀ x ∈ l, lessE y x = true
  | [], _, _ => ⟨.nil, fun _ _ x hx => by cases hx⟩
  | x :: l, p, h => by
    rw [chk_cons] at h
    split at h
    · rename_i h1; exact absurd h h1
    · split at h
      · cases h
      · rename_i ha
        obtain ⟨h1, h2⟩ := chk_sorted h
        have h3 := h2 x rfl
        refine ⟨List.pairwise_cons.2 ⟨h3, h1⟩, fun y hy z hz => ?_⟩
        subst hy
        have hyx : lessE y x = true := by
          unfold ahd at ha
          simpa using ha
        rcases List.mem_cons.1 hz with rfl | hz
        · exact hyx
        · exact less_trans hyx (h3 z hz)
theorem check_sorted {l : List Entry} (h : checkE l = 0) : l.Pairwise (fun a b => lessE a b = true) := by
  unfold checkE at h
  split at h
  · cases h
  · exact (chk_sorted h).1
theorem less_keys {a b : Entry} (h : lessE a b = true) : Op.bytesLess b.key a.key = false := by
  rw [bytesLess_eq]
  rcases (less_iff a b).1 h with h | ⟨h, _⟩
  · have := cmpB_neg a.key b.key
    exact decide_eq_false (by omega)
  · have := (cmpB_zero b.key a.key).2 h.symm
    exact decide_eq_false (by omega)
theorem bless_irrefl (a : Bs) : Op.bytesLess a a = false := by
  rw [bytesLess_eq]
  have := (cmpB_zero a a).2 rfl
  exact decide_eq_false (by omega)
theorem fst_low {q : List Entry} (h : checkE q = 0) {x : Entry} (hx : x ∈ q) : Op.bytesLess x.key (fstK q) = false := by
  have hs := check_sorted h
  cases q with
  | nil => cases hx
  | cons y q =>
    show Op.bytesLess x.key y.key = false
    rcases List.mem_cons.1 hx with rfl | hx
    · exact bless_irrefl _
    · exact less_keys ((List.pairwise_cons.1 hs).1 x hx)
theorem lst_high {q : List Entry} (h : checkE q = 0) {x : Entry} (hx : x ∈ q) : Op.bytesLess (lstK q) x.key = false := by
  have hs := check_sorted h
  have hne : q ≠ [] := fun e => by subst e; cases hx
  have hq : q = q.dropLast ++ [q.getLast hne] := (List.dropLast_concat_getLast hne).symm
  have hl : lstK q = (q.getLast hne).key := by
    unfold lstK
    rw [List.getLastD_eq_getLast?, List.getLast?_eq_some_getLast hne]; rfl
  rw [hl]
  rw [hq, List.pairwise_append] at hs
  rw [hq] at hx
  rcases List.mem_append.1 hx with hx | hx
  · exact less_keys (hs.2.2 x hx _ (by simp))
  · rw [List.mem_singleton] at hx
    subst hx
    exact bless_irrefl _
def fitK (key : Bs) (seq : Int) (x : Entry) : Bool := decide (x.key = key) && decide (x.seq ≤ seq)
theorem fit_lo {q : List Entry} (h : checkE q = 0) {key : Bs} {seq : Int} (hk : Op.bytesLess (lstK q) key = true) : ∀ x ∈ q, fitK key seq x = false := fun x hx => by
  have := lst_high h hx
  unfold fitK
  by_cases hkk : x.key = key
  · rw [hkk, hk] at this; cases this
  · rw [decide_eq_false hkk]; rfl
theorem fit_hi {q : List Entry} (h : checkE q = 0) {key : Bs} {seq : Int} (hk : Op.bytesLess key (fstK q) = true) : ∀ x ∈ q, fitK key seq x = false := fun x hx => by
  have := fst_low h hx
  unfold fitK
  by_cases hkk : x.key = key
  · rw [hkk, hk] at this; cases this
  · rw [decide_eq_false hkk]; rfl
theorem sieve_made {l : List Entry} (hck : checkE l = 0) (hne : ¬ l = []) : sieveB l = sieve.makeL (l.map (·.key)) (manyB l.length) := by
  obtain ⟨h4, hone⟩ := check_ok hck
  have hp := List.length_pos_iff.2 hne
  obtain ⟨m1, m2, m3⟩ := many_ok (n := l.length) hp h4
  unfold sieveB sieve.makeF
  rw [if_neg (by rw [List.length_map]; omega), if_neg, if_neg (by omega), Int.toNat_natCast]
  intro h
  obtain ⟨k, hk, hb⟩ := List.any_eq_true.1 h
  obtain ⟨x, hx, rfl⟩ := List.mem_map.1 hk
  have := (one_ok (hone x hx)).2.1
  have := of_decide_eq_true hb
  omega
theorem sieve_hides {l : List Entry} (hck : checkE l = 0) (hne : ¬ l = []) {key : Bs} (h : (sieve.hasF (sieveB l) key).1 = false) {seq : Int} : ∀ x ∈ l, fitK key seq x = false := fun x hx => by
  unfold fitK
  by_cases hkk : x.key = key
  · exfalso
    obtain ⟨h4, hone⟩ := check_ok hck
    have hp := List.length_pos_iff.2 hne
    obtain ⟨m1, m2, m3⟩ := many_ok (n := l.length) hp h4
    rw [sieve_made hck hne, sieve.has_made m1 m2 m3 (fun k hk => by obtain ⟨y, hy, rfl⟩ := List.mem_map.1 hk; exact (one_ok (hone y hy)).2.1) (List.mem_map.2 ⟨x, hx, hkk⟩)] at h
    cases h
  · rw [decide_eq_false hkk]; rfl
/-- the first that fits -/
def newest (l : List Entry) (key : Bs) (seq : Int) : Option Entry := l.find? (fitK key seq)
theorem newest_none {l : List Entry} {key : Bs} {seq : Int} (h : ∀ x ∈ l, fitK key seq x = false) : newest l key seq = none := List.find?_eq_none.2 (fun x hx hf => by rw [h x hx] at hf; cases hf)
theorem newest_some {a c q : List Entry} {key : Bs} {seq : Int} {i : Nat} (ha : ∀ x ∈ a, fitK key seq x = false) (hi : i < q.length) (h : q.findIdx? (fitK key seq) = some i) : newest (a ++ q ++ c) key seq = some q[i] := by
  have h1 : a.find? (fitK key seq) = none := newest_none ha
  have h2 : q.find? (fitK key seq) = some q[i] := by
    rw [List.findIdx?_eq_some_iff_getElem] at h
    obtain ⟨h', hp, hb⟩ := h
    rw [List.find?_eq_some_iff_getElem]
    exact ⟨hp, i, h', rfl, fun j hj => by simpa using hb j hj⟩
  unfold newest
  rw [List.find?_append, List.find?_append, h1, h2]
  rfl
noncomputable def findT (b key : Bs) (seq : Int) : Entry × Bool × Int :=
  match openF b with
  | none => (page.zeroE, false, 90)
  | some rows => if key = [] ∨ 256 < key.length then (page.zeroE, false, 60) else if seq < 0 ∨ 2147483647 < seq then (page.zeroE, false, 2) else
    match newest (entsR rows) key seq with
    | some x => (x, true, 0)
    | none => (page.zeroE, false, 0)
theorem findT_none {b key : Bs} {seq : Int} (h : openF b = none) : findT b key seq = (page.zeroE, false, 90) := by unfold findT; rw [h]
theorem findT_key {b key : Bs} {seq : Int} {rows : List Row} (h : openF b = some rows) (hk : key = [] ∨ 256 < key.length) : findT b key seq = (page.zeroE, false, 60) := by unfold findT; rw [h]; simp only; rw [if_pos hk]
theorem findT_seq {b key : Bs} {seq : Int} {rows : List Row} (h : openF b = some rows) (hk : ¬ (key = [] ∨ 256 < key.length)) (hs : seq < 0 ∨ 2147483647 < seq) : findT b key seq = (page.zeroE, false, 2) := by unfold findT; rw [h]; simp only; rw [if_neg hk, if_pos hs]
theorem findT_some {b key : Bs} {seq : Int} {rows : List Row} {x : Entry} (h : openF b = some rows) (hk : ¬ (key = [] ∨ 256 < key.length)) (hs : ¬ (seq < 0 ∨ 2147483647 < seq)) (hn : newest (entsR rows) key seq = some x) : findT b key seq = (x, true, 0) := by unfold findT; rw [h]; simp only; rw [if_neg hk, if_neg hs, hn]
theorem findT_miss {b key : Bs} {seq : Int} {rows : List Row} (h : openF b = some rows) (hk : ¬ (key = [] ∨ 256 < key.length)) (hs : ¬ (seq < 0 ∨ 2147483647 < seq)) (hn : newest (entsR rows) key seq = none) : findT b key seq = (page.zeroE, false, 0) := by unfold findT; rw [h]; simp only; rw [if_neg hk, if_neg hs, hn]
/-- rows of an open table, one by one -/
structure Opened (b : Bs) (rows : List Row) (l : List Entry) : Prop where
  made : makeT l = (b, 0)
  eq : rows = (partF l).map rowOf
  ents : entsR rows = l
  len : rows.length = (partF l).length
  pos : 0 < rows.length
theorem opened {b : Bs} {rows : List Row} (h : openF b = some rows) : Opened b rows (entsR rows) := by
  obtain ⟨h1, h2⟩ := open_iff h
  have h3 : rows.length = (partF (entsR rows)).length := by conv => lhs; rw [h2]; rw [List.length_map]
  exact ⟨h1, h2, rfl, h3, by rw [h3]; exact List.length_pos_iff.2 (partF_ne (makeT_ok h1).2.1)⟩
theorem Opened.row {b : Bs} {rows : List Row} {l : List Entry} (h : Opened b rows l) {i : Nat} (hi : i < rows.length) : ∃ q, rows[i] = rowOf q ∧ q ∈ partF l ∧ checkE q = 0 ∧ readE (pageB q) = (q, 0) ∧ ∃ a c, l = a ++ q ++ c ∧ a = entsR (rows.take i) ∧ entsR (rows.take (i + 1)) = a ++ q := by
  have hi' : i < (partF l).length := by rw [← h.len]; exact hi
  have hr : rows[i] = rowOf (partF l)[i] := by
    have := h.eq
    subst this
    rw [List.getElem_map]
  obtain ⟨hck, _⟩ := makeT_ok h.made
  have hm := parts_table hck (partF l)[i] (List.getElem_mem hi')
  refine ⟨_, hr, List.getElem_mem hi', hm.1, read_page (by rw [make_small hm.1 hm.2.1]), ((partF l).take i).flatten, ((partF l).drop (i + 1)).flatten, ?_, ?_, ?_⟩
  · conv => lhs; rw [← part_flat l, ← List.take_append_drop i (partF l), List.drop_eq_getElem_cons hi']
    rw [List.flatten_append, List.flatten_cons, List.append_assoc]
  · rw [h.eq, ← List.map_take, ents_rows]
  · rw [h.eq, ← List.map_take, ents_rows, List.take_succ_eq_append_getElem hi', List.flatten_append]; simp
end table
end Go.Proofs.Ythkgadhamecnlaa
