
/-
  Lists of a call's own whose elements are overwritten, and cleared. No program in sight.
-/
import Derived.Test.YthkgadhamecnlaaLo
import Derived.Test.YthkgadhamecnlaaTabRead
import Derived.Test.YthkgadhamecnlaaLaw08a
import Derived.Test.YthkgadhamecnlaaPFind
import Derived.Test.YthkgadhamecnlaaTabOpen
set_option linter.unusedVariables false
set_option linter.unusedSimpArgs false
set_option maxRecDepth 20000
namespace Go.Proofs.Ythkgadhamecnlaa
open Go
theorem flat_put {n : Nat} : ∀ {us : List Value} (i : Nat) (u : Value), (∀ x ∈ us, x.cells.size = n) → u.cells.size = n → i < us.length → (flat us).take (i * n) ++ u.cells.toList ++ (flat us).drop (i * n + n) = flat (us.set i u)
  | [], i, u, _, _, hi => absurd hi (Nat.not_lt_zero _)
  | x :: us, 0, u, h, hu, _ => by
    have hx : x.cells.toList.length = n := by rw [Array.length_toList, h x (by simp)]
    rw [List.set_cons_zero, flat_cons, flat_cons, Nat.zero_mul, Nat.zero_add, List.take_zero, List.nil_append, List.drop_left' hx]
  | x :: us, i + 1, u, h, hu, hi => by
    have hx : x.cells.toList.length = n := by rw [Array.length_toList, h x (by simp)]
    have ih := flat_put (us := us) i u (fun y hy => h y (by simp [hy])) hu (by simpa using hi)
    rw [List.set_cons_succ, flat_cons, flat_cons, ← ih, Nat.add_mul, Nat.one_mul]
    rw [show i * n + n = x.cells.toList.length + i * n by omega, List.take_length_add_append, show x.cells.toList.length + i * n + n = x.cells.toList.length + (i * n + n) by omega, List.drop_length_add_append, hx]
    simp only [List.append_assoc]
    rw [Nat.add_comm n (i * n)]
theorem cutV_zero {s : Nat} {b cap i : Nat} : cutV s (some ⟨b, 0, none⟩) cap 0 i = .slice (some ⟨b, 0, none⟩) i cap := by
  unfold cutV
  split
  · simp
  · simp [Addr.add]
theorem O.w {F : Fr} {e : Env} {k : List It} {w : World} {all rest : List Oper} {op : Op} {ty : TypeId} {pos : String} {af : Array Edge} {g : Option (Nat × Bool)} {Post : Value → World → Prop} (hg : gd e all g = some true) (h : DoV F.P e op w Post) (next : ∀ v w2, Post v w2 → O F e all rest k w2) : O F e all (⟨none, op, ty, pos, af, g⟩ :: rest) k w := by
  intro w' hw a ha
  refine wpList_step fun K hK => ?_
  rw [if_pos (gd_wanted ha hg)]
  obtain ⟨v, w2, w3, hr, hs, hp⟩ := h w' hw a.eval (fun x u hx => ha.ev hx) ⟨none, op, ty, pos, af, g⟩ rfl
  unfold Oper.wp
  rw [hr]
  exact hK _ _ (next v w2 hp w3 hs _ (ha.put0 v))
section
variable {P : Program} {e : Env} {w : World} {x y : Operand} {T E : TypeId} {α : Type} {t : Ty α} {Q : Nat → Prop} {ys : List α} {b cap n i : Nat}
/-- an element of a list of the call's own is overwritten -/
theorem DoS.storeOwn {us0 : List Value} {y' : α} {TE : TypeId} (hO : Own t Q E w (.slice (some ⟨b, 0, none⟩) n cap) ys b) (hi : i < n) (hp : look e x = some (.pointer (some ⟨b, i * t.size, none⟩))) (hv : look e y = some (.agg us0.toArray)) (hs : sizeIs P TE t.size) (hn : us0.length = t.size) (hu : us0.all (·.oneCell') = true)
    (hr : t.rep Q w (.agg us0.toArray) y') (hQ : ∀ k, Q k → k < w.heap.size → ¬ k = b) :
    DoS P e (.store TE x y) w (fun w2 => Own t Q E w2 (.slice (some ⟨b, 0, none⟩) n cap) (ys.set i y') b ∧ Ext (· = b) w w2) := by
  obtain ⟨hl, ⟨_, h⟩ | ⟨cap', us, sp, hv', hc, he, hB, hlen⟩⟩ := hO
  · cases h
  · cases hv'
    have hus : us.length = ys.length := he.length
    have hsz : ∀ u ∈ us, u.cells.size = t.size := he.mem (n := t.size) (fun u x h => t.sz h)
    have hfl : (flat us).length = ys.length * t.size := by rw [flat_length hsz, hus]
    have hmul : i * t.size + t.size ≤ ys.length * t.size := by rw [← Nat.succ_mul]; exact Nat.mul_le_mul_right _ hi
    have hcu : (Value.agg us0.toArray).cells.toList = us0 := by simp [Value.cells]
    have hcs : (Value.agg us0.toArray).cells.size = t.size := by rw [← Array.length_toList, hcu, hn]
    have hd := DoS.storeA (P := P) (T := TE) hp hv hs hn hu hB (by rw [List.length_append]; omega)
    intro w' hw ρ hρ o ho
    obtain ⟨w2, w3, h1, h2, hPut⟩ := hd w' hw ρ hρ o ho
    refine ⟨w2, w3, h1, h2, ⟨by rw [List.length_set]; exact hl, .inr ⟨cap, us.set i (.agg us0.toArray), sp, by rw [List.length_set], by rw [List.length_set]; exact hc, ?_, ?_, ?_⟩⟩, hPut.ext⟩
    · have he2 : Each (t.rep Q w2) us ys := he.imp (fun u x h => t.ext h hPut.ext hQ)
      exact Each.set he2 i (t.ext hr hPut.ext hQ)
    · have hblk := hPut.blk
      have hf := flat_put (us := us) i (.agg us0.toArray) hsz hcs (by omega)
      rw [hcu] at hf
      rw [List.take_append_of_le_length (by omega), List.drop_append_of_le_length (by omega), hn, ← List.append_assoc] at hblk
      rw [← hf]
      exact hblk
    · have hsz2 : ∀ u ∈ us.set i (.agg us0.toArray), u.cells.size = t.size := fun u hu => by
        rcases List.mem_or_eq_of_mem_set hu with h | h
        · exact hsz u h
        · rw [h]; exact hcs
      rw [List.length_append, flat_length hsz2, List.length_set] at *
      rw [flat_length hsz] at hlen
      exact hlen
theorem run_clear_call {ρ : Operand → Value} {ats : Array TypeId} {w w' : World} {o : Oper} (ho : o.op = .call { callee := .builtin .clear, args := #[x], argTypes := ats }) {r : Value} (h : (Builtin.clear_ ats o.type #[ρ x]).run P w = .ok r w') :
    (execOp ρ o).run P w = .ok (.value r) w' := by
  simp [execOp, ho, resolve, invoke, builtin, h]
/-- what stands behind the first i of a list of the call's own is cleared -/
theorem DoV.clearOwn {ti : TypeInfo} {z : Value} (hO : Own t Q E w (.slice (some ⟨b, 0, none⟩) n cap) ys b) (hin : i ≤ n) (hx : look e x = some (cutV t.size (some ⟨b, 0, none⟩) cap i n)) (hQ : ∀ k, Q k → k < w.heap.size → ¬ k = b)
    (hT : P.underlying T = some (.slice E)) (hE : P.info? E = some ti) (hz : ti.zero = some z) (hzs : z.cells.size = t.size) (hone : z.cells.toList.all (·.oneCell') = true) :
    DoV P e (.call { callee := .builtin .clear, args := #[x], argTypes := #[T] }) w (fun r w2 => Own t Q E w2 (.slice (some ⟨b, 0, none⟩) i cap) (ys.take i) b ∧ Ext (· = b) w w2) := by
  intro w' hw ρ hρ o ho
  obtain ⟨hl, ⟨_, h⟩ | ⟨cap', us, sp, hv', hc, he, hB, hlen⟩⟩ := hO
  · cases h
  cases hv'
  have hus : us.length = ys.length := he.length
  have hsz : ∀ u ∈ us, u.cells.size = t.size := he.mem (n := t.size) (fun u x h => t.sz h)
  have hfl : (flat us).length = ys.length * t.size := by rw [flat_length hsz, hus]
  rcases Nat.lt_or_ge i ys.length with hi | hi
  · have hcv : cutV t.size (some ⟨b, 0, none⟩) cap i ys.length = .slice (some ⟨b, i * t.size, none⟩) (ys.length - i) (cap - i) := by
      unfold cutV
      rw [if_neg (by omega)]
      simp [Addr.add]
      exact fun h => h.symm
    let zs := (Builtin.zeroCells z.cells (ys.length - i)).toList
    have hzl : zs.length = (ys.length - i) * t.size := by show (Builtin.zeroCells z.cells (ys.length - i)).toList.length = _; rw [Array.length_toList, size_zeroCells, hzs]
    have hmul : i * t.size + (ys.length - i) * t.size = ys.length * t.size := by rw [← Nat.add_mul]; congr 1; omega
    have hB' : Blk w' b E (flat us ++ sp) := hB.keep (by rw [hw.heap])
    have hfit : i * t.size + zs.length ≤ (flat us ++ sp).length := by rw [hzl, List.length_append]; omega
    have hzone : ∀ v ∈ zs, v.oneCell' = true := fun v hv => by
      have hv : v ∈ (Builtin.zeroCells z.cells (ys.length - i)).toList := hv
      unfold Builtin.zeroCells at hv
      rw [Array.toList_map, List.mem_map] at hv
      obtain ⟨j, hj, rfl⟩ := hv
      have hj : j < (ys.length - i) * z.cells.size := by simpa using hj
      have hpos : 0 < z.cells.size := by
        rcases Nat.eq_zero_or_pos z.cells.size with h0 | h0
        · rw [h0, Nat.mul_zero] at hj; exact absurd hj (Nat.not_lt_zero _)
        · exact h0
      have hlt : j % z.cells.size < z.cells.size := Nat.mod_lt _ hpos
      rw [getElem!_pos z.cells _ hlt]
      exact List.all_eq_true.1 hone _ (by simp)
    have hst := run_storeCells_cells (P := P) b (i * t.size) zs 0 w' (fun j hj => by rw [Nat.add_zero, hB'.cell, List.getElem?_eq_getElem (by omega)]; rfl) (fun j hj => by rw [Nat.add_zero]; exact hB'.thawed _ (by omega)) hzone
    rw [Nat.add_zero, ← putCells_setCells] at hst
    have hrun : (execOp ρ o).run P w' = .ok (.value (.tuple #[])) (putCells w' b (i * t.size) zs) := by
      refine run_clear_call ho ?_
      rw [hρ _ _ hx, hcv]
      obtain ⟨m, hm⟩ : ∃ m, ys.length - i = m + 1 := ⟨ys.length - i - 1, by omega⟩
      have hst' : (storeCells ⟨b, i * t.size, none⟩ (Builtin.zeroCells z.cells (m + 1)).toList).run P w' = .ok () (putCells w' b (i * t.size) zs) := by rw [← hm]; exact hst
      simp [Builtin.clear_, run_underlying hT, zeroValue, typeInfo, hE, hz, hm, hst']
    have hb2 := hB.put zs (i * t.size)
    rw [splice_eq _ _ _ hfit] at hb2
    have hX := putCells_ext zs w b (i * t.size)
    refine ⟨_, _, _, hrun, hw.putCells b zs (i * t.size), ⟨by rw [List.length_take]; omega, .inr ⟨cap, us.take i, zs ++ (flat us ++ sp).drop (i * t.size + zs.length), by rw [List.length_take]; congr 1; omega, by rw [List.length_take]; omega, ?_, ?_, ?_⟩⟩, hX⟩
    · exact Each.take (he.imp (fun u x h => t.ext h hX hQ)) i
    · rw [flat_take i hsz, ← List.append_assoc]
      rw [List.take_append_of_le_length (by omega)] at hb2
      exact hb2
    · rw [flat_take i hsz]
      simp only [List.length_append, List.length_take, List.length_drop] at hlen hfit ⊢
      omega
  · obtain rfl : i = ys.length := by omega
    have hcv : ∃ a c, cutV t.size (some ⟨b, 0, none⟩) cap ys.length ys.length = .slice a 0 c := by
      unfold cutV
      rw [Nat.sub_self]
      exact ⟨_, _, rfl⟩
    obtain ⟨a, c, hcv⟩ := hcv
    have hrun : (execOp ρ o).run P w' = .ok (.value (.tuple #[])) w' := by
      refine run_clear_call ho ?_
      rw [hρ _ _ hx, hcv]
      cases a <;> simp [Builtin.clear_, run_underlying hT]
    refine ⟨_, w, w', hrun, hw, ⟨by rw [List.take_length]; exact hl, .inr ⟨cap, us, sp, by rw [List.take_length], by rw [List.take_length]; exact hc, by rw [List.take_length]; exact he, hB, hlen⟩⟩, .refl _⟩
end
end Go.Proofs.Ythkgadhamecnlaa
namespace Go.Proofs.Ythkgadhamecnlaa
open Go page
namespace table
theorem chk_sorted : ∀ {l : List Entry} {p : Option Entry}, chk p l = 0 → l.Pairwise (fun a b => lessE a b = true) ∧ ∀ y, p = some y → ∀ x ∈ l, lessE y x = true
  | [], _, _ => ⟨.nil, fun _ _ x hx => by cases hx⟩
  | x :: l, p, h => by
    rw [chk_cons] at h
    split at h
    · rename_i h1; exact absurd h h1
    · split at h
      · cases h
      · rename_i ha
        obtain ⟨h1, h2⟩ := chk_sorted h
        have h3 := h2 x rfl
        refine ⟨List.pairwise_cons.2 ⟨h3, h1⟩, fun y hy z hz => ?_⟩
        subst hy
        have hyx : lessE y x = true := by
          unfold ahd at ha
          simpa using ha
        rcases List.mem_cons.1 hz with rfl | hz
        · exact hyx
        · exact less_trans hyx (h3 z hz)
theorem check_sorted {l : List Entry} (h : checkE l = 0) : l.Pairwise (fun a b => lessE a b = true) := by
  unfold checkE at h
  split at h
  · cases h
  · exact (chk_sorted h).1
theorem less_keys {a b : Entry} (h : lessE a b = true) : Op.bytesLess b.key a.key = false := by
  rw [bytesLess_eq]
  rcases (less_iff a b).1 h with h | ⟨h, _⟩
  · have := cmpB_neg a.key b.key
    exact decide_eq_false (by omega)
  · have := (cmpB_zero b.key a.key).2 h.symm
    exact decide_eq_false (by omega)
theorem bless_irrefl (a : Bs) : Op.bytesLess a a = false := by
  rw [bytesLess_eq]
  have := (cmpB_zero a a).2 rfl
  exact decide_eq_false (by omega)
theorem fst_low {q : List Entry} (h : checkE q = 0) {x : Entry} (hx : x ∈ q) : Op.bytesLess x.key (fstK q) = false := by
  have hs := check_sorted h
  cases q with
  | nil => cases hx
  | cons y q =>
    show Op.bytesLess x.key y.key = false
    rcases List.mem_cons.1 hx with rfl | hx
    · exact bless_irrefl _
    · exact less_keys ((List.pairwise_cons.1 hs).1 x hx)
theorem lst_high {q : List Entry} (h : checkE q = 0) {x : Entry} (hx : x ∈ q) : Op.bytesLess (lstK q) x.key = false := by
  have hs := check_sorted h
  have hne : q ≠ [] := fun e => by subst e; cases hx
  have hq : q = q.dropLast ++ [q.getLast hne] := (List.dropLast_concat_getLast hne).symm
  have hl : lstK q = (q.getLast hne).key := by
    unfold lstK
    rw [List.getLastD_eq_getLast?, List.getLast?_eq_some_getLast hne]; rfl
  rw [hl]
  rw [hq, List.pairwise_append] at hs
  rw [hq] at hx
  rcases List.mem_append.1 hx with hx | hx
  · exact less_keys (hs.2.2 x hx _ (by simp))
  · rw [List.mem_singleton] at hx
    subst hx
    exact bless_irrefl _
def fitK (key : Bs) (seq : Int) (x : Entry) : Bool := decide (x.key = key) && decide (x.seq ≤ seq)
theorem fit_lo {q : List Entry} (h : checkE q = 0) {key : Bs} {seq : Int} (hk : Op.bytesLess (lstK q) key = true) : ∀ x ∈ q, fitK key seq x = false := fun x hx => by
  have := lst_high h hx
  unfold fitK
  by_cases hkk : x.key = key
  · rw [hkk, hk] at this; cases this
  · rw [decide_eq_false hkk]; rfl
theorem fit_hi {q : List Entry} (h : checkE q = 0) {key : Bs} {seq : Int} (hk : Op.bytesLess key (fstK q) = true) : ∀ x ∈ q, fitK key seq x = false := fun x hx => by
  have := fst_low h hx
  unfold fitK
  by_cases hkk : x.key = key
  · rw [hkk, hk] at this; cases this
  · rw [decide_eq_false hkk]; rfl
theorem sieve_made {l : List Entry} (hck : checkE l = 0) (hne : ¬ l = []) : sieveB l = sieve.makeL (l.map (·.key)) (manyB l.length) := by
  obtain ⟨h4, hone⟩ := check_ok hck
  have hp := List.length_pos_iff.2 hne
  obtain ⟨m1, m2, m3⟩ := many_ok (n := l.length) hp h4
  unfold sieveB sieve.makeF
  rw [if_neg (by rw [List.length_map]; omega), if_neg, if_neg (by omega), Int.toNat_natCast]
  intro h
  obtain ⟨k, hk, hb⟩ := List.any_eq_true.1 h
  obtain ⟨x, hx, rfl⟩ := List.mem_map.1 hk
  have := (one_ok (hone x hx)).2.1
  have := of_decide_eq_true hb
  omega
theorem sieve_hides {l : List Entry} (hck : checkE l = 0) (hne : ¬ l = []) {key : Bs} (h : (sieve.hasF (sieveB l) key).1 = false) {seq : Int} : ∀ x ∈ l, fitK key seq x = false := fun x hx => by
  unfold fitK
  by_cases hkk : x.key = key
  · exfalso
    obtain ⟨h4, hone⟩ := check_ok hck
    have hp := List.length_pos_iff.2 hne
    obtain ⟨m1, m2, m3⟩ := many_ok (n := l.length) hp h4
    rw [sieve_made hck hne, sieve.has_made m1 m2 m3 (fun k hk => by obtain ⟨y, hy, rfl⟩ := List.mem_map.1 hk; exact (one_ok (hone y hy)).2.1) (List.mem_map.2 ⟨x, hx, hkk⟩)] at h
    cases h
  · rw [decide_eq_false hkk]; rfl
/-- the first that fits -/
def newest (l : List Entry) (key : Bs) (seq : Int) : Option Entry := l.find? (fitK key seq)
theorem newest_none {l : List Entry} {key : Bs} {seq : Int} (h : ∀ x ∈ l, fitK key seq x = false) : newest l key seq = none := List.find?_eq_none.2 (fun x hx hf => by rw [h x hx] at hf; cases hf)
theorem newest_some {a c q : List Entry} {key : Bs} {seq : Int} {i : Nat} (ha : ∀ x ∈ a, fitK key seq x = false) (hi : i < q.length) (h : q.findIdx? (fitK key seq) = some i) : newest (a ++ q ++ c) key seq = some q[i] := by
  have h1 : a.find? (fitK key seq) = none := newest_none ha
  have h2 : q.find? (fitK key seq) = some q[i] := by
    rw [List.findIdx?_eq_some_iff_getElem] at h
    obtain ⟨h', hp, hb⟩ := h
    rw [List.find?_eq_some_iff_getElem]
    exact ⟨hp, i, h', rfl, fun j hj => by simpa using hb j hj⟩
  unfold newest
  rw [List.find?_append, List.find?_append, h1, h2]
  rfl
noncomputable def findT (b key : Bs) (seq : Int) : Entry × Bool × Int :=
  match openF b with
  | none => (page.zeroE, false, 90)
  | some rows => if key = [] ∨ 256 < key.length then (page.zeroE, false, 60) else if seq < 0 ∨ 2147483647 < seq then (page.zeroE, false, 2) else
    match newest (entsR rows) key seq with
    | some x => (x, true, 0)
    | none => (page.zeroE, false, 0)
theorem findT_none {b key : Bs} {seq : Int} (h : openF b = none) : findT b key seq = (page.zeroE, false, 90) := by unfold findT; rw [h]
theorem findT_key {b key : Bs} {seq : Int} {rows : List Row} (h : openF b = some rows) (hk : key = [] ∨ 256 < key.length) : findT b key seq = (page.zeroE, false, 60) := by unfold findT; rw [h]; simp only; rw [if_pos hk]
theorem findT_seq {b key : Bs} {seq : Int} {rows : List Row} (h : openF b = some rows) (hk : ¬ (key = [] ∨ 256 < key.length)) (hs : seq < 0 ∨ 2147483647 < seq) : findT b key seq = (page.zeroE, false, 2) := by unfold findT; rw [h]; simp only; rw [if_neg hk, if_pos hs]
theorem findT_some {b key : Bs} {seq : Int} {rows : List Row} {x : Entry} (h : openF b = some rows) (hk : ¬ (key = [] ∨ 256 < key.length)) (hs : ¬ (seq < 0 ∨ 2147483647 < seq)) (hn : newest (entsR rows) key seq = some x) : findT b key seq = (x, true, 0) := by unfold findT; rw [h]; simp only; rw [if_neg hk, if_neg hs, hn]
theorem findT_miss {b key : Bs} {seq : Int} {rows : List Row} (h : openF b = some rows) (hk : ¬ (key = [] ∨ 256 < key.length)) (hs : ¬ (seq < 0 ∨ 2147483647 < seq)) (hn : newest (entsR rows) key seq = none) : findT b key seq = (page.zeroE, false, 0) := by unfold findT; rw [h]; simp only; rw [if_neg hk, if_neg hs, hn]
/-- rows of an open table, one by one -/
structure Opened (b : Bs) (rows : List Row) (l : List Entry) : Prop where
  made : makeT l = (b, 0)
  eq : rows = (partF l).map rowOf
  ents : entsR rows = l
  len : rows.length = (partF l).length
  pos : 0 < rows.length
theorem opened {b : Bs} {rows : List Row} (h : openF b = some rows) : Opened b rows (entsR rows) := by
  obtain ⟨h1, h2⟩ := open_iff h
  have h3 : rows.length = (partF (entsR rows)).length := by conv => lhs; rw [h2]; rw [List.length_map]
  exact ⟨h1, h2, rfl, h3, by rw [h3]; exact List.length_pos_iff.2 (partF_ne (makeT_ok h1).2.1)⟩
theorem Opened.row {b : Bs} {rows : List Row} {l : List Entry} (h : Opened b rows l) {i : Nat} (hi : i < rows.length) : ∃ q, rows[i] = rowOf q ∧ q ∈ partF l ∧ checkE q = 0 ∧ readE (pageB q) = (q, 0) ∧ ∃ a c, l = a ++ q ++ c ∧ a = entsR (rows.take i) ∧ entsR (rows.take (i + 1)) = a ++ q := by
  have hi' : i < (partF l).length := by rw [← h.len]; exact hi
  have hr : rows[i] = rowOf (partF l)[i] := by
    have := h.eq
    subst this
    rw [List.getElem_map]
  obtain ⟨hck, _⟩ := makeT_ok h.made
  have hm := parts_table hck (partF l)[i] (List.getElem_mem hi')
  refine ⟨_, hr, List.getElem_mem hi', hm.1, read_page (by rw [make_small hm.1 hm.2.1]), ((partF l).take i).flatten, ((partF l).drop (i + 1)).flatten, ?_, ?_, ?_⟩
  · conv => lhs; rw [← part_flat l, ← List.take_append_drop i (partF l), List.drop_eq_getElem_cons hi']
    rw [List.flatten_append, List.flatten_cons, List.append_assoc]
  · rw [h.eq, ← List.map_take, ents_rows]
  · rw [h.eq, ← List.map_take, ents_rows, List.take_succ_eq_append_getElem hi', List.flatten_append]; simp
end table
end Go.Proofs.Ythkgadhamecnlaa
namespace Go.Proofs.Ythkgadhamecnlaa
open Go page table
theorem gt_less (a b : Bs) : (!Op.bytesLess a b && !a == b) = Op.bytesLess b a := by
  rw [bytesLess_eq, bytesLess_eq]
  have n := cmpB_neg a b
  have z := cmpB_zero a b
  by_cases h : Lib.compareBytes a b < 0
  · rw [decide_eq_true h, decide_eq_false (by omega)]; rfl
  · rw [decide_eq_false h]
    by_cases h2 : a = b
    · have := z.2 h2
      rw [decide_eq_false (by omega), h2]; simp
    · have : ¬ Lib.compareBytes a b = 0 := fun e => h2 (z.1 e)
      rw [decide_eq_true (by omega)]; simpa using h2
theorem Ev.gtS {P : Program} {e : Env} {w : World} {x y : Operand} {T T' : TypeId} {a b : Bs} (hx : look e x = some (str a)) (hy : look e y = some (str b)) : Ev P e (.binOp .gtr T x y T') w (.bool (Op.bytesLess b a)) :=
  fun w' _ ρ hρ o ho => by
    have h1 : (bs a).toList = a := bs_toList a
    have h2 : (bs b).toList = b := bs_toList b
    simp [execOp, ho, hρ _ _ hx, hρ _ _ hy, eqGuard, binOp, Op.stringOp, h1, h2]
    exact gt_less a b
theorem Ev.geS {P : Program} {e : Env} {w : World} {x y : Operand} {T T' : TypeId} {a b : Bs} (hx : look e x = some (str a)) (hy : look e y = some (str b)) : Ev P e (.binOp .geq T x y T') w (.bool (!Op.bytesLess a b)) :=
  fun w' _ ρ hρ o ho => by
    have h1 : (bs a).toList = a := bs_toList a
    have h2 : (bs b).toList = b := bs_toList b
    simp [execOp, ho, hρ _ _ hx, hρ _ _ hy, eqGuard, binOp, Op.stringOp, h1, h2]
theorem open_fn2 {w : World} {v : Value} {b : Bs} (h : tBytes.rep All w v b) : Fn Try.prog 46 [v] w (fun r w2 => ∃ q e, r = .tuple #[.pointer q, i64 e] ∧ ((openF b = none ∧ e = 90) ∨ (e = 0 ∧ ∃ rows p, openF b = some rows ∧ q = some ⟨p, 0, none⟩ ∧ OG w2 p w.heap.size rows (sieveOf b))) ∧ Ext (fun _ => False) w w2) :=
  (open_fn h).mono fun r w2 hr => by
    obtain ⟨⟨h1, rfl⟩ | ⟨rows, p, h1, rfl, h2⟩, h3⟩ := hr
    · exact ⟨_, _, rfl, .inl ⟨h1, rfl⟩, h3⟩
    · exact ⟨_, _, rfl, .inr ⟨rfl, rows, p, h1, rfl, h2⟩, h3⟩
namespace table
noncomputable def checkT (b : Bs) : Int := match openF b with | none => 90 | some _ => 0
noncomputable def pagesT (b : Bs) : Nat × Int := match openF b with | none => (0, 90) | some rows => (rows.length, 0)
def row0 : Row := ⟨[], [], [], []⟩
noncomputable def endsT (b : Bs) : Bs × Bs × Int := match openF b with | none => ([], [], 90) | some rows => ((rows.getD 0 row0).fst, (rows.getD (rows.length - 1) row0).lst, 0)
theorem OG.val {w : World} {p lo : Nat} {rows : List Row} {sv : Bs} (h : OG w p lo rows sv) : ∃ a1 c1 a2 c2 a3 c3 a4 c4 v5, Blk w p 89 [.slice a1 rows.length c1, .slice a2 rows.length c2, .slice a3 rows.length c3, .slice a4 sv.length c4, v5] ∧ (Sl tBytes).rep All w (.slice a1 rows.length c1) (rows.map (·.bytes)) ∧ (Sl tStr).rep All w (.slice a2 rows.length c2) (rows.map (·.fst)) ∧ (Sl tStr).rep All w (.slice a3 rows.length c3) (rows.map (·.lst)) ∧ tBytes.rep All w (.slice a4 sv.length c4) sv ∧ OwnO tEntry (fun _ => False) 33 w v5 (entsR rows) (fun k => lo ≤ k) := by
  obtain ⟨v1, v2, v3, v4, v5, Bp, R1, R2, R3, R4, O5⟩ := h
  obtain ⟨a1, c1, rfl, hc1⟩ := Sl.val R1
  obtain ⟨a2, c2, rfl, hc2⟩ := Sl.val R2
  obtain ⟨a3, c3, rfl, hc3⟩ := Sl.val R3
  obtain ⟨a4, c4, rfl, hc4⟩ := Sl.val R4
  simp only [List.length_map] at R1 R2 R3 Bp
  exact ⟨a1, c1, a2, c2, a3, c3, a4, c4, v5, Bp, R1, R2, R3, R4, O5⟩
end table
theorem TCheck_fn {w : World} {v : Value} {b : Bs} (h : tBytes.rep All w v b) : Fn Try.prog 17 [v] w (fun r w2 => r = i64 (checkT b) ∧ Ext (fun _ => False) w w2) := by
  refine Fn.enter (fun w => Try.call17 _ w) Try.func17 rfl ?_
  refine .seq (.region ?_)
  refine .p rfl rfl (.as rfl) ?_
  refine .nil (.code (.seq (.keep [(0, _)] ⟨rfl, trivial⟩ (.region ?_))))
  refine .p rfl rfl (.mv rfl) ?_
  refine .call (first := []) (captured := []) rfl rfl rfl rfl (open_fn2 h) ?_
  rintro _ w7 ⟨q7, e7, rfl, ho7, X7⟩
  have z7 := X7.size
  refine .p rfl rfl (.mv rfl) ?_
  refine .p rfl rfl (.extract rfl rfl) ?_
  refine .p rfl rfl (.extract rfl rfl) ?_
  refine .p rfl rfl (.as rfl) ?_
  refine .p rfl rfl (.as rfl) ?_
  refine .nil (.code (.seq (.keep [(4, _)] ⟨rfl, trivial⟩ (.region ?_))))
  refine .p rfl rfl (.mv rfl) ?_
  refine .p rfl rfl (.as rfl) ?_
  refine .nil (.code ?_)
  refine .ret _ rfl ?_
  rcases ho7 with ⟨ho, rfl⟩ | ⟨rfl, rows, p, ho, rfl, hOG⟩
  · exact ⟨by unfold checkT; rw [ho]; rfl, X7⟩
  · exact ⟨by unfold checkT; rw [ho]; rfl, X7⟩
theorem TPages_fn {w : World} {v : Value} {b : Bs} (h : tBytes.rep All w v b) : Fn Try.prog 19 [v] w (fun r w2 => r = .tuple #[i64 ((pagesT b).1 : Nat), i64 (pagesT b).2] ∧ Ext (fun _ => False) w w2) := by
  refine Fn.enter (fun w => Try.call19 _ w) Try.func19 rfl ?_
  refine .seq (.region ?_)
  refine .p rfl rfl (.as rfl) ?_
  refine .p rfl rfl (.as rfl) ?_
  refine .nil (.code (.seq (.keep [(0, _)] ⟨rfl, trivial⟩ (.region ?_))))
  refine .p rfl rfl (.mv rfl) ?_
  refine .call (first := []) (captured := []) rfl rfl rfl rfl (open_fn2 h) ?_
  rintro _ w8 ⟨q8, e8, rfl, ho8, X8⟩
  have z8 := X8.size
  refine .p rfl rfl (.mv rfl) ?_
  refine .p rfl rfl (.extract rfl rfl) ?_
  refine .p rfl rfl (.extract rfl rfl) ?_
  refine .p rfl rfl (.as rfl) ?_
  refine .p rfl rfl (.as rfl) ?_
  refine .nil (.code (.seq (.seq (.keep [(5, _), (4, _)] ⟨rfl, rfl, trivial⟩ (.region ?_)))))
  refine .p rfl rfl (.mv rfl) ?_
  refine .p rfl rfl (.ne rfl rfl) ?_
  refine .nil (.code (.keep [(12, _), (5, _), (4, _)] ⟨rfl, rfl, rfl, trivial⟩ ?_))
  refine .condD rfl (fun c12 => ?_) (fun c12 => ?_)
  · rcases ho8 with ⟨ho, rfl⟩ | ⟨he, _⟩
    case inr => exact absurd he c12
    refine .seq (.keep [(5, _)] ⟨rfl, trivial⟩ (.region ?_))
    refine .p rfl rfl (.mv rfl) ?_
    refine .p rfl rfl (.as rfl) ?_
    refine .p rfl rfl (.as rfl) ?_
    refine .nil (.code ?_)
    refine .ret _ rfl ?_
    exact ⟨by unfold pagesT; rw [ho]; rfl, X8⟩
  · rcases ho8 with ⟨_, he⟩ | ⟨he, rows, p, ho, rfl, hOG⟩
    case inl => exact absurd (Decidable.not_not.1 c12) (by rw [he]; decide)
    subst he
    obtain ⟨a1, c1, a2, c2, a3, c3, a4, c4, v5, Bp, R1, R2, R3, R4, O5⟩ := hOG.val
    have hO := opened ho
    refine .skip (.code (.seq (.keep [(4, _)] ⟨rfl, trivial⟩ (.region ?_))))
    refine .p rfl rfl (.mv rfl) ?_
    refine .p rfl rfl (.nilCheck rfl) ?_
    refine .p rfl rfl (.fieldAddr rfl rfl rfl rfl) ?_
    refine .call (first := []) (captured := []) rfl rfl rfl rfl (count_fn Bp) ?_
    rintro _ w17 ⟨rfl, X17⟩
    refine .p rfl rfl (.as rfl) ?_
    refine .p rfl rfl (.as rfl) ?_
    refine .nil (.code ?_)
    refine .ret _ rfl ?_
    exact ⟨by unfold pagesT; rw [ho]; rfl, X8.trans X17⟩
theorem TEnds_fn {w : World} {v : Value} {b : Bs} (h : tBytes.rep All w v b) : Fn Try.prog 20 [v] w (fun r w2 => r = .tuple #[str (endsT b).1, str (endsT b).2.1, i64 (endsT b).2.2] ∧ Ext (fun _ => False) w w2) := by
  refine Fn.enter (fun w => Try.call20 _ w) Try.func20 rfl ?_
  refine .seq (.region ?_)
  refine .p rfl rfl (.as rfl) ?_
  refine .p rfl rfl (.as rfl) ?_
  refine .p rfl rfl (.as rfl) ?_
  refine .nil (.code (.seq (.keep [(0, _)] ⟨rfl, trivial⟩ (.region ?_))))
  refine .p rfl rfl (.mv rfl) ?_
  refine .call (first := []) (captured := []) rfl rfl rfl rfl (open_fn2 h) ?_
  rintro _ w8 ⟨q8, e8, rfl, ho8, X8⟩
  have z8 := X8.size
  refine .p rfl rfl (.mv rfl) ?_
  refine .p rfl rfl (.extract rfl rfl) ?_
  refine .p rfl rfl (.extract rfl rfl) ?_
  refine .p rfl rfl (.as rfl) ?_
  refine .p rfl rfl (.as rfl) ?_
  refine .nil (.code (.seq (.seq (.keep [(4, _), (5, _)] ⟨rfl, rfl, trivial⟩ (.region ?_)))))
  refine .p rfl rfl (.mv rfl) ?_
  refine .p rfl rfl (.ne rfl rfl) ?_
  refine .nil (.code (.keep [(12, _), (4, _), (5, _)] ⟨rfl, rfl, rfl, trivial⟩ ?_))
  refine .condD rfl (fun c12 => ?_) (fun c12 => ?_)
  · rcases ho8 with ⟨ho, rfl⟩ | ⟨he, _⟩
    case inr => exact absurd he c12
    refine .seq (.keep [(4, _)] ⟨rfl, trivial⟩ (.region ?_))
    refine .p rfl rfl (.mv rfl) ?_
    refine .p rfl rfl (.as rfl) ?_
    refine .p rfl rfl (.as rfl) ?_
    refine .p rfl rfl (.as rfl) ?_
    refine .nil (.code ?_)
    refine .ret _ rfl ?_
    exact ⟨by unfold endsT; rw [ho]; rfl, X8⟩
  · rcases ho8 with ⟨_, he⟩ | ⟨he, rows, p, ho, rfl, hOG⟩
    case inl => exact absurd (Decidable.not_not.1 c12) (by rw [he]; decide)
    subst he
    obtain ⟨a1, c1, a2, c2, a3, c3, a4, c4, v5, Bp, R1, R2, R3, R4, O5⟩ := hOG.val
    have hO := opened ho
    have hp0 := hO.pos
    have hpl := Sl.lim R2
    simp only [Lim, List.length_map] at hpl
    obtain ⟨b2, o2, q2, ue2, e2, hb2, hcs2, hre2⟩ := Sl.at R2 (i := 0) (x := rows[0].fst) (by rw [List.getElem?_map, List.getElem?_eq_getElem hp0]; rfl)
    obtain ⟨b3, o3, q3, ue3, e3, hb3, hcs3, hre3⟩ := Sl.at R3 (i := rows.length - 1) (x := rows[rows.length - 1].lst) (by rw [List.getElem?_map, List.getElem?_eq_getElem (by omega)]; rfl)
    injection e2 with e2 _ _
    injection e3 with e3 _ _
    subst e2
    subst e3
    obtain ⟨rfl, _⟩ := hre2
    obtain ⟨rfl, _⟩ := hre3
    refine .skip (.code (.seq (.keep [(5, _)] ⟨rfl, trivial⟩ (.mix (fun _ => False) [15] (by kernel_rfl) (by kernel_rfl) (by kernel_rfl) ?_))))
    refine .p rfl rfl rfl (fun wx hx => .mv rfl) ?_
    refine .p rfl rfl rfl (fun wx hx => .nilCheck rfl) ?_
    refine .p rfl rfl rfl (fun wx hx => .fieldAddr rfl rfl rfl rfl) ?_
    refine .p rfl rfl rfl (fun wx hx => .fieldAddr rfl rfl rfl rfl) ?_
    refine .p rfl rfl rfl (fun wx hx => .load rfl rfl rfl ((Bp.ext hx (fun x => x)).cell 1)) ?_
    refine .p rfl rfl rfl (fun wx hx => .indexAddr1 rfl rfl rfl rfl (by omega)) ?_
    refine .p rfl rfl rfl (fun wx hx => .load rfl rfl rfl (cell_at (i := 0) rfl (hcs2.ext hx (fun x => x)) rfl)) ?_
    refine .p rfl rfl rfl (fun wx hx => .mv rfl) ?_
    refine .p rfl rfl rfl (fun wx hx => .nilCheck rfl) ?_
    refine .p rfl rfl rfl (fun wx hx => .fieldAddr rfl rfl rfl rfl) ?_
    refine .p rfl rfl rfl (fun wx hx => .fieldAddr rfl rfl rfl rfl) ?_
    refine .p rfl rfl rfl (fun wx hx => .load rfl rfl rfl ((Bp.ext hx (fun x => x)).cell 2)) ?_
    refine .p rfl rfl rfl (fun wx hx => .mv rfl) ?_
    refine .p rfl rfl rfl (fun wx hx => .nilCheck rfl) ?_
    refine .p rfl rfl rfl (fun wx hx => .fieldAddr rfl rfl rfl rfl) ?_
    refine .call (first := []) (captured := []) rfl rfl rfl rfl rfl (count_fn Bp) (by rintro _ _ ⟨_, hx⟩; exact hx) ?_
    rintro _ w29 ⟨rfl, X29⟩
    refine .p rfl rfl rfl (fun wx hx => .sub rfl rfl (by omega)) ?_
    refine .p rfl rfl rfl (fun wx hx => .indexAddr1 rfl rfl rfl rfl (by omega)) ?_
    refine .p rfl rfl rfl (fun wx hx => .load rfl rfl rfl (by rw [show ((rows.length : Int) - 1).toNat = ((rows.length - 1 : Nat) : Int).toNat by omega]; exact cell_at rfl (hcs3.ext hx (fun x => x)) rfl)) ?_
    refine .p rfl rfl rfl (fun wx hx => .as rfl) ?_
    refine .p rfl rfl rfl (fun wx hx => .as rfl) ?_
    refine .p rfl rfl rfl (fun wx hx => .as rfl) ?_
    refine .nil (.code ?_)
    refine .ret _ rfl ?_
    have e : endsT b = (rows[0].fst, rows[rows.length - 1].lst, 0) := by unfold endsT; rw [ho]; simp only; rw [List.getD_eq_getElem?_getD, List.getD_eq_getElem?_getD, List.getElem?_eq_getElem hp0, List.getElem?_eq_getElem (show rows.length - 1 < rows.length by omega)]; rfl
    rw [e]
    exact ⟨rfl, X8.trans X29⟩
theorem TFindC_fn {w : World} {q q2 : Nat} {E E2 : TypeId} {key : Bs} {seq : Int} {u : Value} {x : Entry} (h : tEntry.rep All w u x) (hB : Blk w q E [str key]) (hB2 : Blk w q2 E2 [i64 seq]) : Fn Try.prog 51 ([] ++ [u] ++ [.pointer (some ⟨q, 0, none⟩), .pointer (some ⟨q2, 0, none⟩)]) w (fun r w2 => r = .bool (fitK key seq x) ∧ Ext (fun _ => False) w w2) := by
  obtain ⟨rfl, _⟩ := tEntry.val h
  refine Fn.enter (fun w => Try.call51 _ w) Try.func51 rfl ?_
  refine .seq (.region ?_)
  refine .v rfl rfl (.box rfl) ?_
  rintro _ w3 ⟨rfl, N3⟩
  refine .p rfl rfl (.as rfl) ?_
  refine .nil (.code (.seq (.keep [(3, _), (1, _), (2, _)] ⟨rfl, rfl, rfl, trivial⟩ (.region ?_))))
  refine .p rfl rfl (.fieldAddr rfl rfl rfl rfl) ?_
  refine .p rfl rfl (.load rfl rfl rfl (N3.blk.cell 0)) ?_
  refine .p rfl rfl (.load rfl rfl rfl ((hB.ext N3.ext (fun x => x)).cell 0)) ?_
  refine .p rfl rfl (.eqS rfl rfl) ?_
  refine .p rfl rfl (.mv rfl) ?_
  refine .caseD 9 rfl (fun c9 => ?_) (fun c9 => ?_)
  · refine .p rfl rfl (.fieldAddr rfl rfl rfl rfl) ?_
    refine .p rfl rfl (.load rfl rfl rfl (N3.blk.cell 2)) ?_
    refine .p rfl rfl (.load rfl rfl rfl ((hB2.ext N3.ext (fun x => x)).cell 0)) ?_
    refine .p rfl rfl (.le rfl rfl) ?_
    refine .p rfl rfl (.pickT rfl rfl) ?_
    refine .p rfl rfl (.as rfl) ?_
    refine .nil (.code ?_)
    refine .ret _ rfl ?_
    exact ⟨by unfold fitK; rw [decide_eq_true c9]; rfl, N3.ext⟩
  · refine .skip rfl rfl ?_
    refine .skip rfl rfl ?_
    refine .skip rfl rfl ?_
    refine .skip rfl rfl ?_
    refine .p rfl rfl (.pickF rfl rfl) ?_
    refine .p rfl rfl (.as rfl) ?_
    refine .nil (.code ?_)
    refine .ret _ rfl ?_
    exact ⟨by unfold fitK; rw [decide_eq_false c9]; rfl, N3.ext⟩
theorem TFind_fn {w : World} {v : Value} {b key : Bs} {seq : Int} (h : tBytes.rep All w v b) (hkl : key.length < Lim) : Fn Try.prog 16 [v, str key, i64 seq] w (fun r w2 => r = .tuple #[.agg #[str (findT b key seq).1.key, str (findT b key seq).1.value, i64 (findT b key seq).1.seq, .bool (findT b key seq).1.gone], .bool (findT b key seq).2.1, i64 (findT b key seq).2.2] ∧ Ext (fun _ => False) w w2) := by
  obtain ⟨a, cap, rfl, hcap⟩ := Sl.val h
  refine Fn.enter (fun w => Try.call16 _ w) Try.func16 rfl ?_
  refine .seq (.region ?_)
  refine .v rfl rfl (.box rfl) ?_
  rintro _ w4 ⟨rfl, N4⟩
  have z4 := N4.size
  refine .v rfl rfl (.box rfl) ?_
  rintro _ w5 ⟨rfl, N5⟩
  have z5 := N5.size
  refine .v rfl rfl (.alloc rfl rfl) ?_
  rintro _ w6 ⟨rfl, N6⟩
  have z6 := N6.size
  refine .p rfl rfl (.as rfl) ?_
  refine .p rfl rfl (.as rfl) ?_
  refine .nil (.code (.seq (.keep [(6, _), (5, _), (4, _), (0, _)] ⟨rfl, rfl, rfl, rfl, trivial⟩ (.region ?_))))
  refine .p rfl rfl (.mv rfl) ?_
  refine .call (first := []) (captured := []) rfl rfl rfl rfl (open_fn2 (tBytes.ext0 h ((N4.ext.trans N5.ext).trans N6.ext))) ?_
  rintro _ w19 ⟨q19, e19, rfl, ho19, X19⟩
  have z19 := X19.size
  have B4 := ((N4.blk.ext N5.ext (fun x => x)).ext N6.ext (fun x => x)).ext X19 (fun x => x)
  have B5 := (N5.blk.ext N6.ext (fun x => x)).ext X19 (fun x => x)
  have B6 := N6.blk.ext X19 (fun x => x)
  have Z19 := ((N4.ext.trans N5.ext).trans N6.ext).trans X19
  refine .p rfl rfl (.mv rfl) ?_
  refine .p rfl rfl (.extract rfl rfl) ?_
  refine .p rfl rfl (.extract rfl rfl) ?_
  refine .p rfl rfl (.as rfl) ?_
  refine .p rfl rfl (.as rfl) ?_
  refine .nil (.code (.seq (.block (.seq (.keep [(10, _), (9, _), (6, _), (5, _), (4, _)] ⟨rfl, rfl, rfl, rfl, rfl, trivial⟩ (.region ?_))))))
  refine .p rfl rfl (.mv rfl) ?_
  refine .p rfl rfl (.ne rfl rfl) ?_
  refine .p rfl rfl (.as rfl) ?_
  refine .nil (.code (.keep [(22, _), (10, _), (9, _), (6, _), (5, _), (4, _)] ⟨rfl, rfl, rfl, rfl, rfl, rfl, trivial⟩ ?_))
  refine .condD rfl (fun c22 => ?_) (fun c22 => ?_)
  · rcases ho19 with ⟨ho, rfl⟩ | ⟨he, _⟩
    case inr => exact absurd he c22
    refine .seq (.keep [(10, _), (6, _)] ⟨rfl, rfl, trivial⟩ (.region ?_))
    refine .p rfl rfl (.build (vs := []) (cs := [str [], str [], i64 0, .bool false]) rfl (fun _ => by kernel_rfl)) ?_
    refine .p rfl rfl (.mv rfl) ?_
    refine .s rfl (.storeAll (n := 4) rfl rfl rfl rfl rfl B6 rfl) ?_
    intro wz Pf
    refine .p rfl rfl (.as rfl) ?_
    refine .p rfl rfl (.as rfl) ?_
    refine .nil (.code ?_)
    refine .retR (.cell (n := 4) rfl rfl rfl rfl rfl (Pf.blk.cells) (.tmp rfl (.tmp rfl .nil))) ?_
    rw [findT_none ho]
    exact ⟨rfl, Z19.then Pf.ext (by rintro k rfl _; show w.heap.size ≤ _; omega)⟩
  · rcases ho19 with ⟨_, he⟩ | ⟨he, rows, p, ho, rfl, hOG⟩
    case inl => exact absurd (Decidable.not_not.1 c22) (by rw [he]; decide)
    subst he
    obtain ⟨a1, c1, a2, c2, a3, c3, a4, c4, v5, Bp, R1, R2, R3, R4, O5⟩ := hOG.val
    have hO := opened ho
    have hrl := Sl.lim R2
    simp only [Lim, List.length_map] at hrl
    refine .seq (.keep [(9, _), (6, _), (5, _), (4, _)] ⟨rfl, rfl, rfl, rfl, trivial⟩ (.region ?_))
    refine .p rfl rfl (.load rfl rfl rfl (B4.cell 0)) ?_
    refine .p rfl rfl (.eqS rfl rfl) ?_
    refine .p rfl rfl (.mv rfl) ?_
    refine .caseD 30 rfl (fun c30 => ?_) (fun c30 => ?_)
    · refine .skip rfl rfl ?_
      refine .skip rfl rfl ?_
      refine .skip rfl rfl ?_
      refine .p rfl rfl (.pickT rfl rfl) ?_
      refine .p rfl rfl (.as rfl) ?_
      refine .nil (.code (.keep [(27, _), (9, _), (6, _), (5, _), (4, _)] ⟨rfl, rfl, rfl, rfl, rfl, trivial⟩ (.condT rfl (.seq (.keep [(6, _)] ⟨rfl, trivial⟩ (.region ?_))))))
      refine .p rfl rfl (.build (vs := []) (cs := [str [], str [], i64 0, .bool false]) rfl (fun _ => by kernel_rfl)) ?_
      refine .s rfl (.storeAll (n := 4) rfl rfl rfl rfl rfl B6 rfl) ?_
      intro wz Pf
      refine .p rfl rfl (.as rfl) ?_
      refine .p rfl rfl (.as rfl) ?_
      refine .nil (.code ?_)
      refine .retR (.cell (n := 4) rfl rfl rfl rfl rfl (Pf.blk.cells) (.tmp rfl (.tmp rfl .nil))) ?_
      rw [findT_key ho (by first | exact .inl (by assumption) | exact .inr (by omega))]
      exact ⟨rfl, Z19.then Pf.ext (by rintro k rfl _; show w.heap.size ≤ _; omega)⟩
    · refine .p rfl rfl (.load rfl rfl rfl (B4.cell 0)) ?_
      refine .p rfl rfl (.lenS rfl rfl) ?_
      refine .p rfl rfl (.gt rfl rfl) ?_
      refine .p rfl rfl (.pickF rfl rfl) ?_
      refine .p rfl rfl (.as rfl) ?_
      refine .nil (.code (.keep [(27, _), (9, _), (6, _), (5, _), (4, _)] ⟨rfl, rfl, rfl, rfl, rfl, trivial⟩ ?_))
      refine .condD rfl (fun c27 => ?_) (fun c27 => ?_)
      · refine .seq (.keep [(6, _)] ⟨rfl, trivial⟩ (.region ?_))
        refine .p rfl rfl (.build (vs := []) (cs := [str [], str [], i64 0, .bool false]) rfl (fun _ => by kernel_rfl)) ?_
        refine .s rfl (.storeAll (n := 4) rfl rfl rfl rfl rfl B6 rfl) ?_
        intro wz Pf
        refine .p rfl rfl (.as rfl) ?_
        refine .p rfl rfl (.as rfl) ?_
        refine .nil (.code ?_)
        refine .retR (.cell (n := 4) rfl rfl rfl rfl rfl (Pf.blk.cells) (.tmp rfl (.tmp rfl .nil))) ?_
        rw [findT_key ho (by first | exact .inl (by assumption) | exact .inr (by omega))]
        exact ⟨rfl, Z19.then Pf.ext (by rintro k rfl _; show w.heap.size ≤ _; omega)⟩
      · refine .seq (.keep [(9, _), (6, _), (5, _), (4, _)] ⟨rfl, rfl, rfl, rfl, trivial⟩ (.region ?_))
        refine .p rfl rfl (.load rfl rfl rfl (B5.cell 0)) ?_
        refine .p rfl rfl (.lt rfl rfl) ?_
        refine .p rfl rfl (.mv rfl) ?_
        refine .caseD 39 rfl (fun c39 => ?_) (fun c39 => ?_)
        · refine .skip rfl rfl ?_
          refine .skip rfl rfl ?_
          refine .p rfl rfl (.pickT rfl rfl) ?_
          refine .p rfl rfl (.as rfl) ?_
          refine .nil (.code (.keep [(36, _), (9, _), (6, _), (5, _), (4, _)] ⟨rfl, rfl, rfl, rfl, rfl, trivial⟩ (.condT rfl (.seq (.keep [(6, _)] ⟨rfl, trivial⟩ (.region ?_))))))
          refine .p rfl rfl (.build (vs := []) (cs := [str [], str [], i64 0, .bool false]) rfl (fun _ => by kernel_rfl)) ?_
          refine .s rfl (.storeAll (n := 4) rfl rfl rfl rfl rfl B6 rfl) ?_
          intro wz Pf
          refine .p rfl rfl (.as rfl) ?_
          refine .p rfl rfl (.as rfl) ?_
          refine .nil (.code ?_)
          refine .retR (.cell (n := 4) rfl rfl rfl rfl rfl (Pf.blk.cells) (.tmp rfl (.tmp rfl .nil))) ?_
          rw [findT_seq ho (fun hh => hh.elim (by assumption) (by omega)) (by first | exact .inl (by omega) | exact .inr (by omega))]
          exact ⟨rfl, Z19.then Pf.ext (by rintro k rfl _; show w.heap.size ≤ _; omega)⟩
        · refine .p rfl rfl (.load rfl rfl rfl (B5.cell 0)) ?_
          refine .p rfl rfl (.gt rfl rfl) ?_
          refine .p rfl rfl (.pickF rfl rfl) ?_
          refine .p rfl rfl (.as rfl) ?_
          refine .nil (.code (.keep [(36, _), (9, _), (6, _), (5, _), (4, _)] ⟨rfl, rfl, rfl, rfl, rfl, trivial⟩ ?_))
          refine .condD rfl (fun c36 => ?_) (fun c36 => ?_)
          · refine .seq (.keep [(6, _)] ⟨rfl, trivial⟩ (.region ?_))
            refine .p rfl rfl (.build (vs := []) (cs := [str [], str [], i64 0, .bool false]) rfl (fun _ => by kernel_rfl)) ?_
            refine .s rfl (.storeAll (n := 4) rfl rfl rfl rfl rfl B6 rfl) ?_
            intro wz Pf
            refine .p rfl rfl (.as rfl) ?_
            refine .p rfl rfl (.as rfl) ?_
            refine .nil (.code ?_)
            refine .retR (.cell (n := 4) rfl rfl rfl rfl rfl (Pf.blk.cells) (.tmp rfl (.tmp rfl .nil))) ?_
            rw [findT_seq ho (fun hh => hh.elim (by assumption) (by omega)) (by first | exact .inl (by omega) | exact .inr (by omega))]
            exact ⟨rfl, Z19.then Pf.ext (by rintro k rfl _; show w.heap.size ≤ _; omega)⟩
          · refine .skip (.blk (.code (.seq (.seq (.keep [(9, _), (6, _), (5, _), (4, _)] ⟨rfl, rfl, rfl, rfl, trivial⟩ (.mix (fun _ => False) [5] (by kernel_rfl) (by kernel_rfl) (by kernel_rfl) ?_))))))
            refine .p rfl rfl rfl (fun wx hx => .mv rfl) ?_
            refine .p rfl rfl rfl (fun wx hx => .nilCheck rfl) ?_
            refine .p rfl rfl rfl (fun wx hx => .fieldAddr rfl rfl rfl rfl) ?_
            refine .p rfl rfl rfl (fun wx hx => .load rfl rfl rfl ((Bp.ext hx (fun x => x)).cell 3)) ?_
            refine .p rfl rfl rfl (fun wx hx => .load rfl rfl rfl ((B4.ext hx (fun x => x)).cell 0)) ?_
            refine .call (first := []) (captured := []) rfl rfl rfl rfl rfl (Has_fn (key := key) R4 hkl) (by rintro _ _ ⟨_, hx⟩; exact hx) ?_
            rintro _ w50 ⟨rfl, X50⟩
            have Z50 := Z19.trans X50
            have z50 := X50.size
            refine .p rfl rfl rfl (fun wx hx => .mv rfl) ?_
            refine .p rfl rfl rfl (fun wx hx => .extract rfl rfl) ?_
            refine .p rfl rfl rfl (fun wx hx => .extract rfl rfl) ?_
            refine .p rfl rfl rfl (fun wx hx => .as rfl) ?_
            refine .p rfl rfl rfl (fun wx hx => .as rfl) ?_
            refine .nil (.code (.seq (.keep [(11, _), (9, _), (6, _), (5, _), (4, _)] ⟨rfl, rfl, rfl, rfl, rfl, trivial⟩ (.region ?_))))
            refine .p rfl rfl (.mv rfl) ?_
            refine .p rfl rfl (.not rfl) ?_
            refine .nil (.code (.keep [(54, _), (9, _), (6, _), (5, _), (4, _)] ⟨rfl, rfl, rfl, rfl, rfl, trivial⟩ ?_))
            refine .cond rfl (fun c54 => ?_) (fun c54 => ?_)
            · refine .seq (.keep [(6, _)] ⟨rfl, trivial⟩ (.region ?_))
              refine .p rfl rfl (.build (vs := []) (cs := [str [], str [], i64 0, .bool false]) rfl (fun _ => by kernel_rfl)) ?_
              refine .s rfl (.storeAll (n := 4) rfl rfl rfl rfl rfl (B6.ext X50 (fun x => x)) rfl) ?_
              intro wz Pf
              refine .p rfl rfl (.as rfl) ?_
              refine .p rfl rfl (.as rfl) ?_
              refine .nil (.code ?_)
              refine .retR (.cell (n := 4) rfl rfl rfl rfl rfl (Pf.blk.cells) (.tmp rfl (.tmp rfl .nil))) ?_
              have hck := (makeT_ok hO.made).1
              have hsv : (sieve.hasF (sieveB (entsR rows)) key).1 = false := by rw [← (table_apart hO.made).sieve]; simpa using c54
              rw [findT_miss ho (fun hh => hh.elim (by assumption) (by omega)) (by omega) (newest_none (sieve_hides hck (makeT_ok hO.made).2.1 hsv))]
              exact ⟨rfl, Z50.then Pf.ext (by rintro k rfl _; show w.heap.size ≤ _; omega)⟩
            · refine .skip (.code (.seq (.seq (.keep [(9, _), (6, _), (5, _), (4, _)] ⟨rfl, rfl, rfl, rfl, trivial⟩ (.region ?_)))))
              refine .p rfl rfl (.mv rfl) ?_
              refine .p rfl rfl (.nilCheck rfl) ?_
              refine .p rfl rfl (.fieldAddr rfl rfl rfl rfl) ?_
              refine .call (first := []) (captured := []) rfl rfl rfl rfl (count_fn (Bp.ext X50 (fun x => x))) ?_
              rintro _ w59 ⟨rfl, X59⟩
              have z59 := X59.size
              have X519 := X50.trans X59
              have Z59 := Z50.trans X59
              refine .p rfl rfl (.mv rfl) ?_
              refine .nil (.code (.block (.keep [(60, _), (59, _), (9, _), (6, _), (5, _), (4, _)] ⟨rfl, rfl, rfl, rfl, rfl, rfl, trivial⟩ ?_)))
              refine .loop (S := Nat × World) (fun s => [(4, .pointer (some ⟨w.heap.size, 0, none⟩)), (5, .pointer (some ⟨w4.heap.size, 0, none⟩)), (6, .pointer (some ⟨w5.heap.size, 0, none⟩)), (9, .pointer (some ⟨p, 0, none⟩)), (59, i64 rows.length), (60, i64 s.1)]) (fun s => s.2) (fun s => s.1 ≤ rows.length ∧ (∀ x ∈ entsR (rows.take s.1), fitK key seq x = false) ∧ Ext (fun _ => False) w19 s.2) (fun s => rows.length - s.1) (0, w59) ⟨rfl, rfl, rfl, rfl, rfl, rfl, trivial⟩ rfl ⟨Nat.zero_le _, (fun x hx => by cases hx), X519⟩ ?_
              rintro ⟨i, wi⟩ J ⟨hi', hno, XL⟩ again
              simp only at hi' hno XL
              have Bi := Bp.ext XL (fun x => x)
              have zwi := XL.size
              change G _ [(4, .pointer (some ⟨w.heap.size, 0, none⟩)), (5, .pointer (some ⟨w4.heap.size, 0, none⟩)), (6, .pointer (some ⟨w5.heap.size, 0, none⟩)), (9, .pointer (some ⟨p, 0, none⟩)), (59, i64 rows.length), (60, i64 i)] _ _ wi
              refine .seq (.region ?_)
              refine .p rfl rfl (.lt rfl rfl) ?_
              refine .nil (.code (.seq ?_))
              refine .condD rfl (fun c61 => ?_) (fun c61 => ?_)
              · have hi : i < rows.length := by omega
                obtain ⟨q, hq, hqm, hqc, hqr, ea, ec, hqe, hqa, hqt⟩ := hO.row hi
                have hqb : rows[i].bytes = pageB q := by rw [hq]; rfl
                obtain ⟨b1, o1, q1, ue1, e1, hb1, hcs1, hre1⟩ := Sl.at R1 (i := i) (x := rows[i].bytes) (by rw [List.getElem?_map, List.getElem?_eq_getElem hi]; rfl)
                obtain ⟨b2, o2, q2, ue2, e2, hb2, hcs2, hre2⟩ := Sl.at R2 (i := i) (x := rows[i].fst) (by rw [List.getElem?_map, List.getElem?_eq_getElem hi]; rfl)
                obtain ⟨b3, o3, q3, ue3, e3, hb3, hcs3, hre3⟩ := Sl.at R3 (i := i) (x := rows[i].lst) (by rw [List.getElem?_map, List.getElem?_eq_getElem hi]; rfl)
                injection e1 with e1 _ _
                injection e2 with e2 _ _
                injection e3 with e3 _ _
                subst e1
                subst e2
                subst e3
                obtain ⟨rfl, _⟩ := hre2
                obtain ⟨rfl, _⟩ := hre3
                obtain ⟨ae, ce, rfl, hce⟩ := Sl.val hre1
                refine .skip (.code (.seq (.block (.seq (.keep [(4, _), (5, _), (6, _), (9, _), (59, _), (60, _)] ⟨rfl, rfl, rfl, rfl, rfl, rfl, trivial⟩ (.region ?_))))))
                refine .p rfl rfl (.mv rfl) ?_
                refine .p rfl rfl (.as rfl) ?_
                refine .nil (.code (.seq (.seq (.keep [(13, _), (4, _), (5, _), (6, _), (9, _), (59, _), (60, _)] ⟨rfl, rfl, rfl, rfl, rfl, rfl, rfl, trivial⟩ (.draws (by kernel_rfl) (by kernel_rfl) ?_)))))
                refine .p rfl rfl (.mv rfl) ?_
                refine .p rfl rfl (.nilCheck rfl) ?_
                refine .p rfl rfl (.fieldAddr rfl rfl rfl rfl) ?_
                refine .p rfl rfl (.fieldAddr rfl rfl rfl rfl) ?_
                refine .p rfl rfl (.load rfl rfl rfl (Bi.cell 2)) ?_
                refine .p rfl rfl (.mv rfl) ?_
                refine .p rfl rfl (.indexAddr1 rfl rfl rfl rfl (by omega)) ?_
                refine .p rfl rfl (.load rfl rfl rfl (cell_at rfl (hcs3.ext XL (fun x => x)) rfl)) ?_
                refine .p rfl rfl (.load rfl rfl rfl ((B4.ext XL (fun x => x)).cell 0)) ?_
                refine .p rfl rfl (.ltS rfl rfl) ?_
                refine .p rfl rfl (.mv rfl) ?_
                refine .case 73 rfl (fun c73 => ?_) (fun c73 => ?_)
                · refine .skip rfl rfl ?_
                  refine .skip rfl rfl ?_
                  refine .skip rfl rfl ?_
                  refine .skip rfl rfl ?_
                  refine .skip rfl rfl ?_
                  refine .skip rfl rfl ?_
                  refine .skip rfl rfl ?_
                  refine .skip rfl rfl ?_
                  refine .skip rfl rfl ?_
                  refine .skip rfl rfl ?_
                  refine .p rfl rfl (.pickT rfl rfl) ?_
                  refine .nil (.code (.keep [(84, _), (13, _), (4, _), (5, _), (6, _), (9, _), (59, _), (60, _)] ⟨rfl, rfl, rfl, rfl, rfl, rfl, rfl, rfl, trivial⟩ (.condT rfl (.exit rfl (.code (.keep [(4, _), (5, _), (6, _), (9, _), (59, _), (60, _)] ⟨rfl, rfl, rfl, rfl, rfl, rfl, trivial⟩ (.region ?_)))))))
                  refine .p rfl rfl (.add rfl rfl (by omega)) ?_
                  refine .p rfl rfl (.mv rfl) ?_
                  refine .nil ?_
                  exact (again (i + 1, wi) ⟨by show i + 1 ≤ _; omega, by show ∀ x ∈ entsR (rows.take (i + 1)), _; rw [hqt]; intro x hx; rcases List.mem_append.1 hx with hx | hx; (exact hno x (by rw [← hqa]; exact hx)); (exact fit_lo hqc (by rw [show lstK q = rows[i].lst by rw [hq]; rfl]; exact c73) x hx), XL⟩ (by show _ - (i + 1) < _ - i; omega)).of ⟨rfl, rfl, rfl, rfl, rfl, rfl, trivial⟩
                · refine .p rfl rfl (.mv rfl) ?_
                  refine .p rfl rfl (.nilCheck rfl) ?_
                  refine .p rfl rfl (.fieldAddr rfl rfl rfl rfl) ?_
                  refine .p rfl rfl (.fieldAddr rfl rfl rfl rfl) ?_
                  refine .p rfl rfl (.load rfl rfl rfl (Bi.cell 1)) ?_
                  refine .p rfl rfl (.mv rfl) ?_
                  refine .p rfl rfl (.indexAddr1 rfl rfl rfl rfl (by omega)) ?_
                  refine .p rfl rfl (.load rfl rfl rfl (cell_at rfl (hcs2.ext XL (fun x => x)) rfl)) ?_
                  refine .p rfl rfl (.load rfl rfl rfl ((B4.ext XL (fun x => x)).cell 0)) ?_
                  refine .p rfl rfl (.gtS rfl rfl) ?_
                  refine .p rfl rfl (.pickF rfl rfl) ?_
                  refine .nil (.code (.keep [(84, _), (13, _), (4, _), (5, _), (6, _), (9, _), (59, _), (60, _)] ⟨rfl, rfl, rfl, rfl, rfl, rfl, rfl, rfl, trivial⟩ ?_))
                  refine .cond rfl (fun c84 => ?_) (fun c84 => ?_)
                  · refine .exit rfl (.code (.keep [(4, _), (5, _), (6, _), (9, _), (59, _), (60, _)] ⟨rfl, rfl, rfl, rfl, rfl, rfl, trivial⟩ (.region ?_)))
                    refine .p rfl rfl (.add rfl rfl (by omega)) ?_
                    refine .p rfl rfl (.mv rfl) ?_
                    refine .nil ?_
                    exact (again (i + 1, wi) ⟨by show i + 1 ≤ _; omega, by show ∀ x ∈ entsR (rows.take (i + 1)), _; rw [hqt]; intro x hx; rcases List.mem_append.1 hx with hx | hx; (exact hno x (by rw [← hqa]; exact hx)); (exact fit_hi hqc (by rw [show fstK q = rows[i].fst by rw [hq]; rfl]; exact c84) x hx), XL⟩ (by show _ - (i + 1) < _ - i; omega)).of ⟨rfl, rfl, rfl, rfl, rfl, rfl, trivial⟩
                  · refine .skip (.code (.seq (.keep [(13, _), (4, _), (5, _), (6, _), (9, _), (59, _), (60, _)] ⟨rfl, rfl, rfl, rfl, rfl, rfl, rfl, trivial⟩ (.region ?_))))
                    refine .p rfl rfl (.mv rfl) ?_
                    refine .p rfl rfl (.nilCheck rfl) ?_
                    refine .p rfl rfl (.fieldAddr rfl rfl rfl rfl) ?_
                    refine .p rfl rfl (.fieldAddr rfl rfl rfl rfl) ?_
                    refine .p rfl rfl (.load rfl rfl rfl (Bi.cell 0)) ?_
                    refine .p rfl rfl (.mv rfl) ?_
                    refine .p rfl rfl (.indexAddr1 rfl rfl rfl rfl (by omega)) ?_
                    refine .p rfl rfl (.load rfl rfl rfl (cell_at rfl (hcs1.ext XL (fun x => x)) rfl)) ?_
                    refine .call (first := []) (captured := []) rfl rfl rfl rfl (PRead_fn ((tBytes.ext0 hre1 XL))) ?_
                    rintro _ w94 ⟨v94, rfl, O94, X94⟩
                    rw [hqb, hqr] at O94
                    rw [hqb, hqr]
                    have R94 := OwnO.rep O94 (R := All) (fun _ _ _ => trivial) (fun _ h _ => h.elim)
                    obtain ⟨a94, c94, rfl, hc94⟩ := OwnO.val O94
                    have z94 := X94.size
                    refine .p rfl rfl (.mv rfl) ?_
                    refine .p rfl rfl (.extract rfl rfl) ?_
                    refine .p rfl rfl (.extract rfl rfl) ?_
                    refine .p rfl rfl (.as rfl) ?_
                    refine .p rfl rfl (.as rfl) ?_
                    refine .nil (.code (.seq (.keep [(14, _), (4, _), (5, _), (6, _), (9, _), (59, _), (60, _)] ⟨rfl, rfl, rfl, rfl, rfl, rfl, rfl, trivial⟩ (.region ?_))))
                    refine .p rfl rfl (.mv rfl) ?_
                    refine .p rfl rfl (.makeFunc rfl rfl) ?_
                    refine .call (first := []) (captured := []) rfl rfl rfl rfl (IndexFunc_fn (f := 51) (cap := [.pointer (some ⟨w.heap.size, 0, none⟩), .pointer (some ⟨w4.heap.size, 0, none⟩)]) (p := fitK key seq) R94 (fun x u w' hu hx => TFindC_fn hu (((B4.ext XL (fun x => x)).ext X94 (fun x => x)).ext hx (fun x => x)) (((B5.ext XL (fun x => x)).ext X94 (fun x => x)).ext hx (fun x => x)))) ?_
                    rintro _ w99 ⟨rfl, X99⟩
                    have z99 := X99.size
                    refine .p rfl rfl (.as rfl) ?_
                    refine .nil (.code (.seq (.keep [(16, _), (14, _), (4, _), (5, _), (6, _), (9, _), (59, _), (60, _)] ⟨rfl, rfl, rfl, rfl, rfl, rfl, rfl, rfl, trivial⟩ (.region ?_))))
                    refine .p rfl rfl (.mv rfl) ?_
                    refine .p rfl rfl (.ge rfl rfl) ?_
                    refine .nil (.code (.keep [(101, _), (16, _), (14, _), (4, _), (5, _), (6, _), (9, _), (59, _), (60, _)] ⟨rfl, rfl, rfl, rfl, rfl, rfl, rfl, rfl, rfl, trivial⟩ ?_))
                    refine .condD rfl (fun c101 => ?_) (fun c101 => ?_)
                    · obtain ⟨j, hj1, hj2, hjl⟩ := idxI_ge c101
                      rw [hj2]
                      obtain ⟨bx, ox, cx, uex, ex, _, hcsx, hrex⟩ := Sl.at R94 (List.getElem?_eq_getElem hjl)
                      cases ex
                      obtain ⟨rfl, g1, g2, g3⟩ := tEntry.val hrex
                      refine .seq (.keep [(16, _), (14, _), (6, _)] ⟨rfl, rfl, rfl, trivial⟩ (.region ?_))
                      refine .p rfl rfl (.mv rfl) ?_
                      refine .p rfl rfl (.mv rfl) ?_
                      refine .p rfl rfl (.indexAddr (s := 4) rfl rfl rfl rfl (by omega)) ?_
                      refine .p rfl rfl (.loadA (n := 4) rfl rfl rfl rfl rfl (hcsx.ext X99 (fun x => x))) ?_
                      refine .s rfl (.storeAll (n := 4) rfl rfl rfl rfl rfl (((B6.ext XL (fun x => x)).ext X94 (fun x => x)).ext X99 (fun x => x)) rfl) ?_
                      intro wz Pf
                      refine .p rfl rfl (.as rfl) ?_
                      refine .p rfl rfl (.as rfl) ?_
                      refine .nil (.code ?_)
                      refine .retR (.cell (n := 4) rfl rfl rfl rfl rfl (Pf.blk.cells) (.tmp rfl (.tmp rfl .nil))) ?_
                      rw [findT_some ho (fun hh => hh.elim (by assumption) (by omega)) (by omega) (by rw [hqe]; exact newest_some (by rw [hqa]; exact hno) hjl hj1)]
                      exact ⟨rfl, (((Z19.trans XL).trans X94).trans X99).then Pf.ext (by rintro k rfl _; show w.heap.size ≤ _; omega)⟩
                    · refine .skip (.blk (.code (.keep [(4, _), (5, _), (6, _), (9, _), (59, _), (60, _)] ⟨rfl, rfl, rfl, rfl, rfl, rfl, trivial⟩ (.region ?_))))
                      refine .p rfl rfl (.add rfl rfl (by omega)) ?_
                      refine .p rfl rfl (.mv rfl) ?_
                      refine .nil ?_
                      exact (again (i + 1, w99) ⟨by show i + 1 ≤ _; omega, by show ∀ x ∈ entsR (rows.take (i + 1)), _; rw [hqt]; intro x hx; rcases List.mem_append.1 hx with hx | hx; (exact hno x (by rw [← hqa]; exact hx)); (have hnn := List.findIdx?_eq_none_iff.1 (idxI_lt c101) x hx; simpa using hnn), (XL.trans X94).trans X99⟩ (by show _ - (i + 1) < _ - i; omega)).of ⟨rfl, rfl, rfl, rfl, rfl, rfl, trivial⟩
              · obtain rfl : i = rows.length := by omega
                rw [List.take_length] at hno
                refine .exit rfl (.code (.seq (.keep [(6, _)] ⟨rfl, trivial⟩ (.region ?_))))
                refine .p rfl rfl (.build (vs := []) (cs := [str [], str [], i64 0, .bool false]) rfl (fun _ => by kernel_rfl)) ?_
                refine .s rfl (.storeAll (n := 4) rfl rfl rfl rfl rfl (B6.ext XL (fun x => x)) rfl) ?_
                intro wz Pf
                refine .p rfl rfl (.as rfl) ?_
                refine .p rfl rfl (.as rfl) ?_
                refine .nil (.code ?_)
                refine .retR (.cell (n := 4) rfl rfl rfl rfl rfl (Pf.blk.cells) (.tmp rfl (.tmp rfl .nil))) ?_
                rw [findT_miss ho (fun hh => hh.elim (by assumption) (by omega)) (by omega) (newest_none hno)]
                exact ⟨rfl, (Z19.trans XL).then Pf.ext (by rintro k rfl _; show w.heap.size ≤ _; omega)⟩
end Go.Proofs.Ythkgadhamecnlaa
namespace Go.Proofs.Ythkgadhamecnlaa
open Go page table
namespace table
theorem idxI_neg {p : Entry → Bool} {l : List Entry} (h : idxI p l = -1) : ∀ x ∈ l, p x = false := fun x hx => by
  have h0 : ¬ 0 ≤ idxI p l := by omega
  have := List.findIdx?_eq_none_iff.1 (idxI_lt h0) x hx
  simpa using this
theorem idxI_pos {p : Entry → Bool} {l : List Entry} (h : ¬ idxI p l = -1) : 0 ≤ idxI p l := by
  unfold idxI at h ⊢
  split
  · exact Int.natCast_nonneg _
  · rename_i hn; rw [hn] at h; exact absurd rfl h
theorem idxI_split {p : Entry → Bool} {l : List Entry} {i : Nat} (h : l.findIdx? p = some i) (hi : i < l.length) : (l.take (i + 1)).filter (fun x => !p x) = l.take i := by
  rw [List.findIdx?_eq_some_iff_getElem] at h
  obtain ⟨h', hp, hb⟩ := h
  rw [List.take_succ_eq_append_getElem hi, List.filter_append]
  have e1 : [l[i]].filter (fun x => !p x) = [] := by simp [hp]
  have e2 : (l.take i).filter (fun x => !p x) = l.take i := by
    rw [List.filter_eq_self]
    intro x hx
    obtain ⟨j, hj, rfl⟩ := List.getElem_of_mem hx
    rw [List.length_take] at hj
    rw [List.getElem_take]
    simpa using hb j (by omega)
  rw [e1, e2, List.append_nil]
theorem filter_step {α : Type} {q : α → Bool} {l : List α} {j : Nat} (hj : j < l.length) : (l.take (j + 1)).filter q = (l.take j).filter q ++ (if q l[j] = true then [l[j]] else []) := by
  rw [List.take_succ_eq_append_getElem hj, List.filter_append]
  congr 1
  by_cases h : q l[j] = true
  · rw [if_pos h]; simp [h]
  · rw [if_neg h]; simp [h]
theorem drop_at {α : Type} {l m : List α} {j : Nat} (h : l.drop j = m.drop j) (h1 : j < l.length) (h2 : j < m.length) : l[j] = m[j] ∧ l.drop (j + 1) = m.drop (j + 1) := by
  rw [List.drop_eq_getElem_cons h1, List.drop_eq_getElem_cons h2] at h
  injection h with h3 h4
  exact ⟨h3, h4⟩
theorem set_take {α : Type} {l : List α} {i : Nat} {x : α} (h : i < l.length) : (l.set i x).take (i + 1) = l.take i ++ [x] := by
  rw [List.take_succ_eq_append_getElem (by rw [List.length_set]; exact h), List.take_set_of_le (Nat.le_refl i), List.getElem_set_self]
theorem set_drop {α : Type} {l : List α} {i j : Nat} {x : α} (h : i < j) : (l.set i x).drop j = l.drop j := by
  rw [List.drop_set_of_lt h]
/-- not between two keys -/
def outK (a b : Bs) (x : Entry) : Bool := Op.bytesLess x.key a || (decide (¬ b = []) && !Op.bytesLess x.key b)
noncomputable def rangeT (b lo hi : Bs) : List Entry × Int :=
  match openF b with
  | none => ([], 90)
  | some rows => if 256 < lo.length ∨ 256 < hi.length then ([], 3) else ((entsR rows).filter (fun x => !outK lo hi x), 0)
end table
theorem DeleteFunc_fn {w : World} {v : Value} {l : List Entry} {B : Nat → Prop} {f : FuncId} {cap : List Value} {p : Entry → Bool} (h : OwnO tEntry (fun _ => False) 33 w v l B) (hk : ∀ (x : Entry) (u : Value) (w' : World), tEntry.rep All w' u x → Ext B w w' → Fn Try.prog f ([] ++ [u] ++ cap) w' (fun r w2 => r = .bool (p x) ∧ Ext (fun _ => False) w' w2)) : Fn Try.prog 57 [v, .func (.func f) #[] cap.toArray] w (fun r w2 => OwnO tEntry (fun _ => False) 33 w2 r (l.filter (fun x => !p x)) B ∧ Ext B w w2) := by
  have hR := OwnO.rep h (R := All) (fun _ _ _ => trivial) (fun _ h _ => h.elim)
  have hlim := Sl.lim hR
  simp only [Lim] at hlim
  refine Fn.enter (fun w => Try.call57 _ w) Try.func57 rfl ?_
  refine .seq (.region ?_)
  refine .p rfl rfl (.as rfl) ?_
  refine .nil (.code (.seq (.keep [(0, _), (1, _)] ⟨rfl, rfl, trivial⟩ (.region ?_))))
  refine .p rfl rfl (.mv rfl) ?_
  refine .p rfl rfl (.mv rfl) ?_
  refine .call (first := []) (captured := []) rfl rfl rfl rfl (IndexFunc_fn (f := f) (cap := cap) (p := p) hR (fun x u w' hu hx => hk x u w' hu (hx.mono (fun _ _ h => h.elim)))) ?_
  rintro _ w10 ⟨rfl, X10⟩
  have X10B : Ext B w w10 := X10.mono (fun _ _ h => h.elim)
  refine .p rfl rfl (.as rfl) ?_
  refine .nil (.code (.seq (.seq (.keep [(5, _), (0, _), (1, _)] ⟨rfl, rfl, rfl, trivial⟩ (.region ?_)))))
  refine .p rfl rfl (.mv rfl) ?_
  refine .p rfl rfl (.eq rfl rfl) ?_
  refine .nil (.code (.keep [(12, _), (5, _), (0, _), (1, _)] ⟨rfl, rfl, rfl, rfl, trivial⟩ ?_))
  refine .condD rfl (fun c12 => ?_) (fun c12 => ?_)
  · have hno := idxI_neg c12
    refine .seq (.keep [(0, _)] ⟨rfl, trivial⟩ (.region ?_))
    refine .p rfl rfl (.mv rfl) ?_
    refine .p rfl rfl (.as rfl) ?_
    refine .nil (.code ?_)
    refine .ret _ rfl ?_
    have e : l.filter (fun x => !p x) = l := List.filter_eq_self.2 (fun x hx => by rw [hno x hx]; rfl)
    rw [e]
    exact ⟨OwnO.ext0 h X10, X10B⟩
  · obtain ⟨i0, hf0, hi0, hil0⟩ := idxI_ge (idxI_pos c12)
    rw [hi0]
    have hsp := idxI_split hf0 hil0
    obtain ⟨b, hbB, hbl, hO0⟩ : ∃ b, B b ∧ b < w.heap.size ∧ Own tEntry (fun _ => False) 33 w v l b := by
      rcases h with ⟨h, _⟩ | h
      · rw [h] at hil0; exact absurd hil0 (Nat.not_lt_zero _)
      · exact h
    obtain ⟨cap1, rfl, hc1⟩ : ∃ cap1, v = .slice (some ⟨b, 0, none⟩) l.length cap1 ∧ l.length ≤ cap1 := by
      obtain ⟨_, ⟨h, _⟩ | ⟨cap1, us, sp, hv, hc, _⟩⟩ := hO0
      · rw [h] at hil0; exact absurd hil0 (Nat.not_lt_zero _)
      · exact ⟨cap1, hv, hc⟩
    refine .skip (.code (.seq (.seq (.keep [(5, _), (0, _), (1, _)] ⟨rfl, rfl, rfl, trivial⟩ (.region ?_)))))
    refine .p rfl rfl (.mv rfl) ?_
    refine .p rfl rfl (.add rfl rfl (by omega)) ?_
    refine .p rfl rfl (.as rfl) ?_
    refine .nil (.code (.block (.keep [(6, _), (5, _), (0, _), (1, _)] ⟨rfl, rfl, rfl, rfl, trivial⟩ ?_)))
    refine .loop (S := Nat × Nat × List Entry × World) (fun s => [(0, .slice (some ⟨b, 0, none⟩) l.length cap1), (1, .func (.func f) #[] cap.toArray), (5, i64 s.2.1), (6, i64 s.1)]) (fun s => s.2.2.2) (fun s => s.1 ≤ l.length ∧ s.2.1 < s.1 ∧ s.2.2.1.length = l.length ∧ s.2.2.1.take s.2.1 = (l.take s.1).filter (fun x => !p x) ∧ s.2.2.1.drop s.1 = l.drop s.1 ∧ Own tEntry (fun _ => False) 33 s.2.2.2 (.slice (some ⟨b, 0, none⟩) l.length cap1) s.2.2.1 b ∧ Ext B w s.2.2.2) (fun s => l.length - s.1) (i0 + 1, i0, l, w10) ⟨rfl, rfl, rfl, rfl, trivial⟩ rfl ⟨hil0, Nat.lt_succ_self _, rfl, hsp.symm, rfl, hO0.ext X10 (fun x => x) (fun _ h => h.elim), X10B⟩ ?_
    rintro ⟨j, i, ys, wi⟩ J ⟨hj', hij, hyl, hfl, hdr, hO, hX⟩ again
    simp only at hj' hij hyl hfl hdr hO hX
    change G _ [(0, .slice (some ⟨b, 0, none⟩) l.length cap1), (1, .func (.func f) #[] cap.toArray), (5, i64 i), (6, i64 j)] _ _ wi
    refine .seq (.seq (.region ?_))
    refine .p rfl rfl (.mv rfl) ?_
    refine .p rfl rfl (.mv rfl) ?_
    refine .p rfl rfl (.len rfl rfl) ?_
    refine .p rfl rfl (.lt rfl rfl) ?_
    refine .nil (.code (.keep [(19, _), (0, _), (1, _), (5, _), (6, _)] ⟨rfl, rfl, rfl, rfl, rfl, trivial⟩ ?_))
    refine .condD rfl (fun c19 => ?_) (fun c19 => ?_)
    · have hj : j < l.length := by omega
      obtain ⟨hyj, hyd⟩ := drop_at hdr (by omega) hj
      obtain ⟨b0, o0, q0, ue, e, _, hcs, hre⟩ := Sl.at (Own.rep hO (Q' := All) trivial (fun _ h => h.elim)) (i := j) (List.getElem?_eq_getElem (by omega))
      injection e with ea _ _
      cases ea
      rw [hyj] at hre
      obtain ⟨rfl, h1, h2, h3⟩ := tEntry.val hre
      have hfs := filter_step (q := fun x => !p x) hj
      refine .skip (.code (.seq (.block (.seq (.keep [(0, _), (1, _), (5, _), (6, _)] ⟨rfl, rfl, rfl, rfl, trivial⟩ (.region ?_))))))
      refine .p rfl rfl (.mv rfl) ?_
      refine .p rfl rfl (.mv rfl) ?_
      refine .p rfl rfl (.indexAddr (s := 4) rfl rfl rfl rfl (by omega)) ?_
      refine .p rfl rfl (.loadA (n := 4) rfl rfl rfl rfl rfl hcs) ?_
      refine .v rfl rfl (.alloc rfl rfl) ?_
      rintro _ w8 ⟨rfl, N8⟩
      refine .s rfl (.storeAll (n := 4) rfl rfl rfl rfl rfl N8.blk rfl) ?_
      intro w9 P8
      have X8 := N8.ext.then P8.ext (by rintro k rfl _; exact Nat.le_refl _)
      have B8 := P8.blk
      have X9 : Ext B w w9 := hX.trans (X8.mono (fun _ _ h => h.elim))
      refine .nil (.code (.seq (.keep [(7, _), (0, _), (1, _), (5, _), (6, _)] ⟨rfl, rfl, rfl, rfl, rfl, trivial⟩ (.region ?_))))
      refine .p rfl rfl (.mv rfl) ?_
      refine .p rfl rfl (.loadA (n := 4) rfl rfl rfl rfl rfl B8.cells) ?_
      refine .call (first := []) (captured := cap) rfl rfl rfl rfl (hk l[j] _ w9 (tEntry.mk h1 h2 h3) X9) ?_
      rintro _ w28 ⟨rfl, X28⟩
      refine .p rfl rfl (.not rfl) ?_
      refine .nil (.code (.keep [(29, _), (7, _), (0, _), (1, _), (5, _), (6, _)] ⟨rfl, rfl, rfl, rfl, rfl, rfl, trivial⟩ ?_))
      refine .cond rfl (fun c29 => ?_) (fun c29 => ?_)
      · refine .seq (.keep [(7, _), (0, _), (1, _), (5, _), (6, _)] ⟨rfl, rfl, rfl, rfl, rfl, trivial⟩ (.region ?_))
        refine .p rfl rfl (.mv rfl) ?_
        refine .p rfl rfl (.mv rfl) ?_
        refine .p rfl rfl (.loadA (n := 4) rfl rfl rfl rfl rfl (B8.ext X28 (fun x => x)).cells) ?_
        refine .p rfl rfl (.indexAddr (s := 4) rfl rfl rfl rfl (by omega)) ?_
        refine .s rfl (.storeOwn (i := i) (y' := l[j]) ((hO.ext X8 (fun x => x) (fun _ h => h.elim)).ext X28 (fun x => x) (fun _ h => h.elim)) (by omega) (by show _ = some (Value.pointer (some ⟨b, i * 4, none⟩)); rw [show i * 4 = 0 + i * 4 by omega]; rfl) rfl rfl rfl rfl (tEntry.mk h1 h2 h3) (fun _ h => h.elim)) ?_
        rintro w33 ⟨O33, X33⟩
        refine .nil (.code (.keep [(0, _), (1, _), (5, _), (6, _)] ⟨rfl, rfl, rfl, rfl, trivial⟩ (.region ?_)))
        refine .p rfl rfl (.mv rfl) ?_
        refine .p rfl rfl (.add rfl rfl (by omega)) ?_
        refine .p rfl rfl (.as rfl) ?_
        refine .nil (.blk (.code (.keep [(5, _), (0, _), (1, _), (6, _)] ⟨rfl, rfl, rfl, rfl, trivial⟩ (.region ?_))))
        refine .p rfl rfl (.mv rfl) ?_
        refine .p rfl rfl (.add rfl rfl (by omega)) ?_
        refine .p rfl rfl (.as rfl) ?_
        refine .nil ?_
        exact (again (j + 1, i + 1, ys.set i l[j], w33) ⟨by show j + 1 ≤ _; omega, by show i + 1 < j + 1; omega, by show (ys.set i _).length = _; rw [List.length_set]; exact hyl, by show (ys.set i l[j]).take (i + 1) = _; rw [set_take (by omega), hfs, if_pos c29, hfl], by show (ys.set i l[j]).drop (j + 1) = _; rw [set_drop (by omega)]; exact hyd, O33, (X9.trans (X28.mono (fun _ _ h => h.elim))).trans (X33.mono (fun k _ e => by have e : k = b := e; rw [e]; exact hbB))⟩ (by show _ - (j + 1) < _ - j; omega)).of ⟨rfl, rfl, rfl, rfl, trivial⟩
      · refine .skip (.blk (.code (.keep [(0, _), (1, _), (5, _), (6, _)] ⟨rfl, rfl, rfl, rfl, trivial⟩ (.region ?_))))
        refine .p rfl rfl (.mv rfl) ?_
        refine .p rfl rfl (.add rfl rfl (by omega)) ?_
        refine .p rfl rfl (.as rfl) ?_
        refine .nil ?_
        exact (again (j + 1, i, ys, w28) ⟨by show j + 1 ≤ _; omega, by show i < j + 1; omega, hyl, by show ys.take i = _; rw [hfs, if_neg (by rw [c29]; exact Bool.false_ne_true), List.append_nil, hfl], hyd, (hO.ext X8 (fun x => x) (fun _ h => h.elim)).ext X28 (fun x => x) (fun _ h => h.elim), X9.trans (X28.mono (fun _ _ h => h.elim))⟩ (by show _ - (j + 1) < _ - j; omega)).of ⟨rfl, rfl, rfl, rfl, trivial⟩
    · obtain rfl : j = l.length := by omega
      rw [List.take_length] at hfl
      refine .exit rfl (.code (.seq (.keep [(0, _), (5, _)] ⟨rfl, rfl, trivial⟩ (.region ?_))))
      refine .p rfl rfl (.mv rfl) ?_
      refine .p rfl rfl (.mv rfl) ?_
      refine .p rfl rfl (.cast (.cutLo (s := 4) rfl rfl rfl rfl (by omega)) (show cutV 4 (some ⟨b, 0, none⟩) cap1 ((i : Nat) : Int).toNat l.length = cutV tEntry.size (some ⟨b, 0, none⟩) cap1 i l.length from rfl)) ?_
      refine .w rfl (.clearOwn hO (by omega) rfl (fun _ h => h.elim) rfl rfl rfl rfl rfl) ?_
      rintro _ wc ⟨Oc, Xc⟩
      refine .nil (.code (.seq (.keep [(0, _), (5, _)] ⟨rfl, rfl, trivial⟩ (.region ?_))))
      refine .p rfl rfl (.mv rfl) ?_
      refine .p rfl rfl (.mv rfl) ?_
      refine .p rfl rfl (.cast (.cutHi (s := 4) rfl rfl rfl rfl (by omega)) (show cutV 4 (some ⟨b, 0, none⟩) cap1 0 ((i : Nat) : Int).toNat = .slice (some ⟨b, 0, none⟩) i cap1 from cutV_zero)) ?_
      refine .p rfl rfl (.as rfl) ?_
      refine .nil (.code ?_)
      refine .ret _ rfl ?_
      rw [← hfl]
      exact ⟨OwnO.of Oc hbB, hX.trans (Xc.mono (fun k _ e => by have e : k = b := e; rw [e]; exact hbB))⟩
theorem TRangeC_fn {w : World} {q q2 : Nat} {E E2 : TypeId} {lo hi : Bs} {u : Value} {x : Entry} (h : tEntry.rep All w u x) (hB : Blk w q E [str lo]) (hB2 : Blk w q2 E2 [str hi]) : Fn Try.prog 58 ([] ++ [u] ++ [.pointer (some ⟨q, 0, none⟩), .pointer (some ⟨q2, 0, none⟩)]) w (fun r w2 => r = .bool (outK lo hi x) ∧ Ext (fun _ => False) w w2) := by
  obtain ⟨rfl, _⟩ := tEntry.val h
  refine Fn.enter (fun w => Try.call58 _ w) Try.func58 rfl ?_
  refine .seq (.region ?_)
  refine .v rfl rfl (.box rfl) ?_
  rintro _ w3 ⟨rfl, N3⟩
  refine .p rfl rfl (.as rfl) ?_
  refine .nil (.code (.seq (.keep [(3, _), (1, _), (2, _)] ⟨rfl, rfl, rfl, trivial⟩ (.region ?_))))
  refine .p rfl rfl (.fieldAddr rfl rfl rfl rfl) ?_
  refine .p rfl rfl (.load rfl rfl rfl (N3.blk.cell 0)) ?_
  refine .p rfl rfl (.load rfl rfl rfl ((hB.ext N3.ext (fun x => x)).cell 0)) ?_
  refine .p rfl rfl (.ltS rfl rfl) ?_
  refine .p rfl rfl (.mv rfl) ?_
  refine .case 9 rfl (fun c9 => ?_) (fun c9 => ?_)
  · refine .skip rfl rfl ?_
    refine .skip rfl rfl ?_
    refine .skip rfl rfl ?_
    refine .skip rfl rfl ?_
    refine .skip rfl rfl ?_
    refine .skip rfl rfl ?_
    refine .skip rfl rfl ?_
    refine .skip rfl rfl ?_
    refine .p rfl rfl (.pickT rfl rfl) ?_
    refine .p rfl rfl (.as rfl) ?_
    refine .nil (.code ?_)
    refine .ret _ rfl ?_
    exact ⟨by unfold outK; rw [c9]; rfl, N3.ext⟩
  · refine .p rfl rfl (.load rfl rfl rfl ((hB2.ext N3.ext (fun x => x)).cell 0)) ?_
    refine .p rfl rfl (.neS rfl rfl) ?_
    refine .p rfl rfl (.mv rfl) ?_
    refine .caseD 12 rfl (fun c12 => ?_) (fun c12 => ?_)
    · refine .p rfl rfl (.fieldAddr rfl rfl rfl rfl) ?_
      refine .p rfl rfl (.load rfl rfl rfl (N3.blk.cell 0)) ?_
      refine .p rfl rfl (.load rfl rfl rfl ((hB2.ext N3.ext (fun x => x)).cell 0)) ?_
      refine .p rfl rfl (.geS rfl rfl) ?_
      refine .p rfl rfl (.pickT rfl rfl) ?_
      refine .p rfl rfl (.pickF rfl rfl) ?_
      refine .p rfl rfl (.as rfl) ?_
      refine .nil (.code ?_)
      refine .ret _ rfl ?_
      exact ⟨by unfold outK; rw [c9, decide_eq_true c12]; rfl, N3.ext⟩
    · refine .skip rfl rfl ?_
      refine .skip rfl rfl ?_
      refine .skip rfl rfl ?_
      refine .skip rfl rfl ?_
      refine .p rfl rfl (.pickF rfl rfl) ?_
      refine .p rfl rfl (.pickF rfl rfl) ?_
      refine .p rfl rfl (.as rfl) ?_
      refine .nil (.code ?_)
      refine .ret _ rfl ?_
      exact ⟨by unfold outK; rw [c9, decide_eq_false c12]; rfl, N3.ext⟩
theorem TRange_fn {w : World} {v : Value} {b lo hi : Bs} (h : tBytes.rep All w v b) : Fn Try.prog 22 [v, str lo, str hi] w (fun r w2 => ∃ v', r = .tuple #[v', i64 (rangeT b lo hi).2] ∧ OwnO tEntry (fun _ => False) 33 w2 v' (rangeT b lo hi).1 (fun k => w.heap.size ≤ k) ∧ Ext (fun _ => False) w w2) := by
  refine Fn.enter (fun w => Try.call22 _ w) Try.func22 rfl ?_
  refine .seq (.region ?_)
  refine .v rfl rfl (.box rfl) ?_
  rintro _ w4 ⟨rfl, N4⟩
  have z4 := N4.size
  refine .v rfl rfl (.box rfl) ?_
  rintro _ w5 ⟨rfl, N5⟩
  have z5 := N5.size
  refine .p rfl rfl (.as rfl) ?_
  refine .p rfl rfl (.as rfl) ?_
  refine .nil (.code (.seq (.keep [(5, _), (4, _), (0, _)] ⟨rfl, rfl, rfl, trivial⟩ (.region ?_))))
  refine .p rfl rfl (.mv rfl) ?_
  refine .call (first := []) (captured := []) rfl rfl rfl rfl (open_fn2 (tBytes.ext0 h (N4.ext.trans N5.ext))) ?_
  rintro _ w12 ⟨q12, e12, rfl, ho12, X12⟩
  have z12 := X12.size
  have B4 := (N4.blk.ext N5.ext (fun x => x)).ext X12 (fun x => x)
  have B5 := N5.blk.ext X12 (fun x => x)
  have Z12 := (N4.ext.trans N5.ext).trans X12
  refine .p rfl rfl (.mv rfl) ?_
  refine .p rfl rfl (.extract rfl rfl) ?_
  refine .p rfl rfl (.extract rfl rfl) ?_
  refine .p rfl rfl (.as rfl) ?_
  refine .p rfl rfl (.as rfl) ?_
  refine .nil (.code (.seq (.seq (.keep [(9, _), (8, _), (5, _), (4, _)] ⟨rfl, rfl, rfl, rfl, trivial⟩ (.region ?_)))))
  refine .p rfl rfl (.mv rfl) ?_
  refine .p rfl rfl (.ne rfl rfl) ?_
  refine .nil (.code (.keep [(16, _), (9, _), (8, _), (5, _), (4, _)] ⟨rfl, rfl, rfl, rfl, rfl, trivial⟩ ?_))
  refine .condD rfl (fun c16 => ?_) (fun c16 => ?_)
  · rcases ho12 with ⟨ho, rfl⟩ | ⟨he, _⟩
    case inr => exact absurd he c16
    refine .seq (.keep [(9, _)] ⟨rfl, trivial⟩ (.region ?_))
    refine .p rfl rfl (.mv rfl) ?_
    refine .p rfl rfl (.as rfl) ?_
    refine .p rfl rfl (.as rfl) ?_
    refine .nil (.code ?_)
    refine .ret _ rfl ?_
    have e : rangeT b lo hi = ([], 90) := by unfold rangeT; rw [ho]
    rw [e]
    exact ⟨_, rfl, OwnO.nil, Z12⟩
  · rcases ho12 with ⟨_, he⟩ | ⟨he, rows, p, ho, rfl, hOG⟩
    case inl => exact absurd (Decidable.not_not.1 c16) (by rw [he]; decide)
    subst he
    obtain ⟨v1, v2, v3, v4, v5, Bp, R1, R2, R3, R4, O5⟩ := hOG
    refine .skip (.code (.seq (.seq (.keep [(8, _), (5, _), (4, _)] ⟨rfl, rfl, rfl, trivial⟩ (.region ?_)))))
    refine .p rfl rfl (.load rfl rfl rfl (B4.cell 0)) ?_
    refine .p rfl rfl (.lenS rfl rfl) ?_
    refine .p rfl rfl (.gt rfl rfl) ?_
    refine .p rfl rfl (.mv rfl) ?_
    refine .caseD 21 rfl (fun c21 => ?_) (fun c21 => ?_)
    · refine .skip rfl rfl ?_
      refine .skip rfl rfl ?_
      refine .skip rfl rfl ?_
      refine .p rfl rfl (.pickT rfl rfl) ?_
      refine .nil (.code (.keep [(25, _), (8, _), (5, _), (4, _)] ⟨rfl, rfl, rfl, rfl, trivial⟩ (.condT rfl (.seq (.keep [] trivial (.region ?_))))))
      refine .p rfl rfl (.as rfl) ?_
      refine .p rfl rfl (.as rfl) ?_
      refine .nil (.code ?_)
      refine .ret _ rfl ?_
      have e : rangeT b lo hi = ([], 3) := by unfold rangeT; rw [ho]; simp only; rw [if_pos (by omega)]
      rw [e]
      exact ⟨_, rfl, OwnO.nil, Z12⟩
    · refine .p rfl rfl (.load rfl rfl rfl (B5.cell 0)) ?_
      refine .p rfl rfl (.lenS rfl rfl) ?_
      refine .p rfl rfl (.gt rfl rfl) ?_
      refine .p rfl rfl (.pickF rfl rfl) ?_
      refine .nil (.code (.keep [(25, _), (8, _), (5, _), (4, _)] ⟨rfl, rfl, rfl, rfl, trivial⟩ ?_))
      refine .condD rfl (fun c25 => ?_) (fun c25 => ?_)
      · refine .seq (.keep [] trivial (.region ?_))
        refine .p rfl rfl (.as rfl) ?_
        refine .p rfl rfl (.as rfl) ?_
        refine .nil (.code ?_)
        refine .ret _ rfl ?_
        have e : rangeT b lo hi = ([], 3) := by unfold rangeT; rw [ho]; simp only; rw [if_pos (by omega)]
        rw [e]
        exact ⟨_, rfl, OwnO.nil, Z12⟩
      · refine .skip (.code (.seq (.keep [(8, _), (5, _), (4, _)] ⟨rfl, rfl, rfl, trivial⟩ (.region ?_))))
        refine .p rfl rfl (.mv rfl) ?_
        refine .p rfl rfl (.nilCheck rfl) ?_
        refine .p rfl rfl (.fieldAddr rfl rfl rfl rfl) ?_
        refine .p rfl rfl (.load rfl rfl rfl (Bp.cell 4)) ?_
        refine .p rfl rfl (.makeFunc rfl rfl) ?_
        refine .call (first := []) (captured := []) rfl rfl rfl rfl (DeleteFunc_fn (f := 58) (cap := [.pointer (some ⟨w.heap.size, 0, none⟩), .pointer (some ⟨w4.heap.size, 0, none⟩)]) (p := outK lo hi) O5 (fun x u w' hu hx => TRangeC_fn hu (B4.ext hx (fun hh => by have hh : w5.heap.size ≤ w.heap.size := hh; omega)) (B5.ext hx (fun hh => by have hh : w5.heap.size ≤ w4.heap.size := hh; omega)))) ?_
        rintro r31 w31 ⟨O31, Y31⟩
        refine .p rfl rfl (.as rfl) ?_
        refine .p rfl rfl (.as rfl) ?_
        refine .nil (.code ?_)
        refine .ret _ rfl ?_
        have e : rangeT b lo hi = ((entsR rows).filter (fun x => !outK lo hi x), 0) := by unfold rangeT; rw [ho]; simp only; rw [if_neg (by omega)]
        rw [e]
        exact ⟨_, rfl, OwnO.mono O31 (fun _ h _ => h) (fun k h _ => by have h : w5.heap.size ≤ k := h; show w.heap.size ≤ k; omega), Z12.then Y31 (fun k h _ => by have h : w5.heap.size ≤ k := h; omega)⟩
theorem TAll_fn {w : World} {v : Value} {b : Bs} (h : tBytes.rep All w v b) : Fn Try.prog 24 [v] w (fun r w2 => ∃ v', r = .tuple #[v', i64 (rangeT b [] []).2] ∧ OwnO tEntry (fun _ => False) 33 w2 v' (rangeT b [] []).1 (fun k => w.heap.size ≤ k) ∧ Ext (fun _ => False) w w2) := by
  refine Fn.enter (fun w => Try.call24 _ w) Try.func24 rfl ?_
  refine .seq (.region ?_)
  refine .p rfl rfl (.as rfl) ?_
  refine .p rfl rfl (.as rfl) ?_
  refine .nil (.code (.seq (.keep [(0, _)] ⟨rfl, trivial⟩ (.region ?_))))
  refine .p rfl rfl (.mv rfl) ?_
  refine .call (first := []) (captured := []) rfl rfl rfl rfl (TRange_fn (lo := []) (hi := []) h) ?_
  rintro _ w5 ⟨v5, rfl, O5, X5⟩
  refine .p rfl rfl (.extract rfl rfl) ?_
  refine .p rfl rfl (.extract rfl rfl) ?_
  refine .p rfl rfl (.as rfl) ?_
  refine .p rfl rfl (.as rfl) ?_
  refine .nil (.code ?_)
  refine .ret _ rfl ?_
  exact ⟨_, rfl, O5, X5⟩
end Go.Proofs.Ythkgadhamecnlaa
