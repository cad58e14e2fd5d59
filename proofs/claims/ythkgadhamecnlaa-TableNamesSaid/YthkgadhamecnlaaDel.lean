
/-
  Lists of a call's own whose elements are overwritten, and cleared. No program in sight.
-/
import Derived.Test.YthkgadhamecnlaaLo
set_option linter.unusedVariables false
set_option linter.unusedSimpArgs false
set_option maxRecDepth 20000
namespace Go.Proofs.Ythkgadhamecnlaa
open Go
theorem flat_put {n : Nat} : ∀ {us : List Value} (i : Nat) (u : Value), (∀ x ∈ us, x.cells.size = n) → u.cells.size = n → i < us.length → (flat us).take (i * n) ++ u.cells.toList ++ (flat us).drop (i * n + n) = flat (us.set i u)
  | [], i, u, _, _, hi => absurd hi (Nat.not_lt_zero _)
  | x :: us, 0, u, h, hu, _ => by
    have hx : x.cells.toList.length = n := by rw [Array.length_toList, h x (by simp)]
    rw [List.set_cons_zero, flat_cons, flat_cons, Nat.zero_mul, Nat.zero_add, List.take_zero, List.nil_append, List.drop_left' hx]
  | x :: us, i + 1, u, h, hu, hi => by
    have hx : x.cells.toList.length = n := by rw [Array.length_toList, h x (by simp)]
    have ih := flat_put (us := us) i u (fun y hy => h y (by simp [hy])) hu (by simpa using hi)
    rw [List.set_cons_succ, flat_cons, flat_cons, ← ih, Nat.add_mul, Nat.one_mul]
    rw [show i * n + n = x.cells.toList.length + i * n by omega, List.take_length_add_append, show x.cells.toList.length + i * n + n = x.cells.toList.length + (i * n + n) by omega, List.drop_length_add_append, hx]
    simp only [List.append_assoc]
    rw [Nat.add_comm n (i * n)]
theorem cutV_zero {s : Nat} {b cap i : Nat} : cutV s (some ⟨b, 0, none⟩) cap 0 i = .slice (some ⟨b, 0, none⟩) i cap := by
  unfold cutV
  split
  · simp
  · simp [Addr.add]
theorem O.w {F : Fr} {e : Env} {k : List It} {w : World} {all rest : List Oper} {op : Op} {ty : TypeId} {pos : String} {af : Array Edge} {g : Option (Nat × Bool)} {Post : Value → World → Prop} (hg : gd e all g = some true) (h : DoV F.P e op w Post) (next : ∀ v w2, Post v w2 → O F e all rest k w2) : O F e all (⟨none, op, ty, pos, af, g⟩ :: rest) k w := by
  intro w' hw a ha
  refine wpList_step fun K hK => ?_
  rw [if_pos (gd_wanted ha hg)]
  obtain ⟨v, w2, w3, hr, hs, hp⟩ := h w' hw a.eval (fun x u hx => ha.ev hx) ⟨none, op, ty, pos, af, g⟩ rfl
  unfold Oper.wp
  rw [hr]
  exact hK _ _ (next v w2 hp w3 hs _ (ha.put0 v))
section
variable {P : Program} {e : Env} {w : World} {x y : Operand} {T E : TypeId} {α : Type} {t : Ty α} {Q : Nat → Prop} {ys : List α} {b cap n i : Nat}
/-- an element of a list of the call's own is overwritten -/
theorem DoS.storeOwn {us0 : List Value} {y' : α} {TE : TypeId} (hO : Own t Q E w (.slice (some ⟨b, 0, none⟩) n cap) ys b) (hi : i < n) (hp : look e x = some (.pointer (some ⟨b, i * t.size, none⟩))) (hv : look e y = some (.agg us0.toArray)) (hs : sizeIs P TE t.size) (hn : us0.length = t.size) (hu : us0.all (·.oneCell') = true)
    (hr : t.rep Q w (.agg us0.toArray) y') (hQ : ∀ k, Q k → k < w.heap.size → ¬ k = b) :
    DoS P e (.store TE x y) w (fun w2 => Own t Q E w2 (.slice (some ⟨b, 0, none⟩) n cap) (ys.set i y') b ∧ Ext (· = b) w w2) := by
  obtain ⟨hl, ⟨_, h⟩ | ⟨cap', us, sp, hv', hc, he, hB, hlen⟩⟩ := hO
  · cases h
  · cases hv'
    have hus : us.length = ys.length := he.length
    have hsz : ∀ u ∈ us, u.cells.size = t.size := he.mem (n := t.size) (fun u x h => t.sz h)
    have hfl : (flat us).length = ys.length * t.size := by rw [flat_length hsz, hus]
    have hmul : i * t.size + t.size ≤ ys.length * t.size := by rw [← Nat.succ_mul]; exact Nat.mul_le_mul_right _ hi
    have hcu : (Value.agg us0.toArray).cells.toList = us0 := by simp [Value.cells]
    have hcs : (Value.agg us0.toArray).cells.size = t.size := by rw [← Array.length_toList, hcu, hn]
    have hd := DoS.storeA (P := P) (T := TE) hp hv hs hn hu hB (by rw [List.length_append]; omega)
    intro w' hw ρ hρ o ho
    obtain ⟨w2, w3, h1, h2, hPut⟩ := hd w' hw ρ hρ o ho
    refine ⟨w2, w3, h1, h2, ⟨by rw [List.length_set]; exact hl, .inr ⟨cap, us.set i (.agg us0.toArray), sp, by rw [List.length_set], by rw [List.length_set]; exact hc, ?_, ?_, ?_⟩⟩, hPut.ext⟩
    · have he2 : Each (t.rep Q w2) us ys := he.imp (fun u x h => t.ext h hPut.ext hQ)
      exact Each.set he2 i (t.ext hr hPut.ext hQ)
    · have hblk := hPut.blk
      have hf := flat_put (us := us) i (.agg us0.toArray) hsz hcs (by omega)
      rw [hcu] at hf
      rw [List.take_append_of_le_length (by omega), List.drop_append_of_le_length (by omega), hn, ← List.append_assoc] at hblk
      rw [← hf]
      exact hblk
    · have hsz2 : ∀ u ∈ us.set i (.agg us0.toArray), u.cells.size = t.size := fun u hu => by
        rcases List.mem_or_eq_of_mem_set hu with h | h
        · exact hsz u h
        · rw [h]; exact hcs
      rw [List.length_append, flat_length hsz2, List.length_set] at *
      rw [flat_length hsz] at hlen
      exact hlen
theorem run_clear_call {ρ : Operand → Value} {ats : Array TypeId} {w w' : World} {o : Oper} (ho : o.op = .call { callee := .builtin .clear, args := #[x], argTypes := ats }) {r : Value} (h : (Builtin.clear_ ats o.type #[ρ x]).run P w = .ok r w') :
    (execOp ρ o).run P w = .ok (.value r) w' := by
  simp [execOp, ho, resolve, invoke, builtin, h]
/-- what stands behind the first i of a list of the call's own is cleared -/
theorem DoV.clearOwn {ti : TypeInfo} {z : Value} (hO : Own t Q E w (.slice (some ⟨b, 0, none⟩) n cap) ys b) (hin : i ≤ n) (hx : look e x = some (cutV t.size (some ⟨b, 0, none⟩) cap i n)) (hQ : ∀ k, Q k → k < w.heap.size → ¬ k = b)
    (hT : P.underlying T = some (.slice E)) (hE : P.info? E = some ti) (hz : ti.zero = some z) (hzs : z.cells.size = t.size) (hone : z.cells.toList.all (·.oneCell') = true) :
    DoV P e (.call { callee := .builtin .clear, args := #[x], argTypes := #[T] }) w (fun r w2 => Own t Q E w2 (.slice (some ⟨b, 0, none⟩) i cap) (ys.take i) b ∧ Ext (· = b) w w2) := by
  intro w' hw ρ hρ o ho
  obtain ⟨hl, ⟨_, h⟩ | ⟨cap', us, sp, hv', hc, he, hB, hlen⟩⟩ := hO
  · cases h
  cases hv'
  have hus : us.length = ys.length := he.length
  have hsz : ∀ u ∈ us, u.cells.size = t.size := he.mem (n := t.size) (fun u x h => t.sz h)
  have hfl : (flat us).length = ys.length * t.size := by rw [flat_length hsz, hus]
  rcases Nat.lt_or_ge i ys.length with hi | hi
  · have hcv : cutV t.size (some ⟨b, 0, none⟩) cap i ys.length = .slice (some ⟨b, i * t.size, none⟩) (ys.length - i) (cap - i) := by
      unfold cutV
      rw [if_neg (by omega)]
      simp [Addr.add]
      exact fun h => h.symm
    let zs := (Builtin.zeroCells z.cells (ys.length - i)).toList
    have hzl : zs.length = (ys.length - i) * t.size := by show (Builtin.zeroCells z.cells (ys.length - i)).toList.length = _; rw [Array.length_toList, size_zeroCells, hzs]
    have hmul : i * t.size + (ys.length - i) * t.size = ys.length * t.size := by rw [← Nat.add_mul]; congr 1; omega
    have hB' : Blk w' b E (flat us ++ sp) := hB.keep (by rw [hw.heap])
    have hfit : i * t.size + zs.length ≤ (flat us ++ sp).length := by rw [hzl, List.length_append]; omega
    have hzone : ∀ v ∈ zs, v.oneCell' = true := fun v hv => by
      have hv : v ∈ (Builtin.zeroCells z.cells (ys.length - i)).toList := hv
      unfold Builtin.zeroCells at hv
      rw [Array.toList_map, List.mem_map] at hv
      obtain ⟨j, hj, rfl⟩ := hv
      have hj : j < (ys.length - i) * z.cells.size := by simpa using hj
      have hpos : 0 < z.cells.size := by
        rcases Nat.eq_zero_or_pos z.cells.size with h0 | h0
        · rw [h0, Nat.mul_zero] at hj; exact absurd hj (Nat.not_lt_zero _)
        · exact h0
      have hlt : j % z.cells.size < z.cells.size := Nat.mod_lt _ hpos
      rw [getElem!_pos z.cells _ hlt]
      exact List.all_eq_true.1 hone _ (by simp)
    have hst := run_storeCells_cells (P := P) b (i * t.size) zs 0 w' (fun j hj => by rw [Nat.add_zero, hB'.cell, List.getElem?_eq_getElem (by omega)]; rfl) (fun j hj => by rw [Nat.add_zero]; exact hB'.thawed _ (by omega)) hzone
    rw [Nat.add_zero, ← putCells_setCells] at hst
    have hrun : (execOp ρ o).run P w' = .ok (.value (.tuple #[])) (putCells w' b (i * t.size) zs) := by
      refine run_clear_call ho ?_
      rw [hρ _ _ hx, hcv]
      obtain ⟨m, hm⟩ : ∃ m, ys.length - i = m + 1 := ⟨ys.length - i - 1, by omega⟩
      have hst' : (storeCells ⟨b, i * t.size, none⟩ (Builtin.zeroCells z.cells (m + 1)).toList).run P w' = .ok () (putCells w' b (i * t.size) zs) := by rw [← hm]; exact hst
      simp [Builtin.clear_, run_underlying hT, zeroValue, typeInfo, hE, hz, hm, hst']
    have hb2 := hB.put zs (i * t.size)
    rw [splice_eq _ _ _ hfit] at hb2
    have hX := putCells_ext zs w b (i * t.size)
    refine ⟨_, _, _, hrun, hw.putCells b zs (i * t.size), ⟨by rw [List.length_take]; omega, .inr ⟨cap, us.take i, zs ++ (flat us ++ sp).drop (i * t.size + zs.length), by rw [List.length_take]; congr 1; omega, by rw [List.length_take]; omega, ?_, ?_, ?_⟩⟩, hX⟩
    · exact Each.take (he.imp (fun u x h => t.ext h hX hQ)) i
    · rw [flat_take i hsz, ← List.append_assoc]
      rw [List.take_append_of_le_length (by omega)] at hb2
      exact hb2
    · rw [flat_take i hsz]
      simp only [List.length_append, List.length_take, List.length_drop] at hlen hfit ⊢
      omega
  · obtain rfl : i = ys.length := by omega
    have hcv : ∃ a c, cutV t.size (some ⟨b, 0, none⟩) cap ys.length ys.length = .slice a 0 c := by
      unfold cutV
      rw [Nat.sub_self]
      exact ⟨_, _, rfl⟩
    obtain ⟨a, c, hcv⟩ := hcv
    have hrun : (execOp ρ o).run P w' = .ok (.value (.tuple #[])) w' := by
      refine run_clear_call ho ?_
      rw [hρ _ _ hx, hcv]
      cases a <;> simp [Builtin.clear_, run_underlying hT]
    refine ⟨_, w, w', hrun, hw, ⟨by rw [List.take_length]; exact hl, .inr ⟨cap, us, sp, by rw [List.take_length], by rw [List.take_length]; exact hc, by rw [List.take_length]; exact he, hB, hlen⟩⟩, .refl _⟩
end
end Go.Proofs.Ythkgadhamecnlaa
