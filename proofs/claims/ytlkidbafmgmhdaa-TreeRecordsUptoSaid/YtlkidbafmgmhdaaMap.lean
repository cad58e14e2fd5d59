/-
  Maps: made, asked, written.
-/
import Derived.Test.YtlkidbafmgmhdaaMore
import Derived.MapKept
set_option linter.unusedVariables false
set_option linter.unusedSimpArgs false
namespace Go.Proofs.Ytlkidbafmgmhdaa
open Go Go.MapKept
/-- a map's entries, in the order in which they came; K: a key as a value -/
def MapV {κ : Type} (K : κ → Value) (w : World) (m : Nat) (kvs : List (κ × Value)) : Prop :=
  ∃ es clock, w.heap[m]? = some (.map es clock) ∧ es.toList.map (fun e => (e.key, e.val)) = kvs.map (fun p => (K p.1, p.2)) ∧ (kvs.map (·.1)).Nodup
section
variable {κ : Type} {K : κ → Value} {w w' : World} {m : Nat} {kvs : List (κ × Value)} {P : Program} {e : Env} {x y z : Operand} {T kt et : TypeId} {d : TypeDesc} {k : κ} {v : Value}
theorem MapV.lt (h : MapV K w m kvs) : m < w.heap.size := by
  obtain ⟨es, c, h1, _⟩ := h
  exact (Array.getElem?_eq_some_iff.1 h1).1
theorem MapV.ext {S : Nat → Prop} (h : MapV K w m kvs) (hx : Ext S w w') (hs : ¬ S m) : MapV K w' m kvs := by
  have hl := h.lt
  obtain ⟨es, c, h1, h2⟩ := h
  exact ⟨es, c, (hx.block m hl hs).trans h1, h2⟩
theorem MapV.keys (h : MapV K w m kvs) (hK : ∀ a, IsKey d (K a)) : ∃ es clock, w.heap[m]? = some (.map es clock) ∧ es.toList.map (fun e => (e.key, e.val)) = kvs.map (fun p => (K p.1, p.2)) ∧ (∀ x ∈ es.toList, IsKey d x.key ∧ ∃ p ∈ kvs, x.key = K p.1 ∧ x.val = p.2) := by
  obtain ⟨es, c, h1, h2, h3⟩ := h
  refine ⟨es, c, h1, h2, fun x hx => ?_⟩
  have : (x.key, x.val) ∈ es.toList.map (fun e => (e.key, e.val)) := List.mem_map.2 ⟨x, hx, rfl⟩
  rw [h2] at this
  obtain ⟨p, hp, he⟩ := List.mem_map.1 this
  simp only [Prod.mk.injEq] at he
  exact ⟨he.1 ▸ hK p.1, p, hp, he.1.symm, he.2.symm⟩
theorem run_look (h : MapV K w m kvs) (hK : ∀ a, IsKey d (K a)) (hinj : ∀ a b, K a = K b → a = b) (hT : P.underlying T = some (.map kt et)) (hk : P.underlying kt = some d) {ti : TypeInfo} {z0 : Value} (hE : P.info? et = some ti) (hz : ti.zero = some z0) (k : κ) :
    ((∃ p ∈ kvs, p.1 = k ∧ (Instr.lookup T (.map (some m)) (K k) false).run P w = .ok p.2 w) ∨ ((∀ p ∈ kvs, p.1 ≠ k) ∧ (Instr.lookup T (.map (some m)) (K k) false).run P w = .ok z0 w)) := by
  obtain ⟨es, c, h1, h2, h4⟩ := h.keys hK
  rcases findNow_spec (hK k) es.toList 0 (fun x hx => (h4 x hx).1) with ⟨f1, f2⟩ | ⟨j, e0, f1, f2, f3⟩
  · refine .inr ⟨fun p hp hpk => ?_, ?_⟩
    · have : (K p.1, p.2) ∈ es.toList.map (fun e => (e.key, e.val)) := by rw [h2]; exact List.mem_map.2 ⟨p, hp, rfl⟩
      obtain ⟨x, hx, he⟩ := List.mem_map.1 this
      simp only [Prod.mk.injEq] at he
      exact f2 x hx (by rw [he.1, hpk])
    · simp [Instr.lookup, run_underlying hT, MapKept.run_getObj_map h1, run_checkKey hk (hK k), run_findKey hk f1, zeroValue, typeInfo, hE, hz, Result.andThen]
  · obtain ⟨_, p, hp, he, hv⟩ := h4 e0 (List.mem_of_getElem? f2)
    refine .inl ⟨p, hp, hinj _ _ (he.symm.trans f3), ?_⟩
    rw [← hv]
    simp [Instr.lookup, run_underlying hT, MapKept.run_getObj_map h1, run_checkKey hk (hK k), run_findKey hk f1, Result.andThen]
theorem Ev.lookSet {ks : List κ} [Decidable (k ∈ ks)] (h : MapV K w m (ks.map (fun k => (k, .bool true)))) (hK : ∀ a, IsKey d (K a)) (hinj : ∀ a b, K a = K b → a = b) (hx : look e x = some (.map (some m))) (hy : look e y = some (K k)) (hT : P.underlying T = some (.map kt et)) (hk : P.underlying kt = some d) {ti : TypeInfo} (hE : P.info? et = some ti) (hz : ti.zero = some (.bool false)) :
    Ev P e (.lookup T x y false) w (.bool (decide (k ∈ ks))) := by
  intro w' hw ρ hρ o ho
  have hr := run_look (P := P) (h.ext hw (fun x => x)) hK hinj hT hk hE hz k
  have : (Instr.lookup T (.map (some m)) (K k) false).run P w' = .ok (.bool (decide (k ∈ ks))) w' := by
    rcases hr with ⟨p, hp, rfl, h1⟩ | ⟨h1, h2⟩
    · obtain ⟨q, hq, rfl⟩ := List.mem_map.1 hp
      rw [h1, decide_eq_true hq]
    · rw [h2, decide_eq_false (fun hm => h1 _ (List.mem_map.2 ⟨k, hm, rfl⟩) rfl)]
  simp [execOp, ho, hρ _ _ hx, hρ _ _ hy, this]
theorem DoV.makeMap (hT : True) : DoV P e (.makeMap T none) w (fun r w2 => r = .map (some w.heap.size) ∧ MapV K w2 w.heap.size [] ∧ Ext (fun _ => False) w w2 ∧ w2.heap.size = w.heap.size + 1) := by
  intro w' hw ρ hρ o ho
  refine ⟨_, w.alloc (.map #[] 0), w'.alloc (.map #[] 0), ?_, hw.alloc _, rfl, ⟨#[], 0, (heap_alloc w _).1, rfl, List.nodup_nil⟩, Ext.alloc w _, by simp⟩
  simp [execOp, ho, Instr.makeMap, newObj, Sem.run, hw.heap, World.alloc, Result.andThen]
theorem DoS.mapPush (h : MapV K w m kvs) (hK : ∀ a, IsKey d (K a)) (hinj : ∀ a b, K a = K b → a = b) (hn : ∀ p ∈ kvs, p.1 ≠ k) (hx : look e x = some (.map (some m))) (hy : look e y = some (K k)) (hz : look e z = some v) (hT : P.underlying T = some (.map kt et)) (hk : P.underlying kt = some d) :
    DoS P e (.mapUpdate T x y z) w (fun w2 => MapV K w2 m (kvs ++ [(k, v)]) ∧ Ext (· = m) w w2 ∧ w2.heap.size = w.heap.size) := by
  intro w' hw ρ hρ o ho
  obtain ⟨es, c, h1, h2, h3⟩ := h
  obtain ⟨es', c', g1, g2, g4⟩ := MapV.keys (d := d) (K := K) (w := w') (m := m) (kvs := kvs) ⟨es, c, by rw [hw.heap]; exact h1, h2, h3⟩ hK
  rw [hw.heap, h1] at g1
  cases g1
  have f := findNow_spec (hK k) es.toList 0 (fun x hx => (g4 x hx).1)
  rcases f with ⟨f1, f2⟩ | ⟨j, e0, f1, f2, f3⟩
  · have hset := heap_set (o' := .map (es.push ⟨K k, v, c⟩) (c + 1)) h1
    refine ⟨{ w with heap := w.heap.setIfInBounds m (.map (es.push ⟨K k, v, c⟩) (c + 1)) }, { w' with heap := w'.heap.setIfInBounds m (.map (es.push ⟨K k, v, c⟩) (c + 1)) }, ?_, ⟨by simp [hw.heap], hw.os, hw.tape, hw.output⟩, ⟨_, _, hset.1, ?_, ?_⟩, ⟨rfl, rfl, rfl, by simp, fun b _ hb => hset.2 b hb⟩, by simp⟩
    · have hb' : w'.heap[m]? = some (.map es c) := by rw [hw.heap]; exact h1
      simp [execOp, ho, hρ _ _ hx, hρ _ _ hy, hρ _ _ hz, Instr.mapUpdate, run_underlying hT, MapKept.run_getObj_map hb', run_checkKey hk (hK k), run_findKey hk f1, MapKept.run_setObj_map _ hb', Result.andThen]
    · rw [Array.toList_push, List.map_append, h2, List.map_append]
      rfl
    · rw [List.map_append, List.nodup_append]
      refine ⟨h3, by simp, fun a ha b hb => ?_⟩
      obtain ⟨p, hp, rfl⟩ := List.mem_map.1 ha
      simp only [List.map_cons, List.map_nil, List.mem_singleton] at hb
      rw [hb]
      exact hn p hp
  · exfalso
    obtain ⟨_, p, hp, he, _⟩ := g4 e0 (List.mem_of_getElem? f2)
    exact hn p hp (hinj _ _ (he.symm.trans f3))
end
theorem str_key (a : Bs) : IsKey .string (str a) := trivial
theorem str_inj' (a b : Bs) (h : str a = str b) : a = b := by
  have h1 : bs a = bs b := Value.string.inj h
  have := congrArg (fun z : ByteArray => z.data.toList) h1
  simpa [bs] using this
end Go.Proofs.Ytlkidbafmgmhdaa
