import Derived.Test.YthliepcjfnjnoaaGreatDoorB06
import Derived.Test.YthliepcjfnjnoaaGreatDoorB07
import Derived.Test.YthliepcjfnjnoaaGreatDoorB05
set_option linter.unusedVariables false
set_option linter.unusedSimpArgs false
set_option maxRecDepth 20000
namespace Go.Proofs.YthliepcjfnjnoaaGreatDoor
open Go Go.MapKept
def MapL (w : World) (m : Nat) (kvs : List (Int × Int)) : Prop :=
  ∃ es clock, w.heap[m]? = some (.map es clock) ∧ es.toList.map (fun e => (e.key, e.val)) = kvs.map (fun p => (i64 p.1, i64 p.2)) ∧ Stamped es clock
def getL (kvs : List (Int × Int)) (k : Int) : Int × Bool := match kvs.find? (fun p => decide (p.1 = k)) with
  | some p => (p.2, true)
  | none => (0, false)
theorem i64_inj' {a b : Int} (h : i64 a = i64 b) : a = b := (Value.int.inj h).2
section
variable {w w' : World} {m it : Nat} {kvs : List (Int × Int)} {P : Program} {e : Env} {x y z : Operand} {T kt et : TypeId} {k v : Int}
theorem MapL.lt (h : MapL w m kvs) : m < w.heap.size := by
  obtain ⟨es, c, h1, _⟩ := h
  exact (Array.getElem?_eq_some_iff.1 h1).1
theorem MapL.ext {S : Nat → Prop} (h : MapL w m kvs) (hx : Ext S w w') (hs : ¬ S m) : MapL w' m kvs := by
  have hl := h.lt
  obtain ⟨es, c, h1, h2⟩ := h
  exact ⟨es, c, (hx.block m hl hs).trans h1, h2⟩
theorem MapL.ext0 (h : MapL w m kvs) (hx : Ext (fun _ => False) w w') : MapL w' m kvs := h.ext hx (fun x => x)
theorem keys_of {es : Array MapEntry} (h2 : es.toList.map (fun e => (e.key, e.val)) = kvs.map (fun p => (i64 p.1, i64 p.2))) : ∀ x ∈ es.toList, IsKey (.int .i64) x.key ∧ ∃ p ∈ kvs, x.key = i64 p.1 ∧ x.val = i64 p.2 := fun x hx => by
  have : (x.key, x.val) ∈ es.toList.map (fun e => (e.key, e.val)) := List.mem_map.2 ⟨x, hx, rfl⟩
  rw [h2] at this
  obtain ⟨p, hp, he⟩ := List.mem_map.1 this
  simp only [Prod.mk.injEq] at he
  exact ⟨by rw [← he.1]; rfl, p, hp, he.1.symm, he.2.symm⟩
theorem nodup_same {α β : Type} {f : α → β} : ∀ {l : List α}, (l.map f).Nodup → ∀ a ∈ l, ∀ b ∈ l, f a = f b → a = b
  | [], _, _, ha, _, _, _ => by cases ha
  | c :: l, h, a, ha, b, hb, e => by
    rw [List.map_cons, List.nodup_cons] at h
    rcases List.mem_cons.1 ha with rfl | ha2 <;> rcases List.mem_cons.1 hb with rfl | hb2
    · rfl
    · exact absurd (List.mem_map.2 ⟨b, hb2, e.symm⟩) h.1
    · exact absurd (List.mem_map.2 ⟨a, ha2, e⟩) h.1
    · exact nodup_same h.2 a ha2 b hb2 e
theorem getL_some (hn : (kvs.map (·.1)).Nodup) {p : Int × Int} (hp : p ∈ kvs) : getL kvs p.1 = (p.2, true) := by
  unfold getL
  cases hf : kvs.find? (fun q => decide (q.1 = p.1)) with
  | none => exact absurd (List.find?_eq_none.1 hf p hp) (by simp)
  | some q =>
    have h1 := List.find?_some hf
    simp only [decide_eq_true_eq] at h1
    rw [nodup_same hn q (List.mem_of_find?_eq_some hf) p hp h1]
theorem getL_none (h : ∀ p ∈ kvs, p.1 ≠ k) : getL kvs k = (0, false) := by
  unfold getL
  rw [List.find?_eq_none.2 (fun p hp => by simpa using h p hp)]
theorem keys_nodup {es : Array MapEntry} {c : Nat} (h2 : es.toList.map (fun e => (e.key, e.val)) = kvs.map (fun p => (i64 p.1, i64 p.2))) (h3 : Stamped es c) : (kvs.map (·.1)).Nodup := by
  have h4 := h3.2.2
  have e1 : es.toList.map (·.key) = (kvs.map (·.1)).map i64 := by
    have := congrArg (List.map Prod.fst) h2
    simpa [List.map_map, Function.comp_def] using this
  rw [e1] at h4
  exact (List.pairwise_map.1 h4).imp (fun hab he => hab (by rw [he]))
theorem find_cases (h : MapL w m kvs) (k : Int) : ∃ es c, w.heap[m]? = some (.map es c) ∧ es.toList.map (fun e => (e.key, e.val)) = kvs.map (fun p => (i64 p.1, i64 p.2)) ∧ Stamped es c ∧
    ((Instr.findNow (.int .i64) (i64 k) es.toList 0 = some none ∧ getL kvs k = (0, false)) ∨ ∃ j p, Instr.findNow (.int .i64) (i64 k) es.toList 0 = some (some (j, i64 p)) ∧ getL kvs k = (p, true)) := by
  obtain ⟨es, c, h1, h2, h3⟩ := h
  have hk := keys_of h2
  refine ⟨es, c, h1, h2, h3, ?_⟩
  rcases findNow_spec (d := .int .i64) (k := i64 k) rfl es.toList 0 (fun x hx => (hk x hx).1) with ⟨f1, f2⟩ | ⟨j, e0, f1, f2, f3⟩
  · refine .inl ⟨f1, getL_none fun p hp he => ?_⟩
    have : (i64 p.1, i64 p.2) ∈ es.toList.map (fun e => (e.key, e.val)) := by rw [h2]; exact List.mem_map.2 ⟨p, hp, rfl⟩
    obtain ⟨q, hq, hh⟩ := List.mem_map.1 this
    simp only [Prod.mk.injEq] at hh
    exact f2 q hq (by rw [hh.1, he])
  · obtain ⟨_, p, hp, he, hv⟩ := hk e0 (List.mem_of_getElem? f2)
    have hpk : p.1 = k := i64_inj' (he.symm.trans f3)
    refine .inr ⟨0 + j, p.2, by rw [f1, hv], ?_⟩
    rw [← hpk]
    exact getL_some (keys_nodup h2 h3) hp
theorem Ev.lookOk {ti : TypeInfo} (h : MapL w m kvs) (hx : look e x = some (.map (some m))) (hy : look e y = some (i64 k)) (hT : P.underlying T = some (.map kt et)) (hk : P.underlying kt = some (.int .i64)) (hE : P.info? et = some ti) (hz : ti.zero = some (i64 0)) :
    Ev P e (.lookup T x y true) w (.tuple #[i64 (getL kvs k).1, .bool (getL kvs k).2]) := by
  intro w' hw ρ hρ o ho
  obtain ⟨es, c, h1, h2, h3, hf⟩ := find_cases (h.ext hw (fun x => x)) k
  have hK : IsKey (.int .i64) (i64 k) := rfl
  have : (Instr.lookup T (.map (some m)) (i64 k) true).run P w' = .ok (.tuple #[i64 (getL kvs k).1, .bool (getL kvs k).2]) w' := by
    rcases hf with ⟨f1, f2⟩ | ⟨j, p, f1, f2⟩
    · rw [f2]
      simp [Instr.lookup, run_underlying hT, MapKept.run_getObj_map h1, run_checkKey hk hK, run_findKey hk f1, zeroValue, typeInfo, hE, hz, Result.andThen]
    · rw [f2]
      simp [Instr.lookup, run_underlying hT, MapKept.run_getObj_map h1, run_checkKey hk hK, run_findKey hk f1, Result.andThen]
  simp [execOp, ho, hρ _ _ hx, hρ _ _ hy, this]
theorem Ev.lenMap (h : MapL w m kvs) (hx : look e x = some (.map (some m))) (hT : P.underlying T = some (.map kt et)) : Ev P e (.call { callee := .builtin .len, args := #[x], argTypes := #[T] }) w (i64 kvs.length) := by
  intro w' hw ρ hρ o ho
  obtain ⟨es, c, h1, h2, _⟩ := h.ext hw (fun x => x)
  have hl : es.size = kvs.length := by have := congrArg List.length h2; simpa using this
  simp [execOp, ho, hρ _ _ hx, resolve, invoke, builtin, Builtin.len_, run_underlying hT, MapKept.run_getObj_map h1, hl, goInt, Result.andThen]
theorem DoV.makeMapL : DoV P e (.makeMap T none) w (fun r w2 => r = .map (some w.heap.size) ∧ MapL w2 w.heap.size [] ∧ Ext (fun _ => False) w w2 ∧ w2.heap.size = w.heap.size + 1) := by
  intro w' hw ρ hρ o ho
  refine ⟨_, w.alloc (.map #[] 0), w'.alloc (.map #[] 0), ?_, hw.alloc _, rfl, ⟨#[], 0, (heap_alloc w _).1, rfl, stamped_empty 0⟩, Ext.alloc w _, by simp⟩
  simp [execOp, ho, Instr.makeMap, newObj, Sem.run, hw.heap, World.alloc, Result.andThen]
theorem DoS.mapNew (h : MapL w m kvs) (hn : ∀ p ∈ kvs, p.1 ≠ k) (hx : look e x = some (.map (some m))) (hy : look e y = some (i64 k)) (hz : look e z = some (i64 v)) (hT : P.underlying T = some (.map kt et)) (hk : P.underlying kt = some (.int .i64)) :
    DoS P e (.mapUpdate T x y z) w (fun w2 => MapL w2 m (kvs ++ [(k, v)]) ∧ Ext (· = m) w w2 ∧ w2.heap.size = w.heap.size) := by
  intro w' hw ρ hρ o ho
  have hK : IsKey (.int .i64) (i64 k) := rfl
  obtain ⟨es, c, h1, h2, h3⟩ := h
  have hks := keys_of h2
  rcases findNow_spec hK es.toList 0 (fun x hx => (hks x hx).1) with ⟨f1, f2⟩ | ⟨j, e0, f1, f2, f3⟩
  · have hset := heap_set (o' := .map (es.push ⟨i64 k, i64 v, c⟩) (c + 1)) h1
    have hb' : w'.heap[m]? = some (.map es c) := by rw [hw.heap]; exact h1
    refine ⟨{ w with heap := w.heap.setIfInBounds m (.map (es.push ⟨i64 k, i64 v, c⟩) (c + 1)) }, { w' with heap := w'.heap.setIfInBounds m (.map (es.push ⟨i64 k, i64 v, c⟩) (c + 1)) }, ?_, ⟨by simp [hw.heap], hw.os, hw.tape, hw.output⟩, ⟨_, _, hset.1, ?_, stamped_push h3 f2⟩, ⟨rfl, rfl, rfl, by simp, fun b _ hb => hset.2 b hb⟩, by simp⟩
    · simp [execOp, ho, hρ _ _ hx, hρ _ _ hy, hρ _ _ hz, Instr.mapUpdate, run_underlying hT, MapKept.run_getObj_map hb', run_checkKey hk hK, run_findKey hk f1, MapKept.run_setObj_map _ hb', Result.andThen]
    · rw [Array.toList_push, List.map_append, h2, List.map_append]
      rfl
  · exfalso
    obtain ⟨_, p, hp, he, _⟩ := hks e0 (List.mem_of_getElem? f2)
    exact hn p hp (i64_inj' (he.symm.trans f3))
theorem one_entry {es : Array MapEntry} {p : Int × Int} (h2 : es.toList.map (fun e => (e.key, e.val)) = [p].map (fun p => (i64 p.1, i64 p.2))) : ∃ b, es = #[⟨i64 p.1, i64 p.2, b⟩] := by
  cases es with
  | mk l =>
    cases l with
    | nil => cases h2
    | cons a l =>
      cases l with
      | cons _ _ => simp at h2
      | nil =>
        simp only [List.map_cons, List.map_nil, List.cons.injEq, Prod.mk.injEq, and_true] at h2
        obtain ⟨k0, v0, b0⟩ := a
        exact ⟨b0, by rw [← h2.1, ← h2.2]⟩
theorem DoV.delOne (h : MapL w m [(k, v)]) (hx : look e x = some (.map (some m))) (hy : look e y = some (i64 k)) (hT : P.underlying T = some (.map kt et)) (hk : P.underlying kt = some (.int .i64)) :
    DoV P e (.call { callee := .builtin .delete, args := #[x, y], argTypes := #[T, kt] }) w (fun r w2 => MapL w2 m [] ∧ Ext (· = m) w w2 ∧ w2.heap.size = w.heap.size) := by
  intro w' hw ρ hρ o ho
  have hK : IsKey (.int .i64) (i64 k) := rfl
  obtain ⟨es, c, h1, h2, h3⟩ := h
  obtain ⟨b, rfl⟩ := one_entry h2
  have hset := heap_set (o' := .map #[] c) h1
  have hb' : w'.heap[m]? = some (.map #[⟨i64 k, i64 v, b⟩] c) := by rw [hw.heap]; exact h1
  have f1 : Instr.findNow (.int .i64) (i64 k) [⟨i64 k, i64 v, b⟩] 0 = some (some (0, i64 v)) := by simp [Instr.findNow, Instr.sameNow]
  have he : (#[⟨i64 k, i64 v, b⟩] : Array MapEntry).eraseIdxIfInBounds 0 = #[] := by simp [Array.eraseIdxIfInBounds]
  refine ⟨.tuple #[], { w with heap := w.heap.setIfInBounds m (.map #[] c) }, { w' with heap := w'.heap.setIfInBounds m (.map #[] c) }, ?_, ⟨by simp [hw.heap], hw.os, hw.tape, hw.output⟩, ⟨_, _, hset.1, rfl, stamped_empty c⟩, ⟨rfl, rfl, rfl, by simp, fun b _ hb => hset.2 b hb⟩, by simp⟩
  simp [execOp, ho, hρ _ _ hx, hρ _ _ hy, resolve, invoke, builtin, Builtin.delete_, run_underlying hT, MapKept.run_getObj_map hb', run_checkKey hk hK, run_findKey hk f1, MapKept.run_setObj_map _ hb', Result.andThen, he]
def ItL (w : World) (it m : Nat) (kvs : List (Int × Int)) (n : Nat) : Prop :=
  ∃ es c, w.heap[m]? = some (.map es c) ∧ es.toList.map (fun e => (e.key, e.val)) = kvs.map (fun p => (i64 p.1, i64 p.2)) ∧ Stamped es c ∧ w.heap[it]? = some (.mapIter (some m) c ((es.toList.take n).map (·.born)).toArray c)
theorem ItL.map {n : Nat} (h : ItL w it m kvs n) : MapL w m kvs := by obtain ⟨es, c, h1, h2, h3, _⟩ := h; exact ⟨es, c, h1, h2, h3⟩
theorem ItL.lt {n : Nat} (h : ItL w it m kvs n) : it < w.heap.size := by
  obtain ⟨es, c, _, _, _, h1⟩ := h
  exact (Array.getElem?_eq_some_iff.1 h1).1
theorem ItL.ext0 {n : Nat} (h : ItL w it m kvs n) (hx : Ext (fun _ => False) w w') : ItL w' it m kvs n := by
  have l1 := h.lt
  have l2 := h.map.lt
  obtain ⟨es, c, h1, h2, h3, h4⟩ := h
  exact ⟨es, c, (hx.block m l2 (fun x => x)).trans h1, h2, h3, (hx.block it l1 (fun x => x)).trans h4⟩
theorem DoV.rangeL (h : MapL w m kvs) (hx : look e x = some (.map (some m))) (hT : P.underlying T = some (.map kt et)) :
    DoV P e (.range T x) w (fun r w2 => r = .pointer (some ⟨w.heap.size, 0, none⟩) ∧ ItL w2 w.heap.size m kvs 0 ∧ Ext (fun _ => False) w w2 ∧ w2.heap.size = w.heap.size + 1) := by
  intro w' hw ρ hρ o ho
  have hl := h.lt
  obtain ⟨es, c, h1, h2, h3⟩ := h
  have hb' : w'.heap[m]? = some (.map es c) := by rw [hw.heap]; exact h1
  refine ⟨_, w.alloc (.mapIter (some m) c #[] c), w'.alloc (.mapIter (some m) c #[] c), ?_, hw.alloc _, rfl, ⟨es, c, ((heap_alloc w _).2 m hl).trans h1, h2, h3, (heap_alloc w _).1⟩, Ext.alloc w _, by simp⟩
  simp [execOp, ho, hρ _ _ hx, Instr.range, run_underlying hT, MapKept.run_getObj_map hb', newObj, Sem.run, hw.heap, World.alloc, Result.andThen]
theorem run_get {w : World} {r : Nat} {a : Option Nat} {b c : Nat} {s : Array Nat} (h : w.heap[r]? = some (.mapIter a b s c)) : (getObj r).run P w = .ok (.mapIter a b s c) w := by simp [getObj, Sem.run, h]
theorem run_set {w : World} {r : Nat} {a : Option Nat} {b c : Nat} {s : Array Nat} (o' : Obj) (h : w.heap[r]? = some (.mapIter a b s c)) : (setObj r o').run P w = .ok () { w with heap := w.heap.setIfInBounds r o' } := by simp [setObj, Sem.run, h]
theorem run_choose1 : (Question.mapNext 1).forced = true := rfl
theorem Ev.nextNo {n : Nat} (h : ItL w it m kvs n) (h1 : kvs.length ≤ 1) (hn : n = kvs.length) (hx : look e x = some (.pointer (some ⟨it, 0, none⟩))) : Ev P e (.next x false) w (.tuple #[.bool false]) := by
  intro w' hw ρ hρ o ho
  obtain ⟨es, c, g1, g2, g3, g4⟩ := h.ext0 hw
  have key : (Instr.next (.pointer (some ⟨it, 0, none⟩)) false o.type).run P w' = .ok (.tuple #[.bool false]) w' := by
    match kvs, h1, hn, g2 with
    | [], _, hn, g2 =>
      obtain rfl : es = #[] := by cases es with | mk l => cases l with | nil => rfl | cons a l => simp at g2
      simp [Instr.next, MapKept.run_getObj_map g1, run_get g4, run_choose1, Result.andThen]
    | [p], _, hn, g2 =>
      obtain ⟨b, rfl⟩ := one_entry g2
      subst hn
      have hb : b < c := g3.1 ⟨i64 p.1, i64 p.2, b⟩ (by simp)
      have hb' : ¬ c ≤ b := by omega
      simp [Instr.next, MapKept.run_getObj_map g1, run_get g4, run_choose1, hb, hb', Result.andThen]
  simp [execOp, ho, hρ _ _ hx, key]
theorem DoV.nextYes {p : Int × Int} (h : ItL w it m [p] 0) (hx : look e x = some (.pointer (some ⟨it, 0, none⟩))) (hne : it ≠ m) :
    DoV P e (.next x false) w (fun r w2 => r = .tuple #[.bool true, i64 p.1, i64 p.2] ∧ ItL w2 it m [p] 1 ∧ Ext (· = it) w w2 ∧ w2.heap.size = w.heap.size) := by
  intro w' hw ρ hρ o ho
  obtain ⟨es, c, g1, g2, g3, g4⟩ := h
  obtain ⟨b, rfl⟩ := one_entry g2
  have hb : b < c := g3.1 ⟨i64 p.1, i64 p.2, b⟩ (by simp)
  have hb' : ¬ c ≤ b := by omega
  have g1' : w'.heap[m]? = some (.map #[⟨i64 p.1, i64 p.2, b⟩] c) := by rw [hw.heap]; exact g1
  have g4' : w'.heap[it]? = some (.mapIter (some m) c #[] c) := by rw [hw.heap]; exact g4
  have hset := heap_set (o' := .mapIter (some m) c #[b] c) g4
  refine ⟨_, { w with heap := w.heap.setIfInBounds it (.mapIter (some m) c #[b] c) }, { w' with heap := w'.heap.setIfInBounds it (.mapIter (some m) c #[b] c) }, ?_, ⟨by simp [hw.heap], hw.os, hw.tape, hw.output⟩, rfl, ⟨_, _, (hset.2 m (fun h => hne h.symm)).trans g1, g2, g3, hset.1⟩, ⟨rfl, rfl, rfl, by simp, fun b _ hb => hset.2 b hb⟩, by simp⟩
  simp [execOp, ho, hρ _ _ hx, Instr.next, MapKept.run_getObj_map g1', run_get g4', run_choose1, run_set _ g4', hb, hb', Result.andThen]
theorem Ev.entryL {p : Int × Int} (h : ItL w it m [p] 1) (hx : look e x = some (.pointer (some ⟨it, 0, none⟩))) : Ev P e (.entry x) w (.tuple #[i64 p.1, i64 p.2]) := by
  intro w' hw ρ hρ o ho
  obtain ⟨es, c, g1, g2, g3, g4⟩ := h.ext0 hw
  obtain ⟨b, rfl⟩ := one_entry g2
  simp [execOp, ho, hρ _ _ hx, Instr.entry, MapKept.run_getObj_map g1, run_get g4, Result.andThen]
theorem DoV.nextL {n : Nat} (h : ItL w it m kvs n) (h1 : kvs.length ≤ 1) (hle : n ≤ kvs.length) (hne : it ≠ m) (hx : look e x = some (.pointer (some ⟨it, 0, none⟩))) :
    DoV P e (.next x false) w (fun r w2 => ∃ more vs, r = .tuple (.bool more :: vs).toArray ∧ (more = true → n < kvs.length ∧ ItL w2 it m kvs (n + 1)) ∧ (more = false → n = kvs.length) ∧ Ext (· = it) w w2 ∧ w2.heap.size = w.heap.size) := by
  intro w' hw ρ hρ o ho
  rcases Nat.lt_or_ge n kvs.length with hlt | hge
  · obtain ⟨p, rfl⟩ : ∃ p, kvs = [p] := by
      match kvs, h1, hlt with
      | [p], _, _ => exact ⟨p, rfl⟩
      | [], _, hlt => exact absurd hlt (Nat.not_lt_zero _)
    obtain rfl : n = 0 := by simp at hlt; exact hlt
    obtain ⟨r, w2, w3, e1, e2, e3, e4, e5, e6⟩ := DoV.nextYes h hx hne w' hw ρ hρ o ho
    exact ⟨r, w2, w3, e1, e2, true, [i64 p.1, i64 p.2], e3, fun _ => ⟨hlt, e4⟩, fun h => (by cases h), e5, e6⟩
  · exact ⟨_, w, w', Ev.nextNo h h1 (by omega) hx w' (.same hw) ρ hρ o ho, hw, false, [], rfl, fun h => (by cases h), fun _ => (by omega), .refl _, rfl⟩
theorem Ev.entryAt {n : Nat} (h : ItL w it m kvs (n + 1)) (h1 : kvs.length ≤ 1) (hlt : n < kvs.length) (hx : look e x = some (.pointer (some ⟨it, 0, none⟩))) : Ev P e (.entry x) w (.tuple #[i64 kvs[n].1, i64 kvs[n].2]) := by
  obtain ⟨p, rfl⟩ : ∃ p, kvs = [p] := by
    match kvs, h1, hlt with
    | [p], _, _ => exact ⟨p, rfl⟩
    | [], _, hlt => exact absurd hlt (Nat.not_lt_zero _)
  obtain rfl : n = 0 := by simp at hlt; exact hlt
  exact Ev.entryL h hx
end
def keepL (kvs : List (Int × Int)) (now : Int) (n : Nat) : Int := (kvs.take n).foldl (fun a p => min a p.2) now
theorem keepL_succ {kvs : List (Int × Int)} {now : Int} {n : Nat} (h : n < kvs.length) : keepL kvs now (n + 1) = min (keepL kvs now n) kvs[n].2 := by
  unfold keepL
  rw [List.take_succ_eq_append_getElem h, List.foldl_append]
  rfl
theorem keepL_bd {kvs : List (Int × Int)} {now : Int} (h0 : 0 ≤ now) (h : ∀ p ∈ kvs, 0 ≤ p.2) : ∀ n, n ≤ kvs.length → 0 ≤ keepL kvs now n ∧ keepL kvs now n ≤ now
  | 0, _ => ⟨h0, Int.le_refl _⟩
  | n + 1, hn => by
    have hlt : n < kvs.length := by omega
    have ih := keepL_bd h0 h n (by omega)
    have hp := h kvs[n] (List.getElem_mem hlt)
    rw [keepL_succ hlt]
    omega
end Go.Proofs.YthliepcjfnjnoaaGreatDoor
namespace Go.Proofs.YthliepcjfnjnoaaGreatDoor
open Go
def sumTo (b : Bs) : Nat → Nat
  | 0 => 0
  | i + 1 => sumTo b i + (b.getD i 0).toNat % 128 * 128 ^ i
def leadN (b : Bs) : Nat := (b.takeWhile (fun x => decide (128 ≤ x.toNat))).length
def readOk (b : Bs) : Prop := leadN b < b.length ∧ leadN b ≤ 9 ∧ ¬ (leadN b = 9 ∧ 1 < (b.getD (leadN b) 0).toNat) ∧ ¬ (0 < leadN b ∧ (b.getD (leadN b) 0).toNat = 0)
instance (b : Bs) : Decidable (readOk b) := by unfold readOk; infer_instance
def readF (b : Bs) : Nat × Nat × Int := if readOk b then (sumTo b (leadN b + 1), leadN b + 1, 0) else (0, 0, 8)
theorem sumTo_lt (b : Bs) : ∀ i, sumTo b i < 128 ^ i
  | 0 => by simp [sumTo]
  | i + 1 => by
    have h := sumTo_lt b i
    rw [sumTo, Nat.pow_succ]
    have h1 : (b.getD i 0).toNat % 128 ≤ 127 := by omega
    have h2 : (b.getD i 0).toNat % 128 * 128 ^ i ≤ 127 * 128 ^ i := Nat.mul_le_mul_right _ h1
    omega
theorem pow7 (i : Nat) : 2 ^ (7 * i) = 128 ^ i := by rw [Nat.pow_mul]
theorem sum_or (b : Bs) (i : Nat) : sumTo b i ||| (b.getD i 0).toNat % 128 * 2 ^ (7 * i) = sumTo b (i + 1) := by
  have h := Nat.two_pow_add_eq_or_of_lt (i := 7 * i) (by rw [pow7]; exact sumTo_lt b i) ((b.getD i 0).toNat % 128)
  rw [Nat.or_comm, Nat.mul_comm, ← h, sumTo, pow7, Nat.mul_comm, Nat.add_comm]
theorem and127 (x : UInt8) : (x &&& 127).toNat = x.toNat % 128 := by
  rw [UInt8.toNat_and]
  exact Nat.and_two_pow_sub_one_eq_mod x.toNat 7
theorem sum_bd (b : Bs) {i : Nat} (hi : i ≤ 9) (h : i = 9 → (b.getD i 0).toNat ≤ 1) : (b.getD i 0).toNat % 128 * 2 ^ (7 * i) < 18446744073709551616 ∧ sumTo b (i + 1) < 18446744073709551616 := by
  have h1 := sumTo_lt b i
  rw [pow7, sumTo]
  rcases Nat.lt_or_ge i 9 with h9 | h9
  · have h3 : (128 : Nat) ^ i ≤ 128 ^ 8 := Nat.pow_le_pow_right (by decide) (by omega)
    have h2 : (b.getD i 0).toNat % 128 * 128 ^ i ≤ 127 * 128 ^ i := Nat.mul_le_mul_right _ (by omega)
    have h4 : (128 : Nat) ^ 8 = 72057594037927936 := by decide
    omega
  · obtain rfl : i = 9 := by omega
    have h2 := h rfl
    have h3 : (b.getD 9 0).toNat % 128 * 128 ^ 9 ≤ 1 * 128 ^ 9 := Nat.mul_le_mul_right _ (by omega)
    have h4 : (128 : Nat) ^ 9 = 9223372036854775808 := by decide
    omega
theorem lead_ge : ∀ (b : Bs) (i : Nat), i ≤ b.length → (∀ j (h : j < b.length), j < i → 128 ≤ b[j].toNat) → i ≤ leadN b
  | _, 0, _, _ => Nat.zero_le _
  | [], i + 1, h, _ => absurd h (Nat.not_succ_le_zero _)
  | x :: b, i + 1, h, ha => by
    have h0 := ha 0 (Nat.succ_pos _) (Nat.succ_pos _)
    have ih := lead_ge b i (by simpa using h) (fun j hj hlt => ha (j + 1) (by simpa using hj) (by omega))
    unfold leadN at *
    rw [List.takeWhile_cons, if_pos (by simpa using h0)]
    simp
    omega
theorem lead_eq {b : Bs} {i : Nat} (h : i < b.length) (ha : ∀ j (h : j < b.length), j < i → 128 ≤ b[j].toNat) (hi : b[i].toNat < 128) : leadN b = i := by
  have h1 := lead_ge b i (by omega) ha
  rcases Nat.lt_or_ge i (leadN b) with h2 | h2
  · exfalso
    have h3 : ∀ (b : Bs) (i : Nat) (hi : i < b.length), i < leadN b → 128 ≤ b[i].toNat := by
      intro b
      induction b with
      | nil => intro i hi; exact absurd hi (Nat.not_lt_zero _)
      | cons x b ih =>
        intro i hi hlt
        by_cases hx : 128 ≤ x.toNat
        · have e : leadN (x :: b) = leadN b + 1 := by unfold leadN; rw [List.takeWhile_cons, if_pos (by simpa using hx)]; rfl
          cases i with
          | zero => exact hx
          | succ i => exact ih i (by simpa using hi) (by omega)
        · have e : leadN (x :: b) = 0 := by unfold leadN; rw [List.takeWhile_cons, if_neg (by simpa using hx)]; rfl
          omega
    have := h3 b i h h2
    omega
  · omega
theorem getD_at {b : Bs} {i : Nat} (h : i < b.length) : b.getD i 0 = b[i] := by rw [List.getD_eq_getElem?_getD, List.getElem?_eq_getElem h]; rfl
theorem read_good {b : Bs} {i : Nat} (h : i < b.length) (h9 : i ≤ 9) (ha : ∀ j (h : j < b.length), j < i → 128 ≤ b[j].toNat) (hi : b[i].toNat < 128) (h1 : i = 9 → b[i].toNat ≤ 1) (h0 : 0 < i → b[i].toNat ≠ 0) : readF b = (sumTo b (i + 1), i + 1, 0) := by
  have e := lead_eq h ha hi
  unfold readF
  rw [if_pos, e]
  unfold readOk
  rw [e, getD_at h]
  exact ⟨h, h9, fun hx => by have := h1 hx.1; omega, fun hx => h0 hx.1 hx.2⟩
theorem read_bad0 {b : Bs} (ha : ∀ j (h : j < b.length), 128 ≤ b[j].toNat) : readF b = (0, 0, 8) := by
  have e := lead_ge b b.length (Nat.le_refl _) (fun j hj _ => ha j hj)
  unfold readF
  rw [if_neg]
  rintro ⟨h, _⟩
  omega
theorem read_bad9 {b : Bs} (h : 9 < b.length) (ha : ∀ j (h : j < b.length), j < 9 → 128 ≤ b[j].toNat) (h1 : 1 < b[9].toNat) : readF b = (0, 0, 8) := by
  have e := lead_ge b 9 (by omega) ha
  unfold readF
  rw [if_neg]
  rintro ⟨_, h9, hx, _⟩
  have e9 : leadN b = 9 := by omega
  rw [e9, getD_at h] at hx
  exact hx ⟨rfl, h1⟩
theorem read_badz {b : Bs} {i : Nat} (h : i < b.length) (ha : ∀ j (h : j < b.length), j < i → 128 ≤ b[j].toNat) (h0 : 0 < i) (h1 : b[i].toNat = 0) : readF b = (0, 0, 8) := by
  have e := lead_eq h ha (by omega)
  unfold readF
  rw [if_neg]
  rintro ⟨_, _, _, hx⟩
  rw [e, getD_at h] at hx
  exact hx ⟨h0, h1⟩
theorem Sl.isNone0 {α : Type} {t : Ty α} {P : Nat → Prop} {w : World} {a : Option Addr} {n cap : Nat} {xs : List α} (h : (Sl t).rep P w (.slice a n cap) xs) (ha : a.isNone = true) : xs = [] := by
  obtain ⟨_, a', cap', e, _, ⟨rfl, _⟩ | ⟨b, o, us, rfl, _⟩⟩ := h
  · rfl
  · cases e; cases ha
def cutF (b : Bs) : Bs × Bs × Int := if ¬ (readF b).2.2 = 0 ∨ b.length - (readF b).2.1 < (readF b).1 then ([], [], 8) else ((b.drop (readF b).2.1).take (readF b).1, (b.drop (readF b).2.1).drop (readF b).1, 0)
theorem readF_bd (b : Bs) : (readF b).1 < 18446744073709551616 ∧ (readF b).2.1 ≤ b.length := by
  unfold readF
  split
  · rename_i h
    obtain ⟨h1, h2, h3, h4⟩ := h
    exact ⟨(sum_bd b h2 (fun e => by omega)).2, by show leadN b + 1 ≤ _; omega⟩
  · exact ⟨by decide, Nat.zero_le _⟩
theorem Read_fn {w : World} {v : Value} {b : Bs} (h : tBytes.rep All w v b) : Fn Tryz.prog 26 [v] w (fun r w2 => r = .tuple #[.int .u64 ((readF b).1 : Nat), i64 ((readF b).2.1 : Nat), i64 (readF b).2.2] ∧ Ext (fun _ => False) w w2) := by
  obtain ⟨a, cap, rfl, hcap⟩ := Sl.val h
  have hlim := Sl.lim h
  simp only [Lim] at hlim
  refine Fn.enter (fun w => Tryz.call26 _ w) Tryz.func26 rfl ?_
  refine .seq (.region ?_)
  refine .p rfl rfl (.as rfl) ?_
  refine .p rfl rfl (.as rfl) ?_
  refine .p rfl rfl (.as rfl) ?_
  refine .nil (.code (.seq (.keep [(0, _)] ⟨rfl, trivial⟩ (.region ?_))))
  refine .p rfl rfl (.as rfl) ?_
  refine .nil (.code (.seq (.seq (.region ?_))))
  refine .p rfl rfl (.mv rfl) ?_
  refine .p rfl rfl (.len rfl rfl) ?_
  refine .p rfl rfl (.mv rfl) ?_
  refine .nil (.code (.block (.keep [(10, _), (9, _), (8, _), (5, _)] ⟨rfl, rfl, rfl, rfl, trivial⟩ ?_)))
  refine .loop (S := Nat) (fun s => [(5, .int .u64 (sumTo b s : Nat)), (8, .slice a b.length cap), (9, i64 b.length), (10, i64 s)]) (fun s => w) (fun s => s ≤ b.length ∧ s ≤ 9 ∧ ∀ j (h : j < b.length), j < s → 128 ≤ b[j].toNat) (fun s => b.length - s) 0 ⟨rfl, rfl, rfl, rfl, trivial⟩ rfl ⟨Nat.zero_le _, Nat.zero_le _, fun j _ h => absurd h (Nat.not_lt_zero _)⟩ ?_
  rintro i J ⟨hi', hi9, ha⟩ again
  refine .seq (.region ?_)
  refine .p rfl rfl (.lt rfl rfl) ?_
  refine .nil (.code (.seq ?_))
  refine .condD rfl (fun c11 => ?_) (fun c11 => ?_)
  · have hi : i < b.length := by omega
    obtain ⟨b0, o0, rfl, _, hc⟩ := Sl.byteAt h hi
    have hs0 : sumTo b i < 18446744073709551616 := by
      have h1 := sumTo_lt b i
      have h2 : (128 : Nat) ^ i ≤ 128 ^ 9 := Nat.pow_le_pow_right (by decide) hi9
      have h4 : (128 : Nat) ^ 9 = 9223372036854775808 := by decide
      omega
    have pow_cast : (((b.getD i 0).toNat % 128 * 2 ^ (7 * i) : Nat) : Int) = (((b.getD i 0).toNat % 128 : Nat) : Int) * 2 ^ (7 * i) := by simp
    refine .skip (.code (.seq (.block (.seq (.keep [(5, _), (8, _), (9, _), (10, _)] ⟨rfl, rfl, rfl, rfl, trivial⟩ (.region ?_))))))
    refine .p rfl rfl (.mv rfl) ?_
    refine .p rfl rfl (.indexAddr1 rfl rfl rfl rfl (by omega)) ?_
    refine .p rfl rfl (.load rfl rfl rfl hc) ?_
    refine .p rfl rfl (.as rfl) ?_
    refine .p rfl rfl (.as rfl) ?_
    refine .nil (.code (.seq (.seq (.keep [(7, _), (6, _), (5, _), (8, _), (9, _), (10, _)] ⟨rfl, rfl, rfl, rfl, rfl, rfl, trivial⟩ (.region ?_)))))
    refine .p rfl rfl (.mv rfl) ?_
    refine .p rfl rfl (.eq rfl rfl) ?_
    refine .p rfl rfl (.mv rfl) ?_
    refine .caseD 17 rfl (fun c17 => ?_) (fun c17 => ?_)
    · refine .p rfl rfl (.mv rfl) ?_
      refine .p rfl rfl (.gt rfl rfl) ?_
      refine .p rfl rfl (.pickT rfl rfl) ?_
      refine .nil (.code (.keep [(20, _), (7, _), (6, _), (5, _), (8, _), (9, _), (10, _)] ⟨rfl, rfl, rfl, rfl, rfl, rfl, rfl, trivial⟩ ?_))
      refine .condD rfl (fun c20 => ?_) (fun c20 => ?_)
      · refine .exit rfl (.code (.seq (.keep [] trivial (.region ?_))))
        refine .p rfl rfl (.as rfl) ?_
        refine .p rfl rfl (.as rfl) ?_
        refine .p rfl rfl (.as rfl) ?_
        refine .nil (.code ?_)
        refine .ret _ rfl ?_
        have hi9 : i = 9 := by omega
        subst hi9
        rw [read_bad9 hi ha (by omega)]
        exact ⟨rfl, .refl _⟩
      · have hsb := sum_bd b hi9 (fun e => by rw [getD_at hi]; omega)
        refine .skip (.code (.seq (.keep [(7, _), (6, _), (5, _), (8, _), (9, _), (10, _)] ⟨rfl, rfl, rfl, rfl, rfl, rfl, trivial⟩ (.region ?_))))
        refine .p rfl rfl (.mv rfl) ?_
        refine .p rfl rfl (.mv rfl) ?_
        refine .p rfl rfl (.and8 (b := 127) rfl rfl) ?_
        refine .p rfl rfl (.cast (.conv8_U rfl rfl rfl) (show _ = Value.int .u64 (((b.getD i 0).toNat % 128 : Nat) : Int) by rw [and127, getD_at hi])) ?_
        refine .p rfl rfl (.mv rfl) ?_
        refine .p rfl rfl (.cast (.mul rfl rfl (by omega)) (show _ = i64 ((7 * i : Nat) : Int) from congrArg i64 (by omega))) ?_
        refine .p rfl rfl (.cast (.shlU (7 * i) rfl rfl (by omega) (by rw [← pow_cast]; omega)) (show _ = Value.int .u64 (((b.getD i 0).toNat % 128 * 2 ^ (7 * i) : Nat) : Int) by rw [pow_cast])) ?_
        refine .p rfl rfl (.cast (.orU (p := sumTo b i) (q := (b.getD i 0).toNat % 128 * 2 ^ (7 * i)) rfl rfl hs0 (by omega)) (show _ = Value.int .u64 ((sumTo b (i + 1) : Nat) : Int) by rw [sum_or])) ?_
        refine .p rfl rfl (.as rfl) ?_
        refine .nil (.code (.seq (.keep [(5, _), (7, _), (6, _), (8, _), (9, _), (10, _)] ⟨rfl, rfl, rfl, rfl, rfl, rfl, trivial⟩ (.region ?_))))
        refine .p rfl rfl (.mv rfl) ?_
        refine .p rfl rfl (.lt rfl rfl) ?_
        refine .nil (.code (.keep [(30, _), (5, _), (7, _), (6, _), (8, _), (9, _), (10, _)] ⟨rfl, rfl, rfl, rfl, rfl, rfl, rfl, trivial⟩ ?_))
        refine .condD rfl (fun c30 => ?_) (fun c30 => ?_)
        · have hle := lead_eq hi ha (by omega)
          refine .seq (.seq (.keep [(5, _), (7, _), (6, _)] ⟨rfl, rfl, rfl, trivial⟩ (.region ?_)))
          refine .p rfl rfl (.mv rfl) ?_
          refine .p rfl rfl (.eq rfl rfl) ?_
          refine .p rfl rfl (.mv rfl) ?_
          refine .caseD 33 rfl (fun c33 => ?_) (fun c33 => ?_)
          · refine .p rfl rfl (.mv rfl) ?_
            refine .p rfl rfl (.gt rfl rfl) ?_
            refine .p rfl rfl (.pickT rfl rfl) ?_
            refine .nil (.code (.keep [(36, _), (5, _), (6, _)] ⟨rfl, rfl, rfl, trivial⟩ ?_))
            refine .condD rfl (fun c36 => ?_) (fun c36 => ?_)
            · refine .exit rfl (.code (.seq (.keep [] trivial (.region ?_))))
              refine .p rfl rfl (.as rfl) ?_
              refine .p rfl rfl (.as rfl) ?_
              refine .p rfl rfl (.as rfl) ?_
              refine .nil (.code ?_)
              refine .ret _ rfl ?_
              rw [read_badz hi ha (by omega) (by omega)]
              exact ⟨rfl, .refl _⟩
            · refine .skip (.code (.seq (.keep [(5, _), (6, _)] ⟨rfl, rfl, trivial⟩ (.region ?_))))
              refine .p rfl rfl (.mv rfl) ?_
              refine .p rfl rfl (.mv rfl) ?_
              refine .p rfl rfl (.add rfl rfl (by omega)) ?_
              refine .p rfl rfl (.as rfl) ?_
              refine .p rfl rfl (.as rfl) ?_
              refine .p rfl rfl (.as rfl) ?_
              refine .nil (.code ?_)
              refine .ret _ rfl ?_
              rw [read_good hi hi9 ha (by omega) (by omega) (by omega)]
              exact ⟨rfl, .refl _⟩
          · refine .skip rfl rfl ?_
            refine .skip rfl rfl ?_
            refine .p rfl rfl (.pickF rfl rfl) ?_
            refine .nil (.code (.keep [(36, _), (5, _), (6, _)] ⟨rfl, rfl, rfl, trivial⟩ (.condF rfl (.skip (.code (.seq (.keep [(5, _), (6, _)] ⟨rfl, rfl, trivial⟩ (.region ?_))))))))
            refine .p rfl rfl (.mv rfl) ?_
            refine .p rfl rfl (.mv rfl) ?_
            refine .p rfl rfl (.add rfl rfl (by omega)) ?_
            refine .p rfl rfl (.as rfl) ?_
            refine .p rfl rfl (.as rfl) ?_
            refine .p rfl rfl (.as rfl) ?_
            refine .nil (.code ?_)
            refine .ret _ rfl ?_
            rw [read_good hi hi9 ha (by omega) (by omega) (by omega)]
            exact ⟨rfl, .refl _⟩
        · refine .skip (.blk (.code (.keep [(5, _), (8, _), (9, _), (10, _)] ⟨rfl, rfl, rfl, rfl, trivial⟩ (.region ?_))))
          refine .p rfl rfl (.add rfl rfl (by omega)) ?_
          refine .p rfl rfl (.mv rfl) ?_
          refine .nil ?_
          exact (again (i + 1) ⟨by omega, by omega, fun j hj hlt => by
            rcases Nat.lt_or_ge j i with h2 | h2
            · exact ha j hj h2
            · have : j = i := by omega
              subst this
              omega⟩ (by show _ - (i + 1) < _ - i; omega)).of ⟨rfl, rfl, rfl, rfl, trivial⟩
    · have hsb := sum_bd b hi9 (fun e => absurd (by omega) c17)
      refine .skip rfl rfl ?_
      refine .skip rfl rfl ?_
      refine .p rfl rfl (.pickF rfl rfl) ?_
      refine .nil (.code (.keep [(20, _), (7, _), (6, _), (5, _), (8, _), (9, _), (10, _)] ⟨rfl, rfl, rfl, rfl, rfl, rfl, rfl, trivial⟩ (.condF rfl (.skip (.code (.seq (.keep [(7, _), (6, _), (5, _), (8, _), (9, _), (10, _)] ⟨rfl, rfl, rfl, rfl, rfl, rfl, trivial⟩ (.region ?_))))))))
      refine .p rfl rfl (.mv rfl) ?_
      refine .p rfl rfl (.mv rfl) ?_
      refine .p rfl rfl (.and8 (b := 127) rfl rfl) ?_
      refine .p rfl rfl (.cast (.conv8_U rfl rfl rfl) (show _ = Value.int .u64 (((b.getD i 0).toNat % 128 : Nat) : Int) by rw [and127, getD_at hi])) ?_
      refine .p rfl rfl (.mv rfl) ?_
      refine .p rfl rfl (.cast (.mul rfl rfl (by omega)) (show _ = i64 ((7 * i : Nat) : Int) from congrArg i64 (by omega))) ?_
      refine .p rfl rfl (.cast (.shlU (7 * i) rfl rfl (by omega) (by rw [← pow_cast]; omega)) (show _ = Value.int .u64 (((b.getD i 0).toNat % 128 * 2 ^ (7 * i) : Nat) : Int) by rw [pow_cast])) ?_
      refine .p rfl rfl (.cast (.orU (p := sumTo b i) (q := (b.getD i 0).toNat % 128 * 2 ^ (7 * i)) rfl rfl hs0 (by omega)) (show _ = Value.int .u64 ((sumTo b (i + 1) : Nat) : Int) by rw [sum_or])) ?_
      refine .p rfl rfl (.as rfl) ?_
      refine .nil (.code (.seq (.keep [(5, _), (7, _), (6, _), (8, _), (9, _), (10, _)] ⟨rfl, rfl, rfl, rfl, rfl, rfl, trivial⟩ (.region ?_))))
      refine .p rfl rfl (.mv rfl) ?_
      refine .p rfl rfl (.lt rfl rfl) ?_
      refine .nil (.code (.keep [(30, _), (5, _), (7, _), (6, _), (8, _), (9, _), (10, _)] ⟨rfl, rfl, rfl, rfl, rfl, rfl, rfl, trivial⟩ ?_))
      refine .condD rfl (fun c30 => ?_) (fun c30 => ?_)
      · have hle := lead_eq hi ha (by omega)
        refine .seq (.seq (.keep [(5, _), (7, _), (6, _)] ⟨rfl, rfl, rfl, trivial⟩ (.region ?_)))
        refine .p rfl rfl (.mv rfl) ?_
        refine .p rfl rfl (.eq rfl rfl) ?_
        refine .p rfl rfl (.mv rfl) ?_
        refine .caseD 33 rfl (fun c33 => ?_) (fun c33 => ?_)
        · refine .p rfl rfl (.mv rfl) ?_
          refine .p rfl rfl (.gt rfl rfl) ?_
          refine .p rfl rfl (.pickT rfl rfl) ?_
          refine .nil (.code (.keep [(36, _), (5, _), (6, _)] ⟨rfl, rfl, rfl, trivial⟩ ?_))
          refine .condD rfl (fun c36 => ?_) (fun c36 => ?_)
          · refine .exit rfl (.code (.seq (.keep [] trivial (.region ?_))))
            refine .p rfl rfl (.as rfl) ?_
            refine .p rfl rfl (.as rfl) ?_
            refine .p rfl rfl (.as rfl) ?_
            refine .nil (.code ?_)
            refine .ret _ rfl ?_
            rw [read_badz hi ha (by omega) (by omega)]
            exact ⟨rfl, .refl _⟩
          · refine .skip (.code (.seq (.keep [(5, _), (6, _)] ⟨rfl, rfl, trivial⟩ (.region ?_))))
            refine .p rfl rfl (.mv rfl) ?_
            refine .p rfl rfl (.mv rfl) ?_
            refine .p rfl rfl (.add rfl rfl (by omega)) ?_
            refine .p rfl rfl (.as rfl) ?_
            refine .p rfl rfl (.as rfl) ?_
            refine .p rfl rfl (.as rfl) ?_
            refine .nil (.code ?_)
            refine .ret _ rfl ?_
            rw [read_good hi hi9 ha (by omega) (by omega) (by omega)]
            exact ⟨rfl, .refl _⟩
        · refine .skip rfl rfl ?_
          refine .skip rfl rfl ?_
          refine .p rfl rfl (.pickF rfl rfl) ?_
          refine .nil (.code (.keep [(36, _), (5, _), (6, _)] ⟨rfl, rfl, rfl, trivial⟩ (.condF rfl (.skip (.code (.seq (.keep [(5, _), (6, _)] ⟨rfl, rfl, trivial⟩ (.region ?_))))))))
          refine .p rfl rfl (.mv rfl) ?_
          refine .p rfl rfl (.mv rfl) ?_
          refine .p rfl rfl (.add rfl rfl (by omega)) ?_
          refine .p rfl rfl (.as rfl) ?_
          refine .p rfl rfl (.as rfl) ?_
          refine .p rfl rfl (.as rfl) ?_
          refine .nil (.code ?_)
          refine .ret _ rfl ?_
          rw [read_good hi hi9 ha (by omega) (by omega) (by omega)]
          exact ⟨rfl, .refl _⟩
      · refine .skip (.blk (.code (.keep [(5, _), (8, _), (9, _), (10, _)] ⟨rfl, rfl, rfl, rfl, trivial⟩ (.region ?_))))
        refine .p rfl rfl (.add rfl rfl (by omega)) ?_
        refine .p rfl rfl (.mv rfl) ?_
        refine .nil ?_
        exact (again (i + 1) ⟨by omega, by omega, fun j hj hlt => by
          rcases Nat.lt_or_ge j i with h2 | h2
          · exact ha j hj h2
          · have : j = i := by omega
            subst this
            omega⟩ (by show _ - (i + 1) < _ - i; omega)).of ⟨rfl, rfl, rfl, rfl, trivial⟩
  · refine .exit rfl (.code (.seq (.keep [] trivial (.region ?_))))
    refine .p rfl rfl (.as rfl) ?_
    refine .p rfl rfl (.as rfl) ?_
    refine .p rfl rfl (.as rfl) ?_
    refine .nil (.code ?_)
    refine .ret _ rfl ?_
    rw [read_bad0 (fun j hj => ha j hj (by omega))]
    exact ⟨rfl, .refl _⟩
theorem bClone_fn {w : World} {v : Value} {l : Bs} (h : tBytes.rep All w v l) : Fn Tryz.prog 40 [v] w (fun r w2 => Gr w2 r l w.heap.size ∧ Ext (fun _ => False) w w2) := by
  obtain ⟨a, cap, rfl, hcap⟩ := Sl.val h
  have hlim := Sl.lim h
  simp only [Lim] at hlim
  refine Fn.enter (fun w => Tryz.call40 _ w) Tryz.func40 rfl ?_
  refine .seq (.region ?_)
  refine .p rfl rfl (.as rfl) ?_
  refine .nil (.code (.seq (.seq (.keep [(0, _)] ⟨rfl, trivial⟩ (.region ?_)))))
  refine .p rfl rfl (.mv rfl) ?_
  refine .p rfl rfl (.eqNil rfl rfl rfl) ?_
  refine .nil (.code (.keep [(4, _), (0, _)] ⟨rfl, rfl, trivial⟩ ?_))
  refine .cond rfl (fun c4 => ?_) (fun c4 => ?_)
  · refine .seq (.keep [] trivial (.region ?_))
    refine .p rfl rfl (.as rfl) ?_
    refine .nil (.code ?_)
    refine .ret _ rfl ?_
    rw [Sl.isNone0 h c4]
    exact ⟨OwnO.nil, .refl _⟩
  · refine .skip (.code (.seq (.keep [(0, _)] ⟨rfl, trivial⟩ (.region ?_))))
    refine .v rfl rfl (.lits rfl rfl (fun _ => by kernel_rfl)) ?_
    rintro _ w5 ⟨rfl, N5⟩
    refine .p rfl rfl (.mv rfl) ?_
    refine .v rfl rfl (.appendLo (t := tByte) (Q := fun _ => False) (B := fun k => w.heap.size ≤ k) (eb := 1) rfl (OwnO.ofOwn (Own.ofNew (us := []) N5 .nil (by decide) rfl rfl) (fun _ => Nat.le_refl _)) (fun k hk => by have := N5.size; show w.heap.size ≤ k; omega) rfl (Sl.holds (tBytes.ext0 h N5.ext) (fun _ _ h => h)) rfl rfl rfl rfl rfl rfl rfl (by simp; omega) (by simp [Lim]; omega) (fun _ h _ => h.elim)) ?_
    rintro v7 w7 ⟨G7, Y7⟩
    refine .p rfl rfl (.as rfl) ?_
    refine .nil (.code ?_)
    refine .ret _ rfl ?_
    exact ⟨G7, N5.ext.then Y7 (fun k hk _ => hk)⟩
theorem Cut_fn {w : World} {v : Value} {b : Bs} (h : tBytes.rep All w v b) : Fn Tryz.prog 28 [v] w (fun r w2 => ∃ v', r = .tuple #[str (cutF b).1, v', i64 (cutF b).2.2] ∧ Gr w2 v' (cutF b).2.1 w.heap.size ∧ Ext (fun _ => False) w w2) := by
  obtain ⟨a, cap, rfl, hcap⟩ := Sl.val h
  obtain ⟨hr1, hr2⟩ := readF_bd b
  have hlim := Sl.lim h
  simp only [Lim] at hlim
  refine Fn.enter (fun w => Tryz.call28 _ w) Tryz.func28 rfl ?_
  refine .seq (.region ?_)
  refine .p rfl rfl (.as rfl) ?_
  refine .p rfl rfl (.as rfl) ?_
  refine .p rfl rfl (.as rfl) ?_
  refine .nil (.code (.seq (.keep [(0, _)] ⟨rfl, trivial⟩ (.region ?_))))
  refine .p rfl rfl (.mv rfl) ?_
  refine .call (first := []) (captured := []) rfl rfl rfl rfl (Read_fn h) ?_
  rintro _ w10 ⟨rfl, X10⟩
  have z10 := X10.size
  refine .p rfl rfl (.mv rfl) ?_
  refine .p rfl rfl (.extract rfl rfl) ?_
  refine .p rfl rfl (.extract rfl rfl) ?_
  refine .p rfl rfl (.extract rfl rfl) ?_
  refine .p rfl rfl (.as rfl) ?_
  refine .p rfl rfl (.as rfl) ?_
  refine .p rfl rfl (.as rfl) ?_
  refine .nil (.code (.seq (.seq (.keep [(7, _), (6, _), (5, _), (0, _)] ⟨rfl, rfl, rfl, rfl, trivial⟩ (.region ?_)))))
  refine .p rfl rfl (.mv rfl) ?_
  refine .p rfl rfl (.ne rfl rfl) ?_
  refine .p rfl rfl (.mv rfl) ?_
  refine .caseD 16 rfl (fun c16 => ?_) (fun c16 => ?_)
  · refine .skip rfl rfl ?_
    refine .skip rfl rfl ?_
    refine .skip rfl rfl ?_
    refine .skip rfl rfl ?_
    refine .skip rfl rfl ?_
    refine .skip rfl rfl ?_
    refine .skip rfl rfl ?_
    refine .p rfl rfl (.pickT rfl rfl) ?_
    refine .nil (.code (.keep [(24, _), (6, _), (5, _), (0, _)] ⟨rfl, rfl, rfl, rfl, trivial⟩ (.condT rfl (.seq (.keep [] trivial (.region ?_))))))
    refine .p rfl rfl (.as rfl) ?_
    refine .p rfl rfl (.as rfl) ?_
    refine .p rfl rfl (.as rfl) ?_
    refine .nil (.code ?_)
    refine .ret _ rfl ?_
    exact ⟨_, by unfold cutF; rw [if_pos (.inl c16)]; rfl, by unfold cutF; rw [if_pos (.inl c16)]; exact OwnO.nil, X10⟩
  · refine .p rfl rfl (.mv rfl) ?_
    refine .p rfl rfl (.mv rfl) ?_
    refine .p rfl rfl (.len rfl rfl) ?_
    refine .p rfl rfl (.mv rfl) ?_
    refine .p rfl rfl (.sub rfl rfl (by omega)) ?_
    refine .p rfl rfl (.convU rfl rfl rfl (by omega)) ?_
    refine .p rfl rfl (.gt rfl rfl) ?_
    refine .p rfl rfl (.pickF rfl rfl) ?_
    refine .nil (.code (.keep [(24, _), (6, _), (5, _), (0, _)] ⟨rfl, rfl, rfl, rfl, trivial⟩ ?_))
    refine .condD rfl (fun c24 => ?_) (fun c24 => ?_)
    · refine .seq (.keep [] trivial (.region ?_))
      refine .p rfl rfl (.as rfl) ?_
      refine .p rfl rfl (.as rfl) ?_
      refine .p rfl rfl (.as rfl) ?_
      refine .nil (.code ?_)
      refine .ret _ rfl ?_
      exact ⟨_, by unfold cutF; rw [if_pos (.inr (by omega))]; rfl, by unfold cutF; rw [if_pos (.inr (by omega))]; exact OwnO.nil, X10⟩
    · obtain ⟨a27, c27, hv27, hc27, R27⟩ := Sl.cutE h (readF b).2.1 b.length (by omega) (by omega)
      rw [List.take_length] at R27
      obtain ⟨a30, c30, hv30, hc30, R30⟩ := Sl.cutE R27 0 (readF b).1 (by omega) (by omega)
      rw [List.drop_zero] at R30
      obtain ⟨a34, c34, hv34, hc34, R34⟩ := Sl.cutE R27 (readF b).1 (b.length - (readF b).2.1) (by omega) (by omega)
      rw [List.take_of_length_le (by simp)] at R34
      refine .skip (.code (.seq (.keep [(6, _), (5, _), (0, _)] ⟨rfl, rfl, rfl, trivial⟩ (.region ?_))))
      refine .p rfl rfl (.mv rfl) ?_
      refine .p rfl rfl (.mv rfl) ?_
      refine .p rfl rfl (.cast (.cutLo (s := 1) rfl rfl rfl rfl (by omega)) (show cutV 1 a cap ((readF b).2.1 : Int).toNat b.length = .slice a27 (b.length - (readF b).2.1) c27 by rw [Int.toNat_natCast]; exact hv27)) ?_
      refine .p rfl rfl (.as rfl) ?_
      refine .nil (.code (.seq (.keep [(0, _), (5, _)] ⟨rfl, rfl, trivial⟩ (.mix (fun _ => False) [7] (by kernel_rfl) (by kernel_rfl) (by kernel_rfl) ?_))))
      refine .p rfl rfl rfl (fun wx hx => .mv rfl) ?_
      refine .p rfl rfl rfl (fun wx hx => .mv rfl) ?_
      refine .p rfl rfl rfl (fun wx hx => .cast (.cutHi (s := 1) rfl rfl rfl rfl (by omega)) (show cutV 1 a27 c27 0 ((readF b).1 : Int).toNat = .slice a30 ((readF b).1 - 0) c30 by rw [Int.toNat_natCast]; exact hv30)) ?_
      refine .p rfl rfl rfl (fun wx hx => .bytesStr rfl (tBytes.ext0 R30 (X10.trans hx)) rfl rfl rfl) ?_
      refine .p rfl rfl rfl (fun wx hx => .mv rfl) ?_
      refine .p rfl rfl rfl (fun wx hx => .mv rfl) ?_
      refine .p rfl rfl rfl (fun wx hx => .cast (.cutLo (s := 1) rfl rfl rfl rfl (by omega)) (show cutV 1 a27 c27 ((readF b).1 : Int).toNat (b.length - (readF b).2.1) = .slice a34 (b.length - (readF b).2.1 - (readF b).1) c34 by rw [Int.toNat_natCast]; exact hv34)) ?_
      refine .call (first := []) (captured := []) rfl rfl rfl rfl rfl (bClone_fn (tBytes.ext0 R34 X10)) (by rintro _ _ ⟨_, hx⟩; exact hx) ?_
      rintro r35 w35 ⟨G35, X35⟩
      refine .p rfl rfl rfl (fun wx hx => .as rfl) ?_
      refine .p rfl rfl rfl (fun wx hx => .as rfl) ?_
      refine .p rfl rfl rfl (fun wx hx => .as rfl) ?_
      refine .nil (.code ?_)
      refine .ret _ rfl ?_
      have e : cutF b = ((b.drop (readF b).2.1).take (readF b).1, (b.drop (readF b).2.1).drop (readF b).1, 0) := by unfold cutF; rw [if_neg (fun h => h.elim c16 (by omega))]
      rw [e]
      exact ⟨_, rfl, Gr.low G35 z10, X10.trans X35⟩
end Go.Proofs.YthliepcjfnjnoaaGreatDoor
