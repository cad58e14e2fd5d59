import Derived.Test.YtpfehnopghffjaaGreatDoorQ04
import Derived.MapKept
import Derived.Test.YtpfehnopghffjaaGreatDoorQ15
import Derived.Test.YtpfehnopghffjaaGreatDoorQ05
import Derived.Test.YtpfehnopghffjaaGreatDoorQ14
set_option linter.unusedVariables false
set_option linter.unusedSimpArgs false
set_option maxRecDepth 20000
/-
  Maps: made, asked, written.
-/
namespace Go.Proofs.YtpfehnopghffjaaGreatDoor
open Go Go.MapKept
/-- a map's entries, in the order in which they came; K: a key as a value -/
def MapV {κ : Type} (K : κ → Value) (w : World) (m : Nat) (kvs : List (κ × Value)) : Prop :=
  ∃ es clock, w.heap[m]? = some (.map es clock) ∧ es.toList.map (fun e => (e.key, e.val)) = kvs.map (fun p => (K p.1, p.2)) ∧ (kvs.map (·.1)).Nodup
section
variable {κ : Type} {K : κ → Value} {w w' : World} {m : Nat} {kvs : List (κ × Value)} {P : Program} {e : Env} {x y z : Operand} {T kt et : TypeId} {d : TypeDesc} {k : κ} {v : Value}
theorem MapV.lt (h : MapV K w m kvs) : m < w.heap.size := by
  obtain ⟨es, c, h1, _⟩ := h
  exact (Array.getElem?_eq_some_iff.1 h1).1
theorem MapV.ext {S : Nat → Prop} (h : MapV K w m kvs) (hx : Ext S w w') (hs : ¬ S m) : MapV K w' m kvs := by
  have hl := h.lt
  obtain ⟨es, c, h1, h2⟩ := h
  exact ⟨es, c, (hx.block m hl hs).trans h1, h2⟩
theorem MapV.keys (h : MapV K w m kvs) (hK : ∀ a, IsKey d (K a)) : ∃ es clock, w.heap[m]? = some (.map es clock) ∧ es.toList.map (fun e => (e.key, e.val)) = kvs.map (fun p => (K p.1, p.2)) ∧ (∀ x ∈ es.toList, IsKey d x.key ∧ ∃ p ∈ kvs, x.key = K p.1 ∧ x.val = p.2) := by
  obtain ⟨es, c, h1, h2, h3⟩ := h
  refine ⟨es, c, h1, h2, fun x hx => ?_⟩
  have : (x.key, x.val) ∈ es.toList.map (fun e => (e.key, e.val)) := List.mem_map.2 ⟨x, hx, rfl⟩
  rw [h2] at this
  obtain ⟨p, hp, he⟩ := List.mem_map.1 this
  simp only [Prod.mk.injEq] at he
  exact ⟨he.1 ▸ hK p.1, p, hp, he.1.symm, he.2.symm⟩
theorem run_look (h : MapV K w m kvs) (hK : ∀ a, IsKey d (K a)) (hinj : ∀ a b, K a = K b → a = b) (hT : P.underlying T = some (.map kt et)) (hk : P.underlying kt = some d) {ti : TypeInfo} {z0 : Value} (hE : P.info? et = some ti) (hz : ti.zero = some z0) (k : κ) :
    ((∃ p ∈ kvs, p.1 = k ∧ (Instr.lookup T (.map (some m)) (K k) false).run P w = .ok p.2 w) ∨ ((∀ p ∈ kvs, p.1 ≠ k) ∧ (Instr.lookup T (.map (some m)) (K k) false).run P w = .ok z0 w)) := by
  obtain ⟨es, c, h1, h2, h4⟩ := h.keys hK
  rcases findNow_spec (hK k) es.toList 0 (fun x hx => (h4 x hx).1) with ⟨f1, f2⟩ | ⟨j, e0, f1, f2, f3⟩
  · refine .inr ⟨fun p hp hpk => ?_, ?_⟩
    · have : (K p.1, p.2) ∈ es.toList.map (fun e => (e.key, e.val)) := by rw [h2]; exact List.mem_map.2 ⟨p, hp, rfl⟩
      obtain ⟨x, hx, he⟩ := List.mem_map.1 this
      simp only [Prod.mk.injEq] at he
      exact f2 x hx (by rw [he.1, hpk])
    · simp [Instr.lookup, run_underlying hT, MapKept.run_getObj_map h1, run_checkKey hk (hK k), run_findKey hk f1, zeroValue, typeInfo, hE, hz, Result.andThen]
  · obtain ⟨_, p, hp, he, hv⟩ := h4 e0 (List.mem_of_getElem? f2)
    refine .inl ⟨p, hp, hinj _ _ (he.symm.trans f3), ?_⟩
    rw [← hv]
    simp [Instr.lookup, run_underlying hT, MapKept.run_getObj_map h1, run_checkKey hk (hK k), run_findKey hk f1, Result.andThen]
theorem Ev.lookSet {ks : List κ} [Decidable (k ∈ ks)] (h : MapV K w m (ks.map (fun k => (k, .bool true)))) (hK : ∀ a, IsKey d (K a)) (hinj : ∀ a b, K a = K b → a = b) (hx : look e x = some (.map (some m))) (hy : look e y = some (K k)) (hT : P.underlying T = some (.map kt et)) (hk : P.underlying kt = some d) {ti : TypeInfo} (hE : P.info? et = some ti) (hz : ti.zero = some (.bool false)) :
    Ev P e (.lookup T x y false) w (.bool (decide (k ∈ ks))) := by
  intro w' hw ρ hρ o ho
  have hr := run_look (P := P) (h.ext hw (fun x => x)) hK hinj hT hk hE hz k
  have : (Instr.lookup T (.map (some m)) (K k) false).run P w' = .ok (.bool (decide (k ∈ ks))) w' := by
    rcases hr with ⟨p, hp, rfl, h1⟩ | ⟨h1, h2⟩
    · obtain ⟨q, hq, rfl⟩ := List.mem_map.1 hp
      rw [h1, decide_eq_true hq]
    · rw [h2, decide_eq_false (fun hm => h1 _ (List.mem_map.2 ⟨k, hm, rfl⟩) rfl)]
  simp [execOp, ho, hρ _ _ hx, hρ _ _ hy, this]
theorem DoV.makeMap (hT : True) : DoV P e (.makeMap T none) w (fun r w2 => r = .map (some w.heap.size) ∧ MapV K w2 w.heap.size [] ∧ Ext (fun _ => False) w w2 ∧ w2.heap.size = w.heap.size + 1) := by
  intro w' hw ρ hρ o ho
  refine ⟨_, w.alloc (.map #[] 0), w'.alloc (.map #[] 0), ?_, hw.alloc _, rfl, ⟨#[], 0, (heap_alloc w _).1, rfl, List.nodup_nil⟩, Ext.alloc w _, by simp⟩
  simp [execOp, ho, Instr.makeMap, newObj, Sem.run, hw.heap, World.alloc, Result.andThen]
theorem DoS.mapPush (h : MapV K w m kvs) (hK : ∀ a, IsKey d (K a)) (hinj : ∀ a b, K a = K b → a = b) (hn : ∀ p ∈ kvs, p.1 ≠ k) (hx : look e x = some (.map (some m))) (hy : look e y = some (K k)) (hz : look e z = some v) (hT : P.underlying T = some (.map kt et)) (hk : P.underlying kt = some d) :
    DoS P e (.mapUpdate T x y z) w (fun w2 => MapV K w2 m (kvs ++ [(k, v)]) ∧ Ext (· = m) w w2 ∧ w2.heap.size = w.heap.size) := by
  intro w' hw ρ hρ o ho
  obtain ⟨es, c, h1, h2, h3⟩ := h
  obtain ⟨es', c', g1, g2, g4⟩ := MapV.keys (d := d) (K := K) (w := w') (m := m) (kvs := kvs) ⟨es, c, by rw [hw.heap]; exact h1, h2, h3⟩ hK
  rw [hw.heap, h1] at g1
  cases g1
  have f := findNow_spec (hK k) es.toList 0 (fun x hx => (g4 x hx).1)
  rcases f with ⟨f1, f2⟩ | ⟨j, e0, f1, f2, f3⟩
  · have hset := heap_set (o' := .map (es.push ⟨K k, v, c⟩) (c + 1)) h1
    refine ⟨{ w with heap := w.heap.setIfInBounds m (.map (es.push ⟨K k, v, c⟩) (c + 1)) }, { w' with heap := w'.heap.setIfInBounds m (.map (es.push ⟨K k, v, c⟩) (c + 1)) }, ?_, ⟨by simp [hw.heap], hw.os, hw.tape, hw.output⟩, ⟨_, _, hset.1, ?_, ?_⟩, ⟨rfl, rfl, rfl, by simp, fun b _ hb => hset.2 b hb⟩, by simp⟩
    · have hb' : w'.heap[m]? = some (.map es c) := by rw [hw.heap]; exact h1
      simp [execOp, ho, hρ _ _ hx, hρ _ _ hy, hρ _ _ hz, Instr.mapUpdate, run_underlying hT, MapKept.run_getObj_map hb', run_checkKey hk (hK k), run_findKey hk f1, MapKept.run_setObj_map _ hb', Result.andThen]
    · rw [Array.toList_push, List.map_append, h2, List.map_append]
      rfl
    · rw [List.map_append, List.nodup_append]
      refine ⟨h3, by simp, fun a ha b hb => ?_⟩
      obtain ⟨p, hp, rfl⟩ := List.mem_map.1 ha
      simp only [List.map_cons, List.map_nil, List.mem_singleton] at hb
      rw [hb]
      exact hn p hp
  · exfalso
    obtain ⟨_, p, hp, he, _⟩ := g4 e0 (List.mem_of_getElem? f2)
    exact hn p hp (hinj _ _ (he.symm.trans f3))
end
theorem str_key (a : Bs) : IsKey .string (str a) := trivial
theorem str_inj' (a b : Bs) (h : str a = str b) : a = b := by
  have h1 : bs a = bs b := Value.string.inj h
  have := congrArg (fun z : ByteArray => z.data.toList) h1
  simpa [bs] using this
end Go.Proofs.YtpfehnopghffjaaGreatDoor
/-
  Package tree: Write.
-/
namespace Go.Proofs.YtpfehnopghffjaaGreatDoor
open Go
namespace tree
structure Change where
  key : Bs
  value : Bs
  gone : Bool
deriving DecidableEq
def tChange : Ty Change := (tStr.pair (tStr.pair tBool)).map (fun x => (x.key, x.value, x.gone))
theorem tChange.val {P : Nat → Prop} {w : World} {v : Value} {x : Change} (h : tChange.rep P w v x) : v = .agg #[str x.key, str x.value, .bool x.gone] ∧ x.key.length < Lim ∧ x.value.length < Lim := by
  obtain ⟨_, _, rfl, ⟨rfl, h1⟩, _, _, rfl, ⟨rfl, h2⟩, rfl⟩ := h
  exact ⟨rfl, h1, h2⟩
theorem tChange.mk {P : Nat → Prop} {w : World} {x : Change} (h1 : x.key.length < Lim) (h2 : x.value.length < Lim) : tChange.rep P w (.agg #[str x.key, str x.value, .bool x.gone]) x :=
  ⟨str x.key, .agg #[str x.value, .bool x.gone], rfl, ⟨rfl, h1⟩, str x.value, .bool x.gone, rfl, ⟨rfl, h2⟩, rfl⟩
def oneC (seen : List Bs) (c : Change) : Int := if c.key = [] ∨ 256 < c.key.length then 60 else if 4096 < c.value.length then 3 else if (c.gone = true ∧ ¬ c.value = []) ∨ c.key ∈ seen then 8 else 0
def chgC : List Bs → List Change → Int
  | _, [] => 0
  | seen, c :: r => if ¬ oneC seen c = 0 then oneC seen c else chgC (seen ++ [c.key]) r
def recB (c : Change) : Bs := textF c.key ++ (if c.gone = true then [1] else 0 :: textF c.value)
def preC (l : List Change) (seq : Int) : Bs := smallF seq.toNat ++ smallF l.length
def bodyC (l : List Change) (seq : Int) : Bs := preC l seq ++ l.flatMap recB
def wF (l : List Change) (seq : Int) : Bs × Int :=
  if seq < 1 ∨ 2147483647 < seq then ([], 2) else if 64 < l.length then ([], 4) else if l.length = 0 then ([], 6) else if ¬ chgC [] l = 0 then ([], chgC [] l) else if 4096 < (bodyC l seq).length then ([], 3) else (bodyC l seq, 0)
theorem wF_2 {l : List Change} {seq : Int} (h : seq < 1 ∨ 2147483647 < seq) : wF l seq = ([], 2) := by unfold wF; rw [if_pos h]
theorem wF_4 {l : List Change} {seq : Int} (h : ¬ (seq < 1 ∨ 2147483647 < seq)) (h2 : 64 < l.length) : wF l seq = ([], 4) := by unfold wF; rw [if_neg h, if_pos h2]
theorem wF_6 {l : List Change} {seq : Int} (h : ¬ (seq < 1 ∨ 2147483647 < seq)) (h2 : l.length = 0) : wF l seq = ([], 6) := by unfold wF; rw [if_neg h, if_neg (by omega), if_pos h2]
theorem wF_c {l : List Change} {seq e : Int} (h : ¬ (seq < 1 ∨ 2147483647 < seq)) (h2 : ¬ 64 < l.length) (h3 : ¬ l.length = 0) (hc : chgC [] l = e) (he : ¬ e = 0) : wF l seq = ([], e) := by unfold wF; rw [if_neg h, if_neg h2, if_neg h3, if_pos (by rw [hc]; exact he), hc]
theorem wF_3 {l : List Change} {seq : Int} (h : ¬ (seq < 1 ∨ 2147483647 < seq)) (h2 : ¬ 64 < l.length) (h3 : ¬ l.length = 0) (hc : chgC [] l = 0) (hb : 4096 < (bodyC l seq).length) : wF l seq = ([], 3) := by unfold wF; rw [if_neg h, if_neg h2, if_neg h3, if_neg (by rw [hc]; exact fun x => x rfl), if_pos hb]
theorem wF_0 {l : List Change} {seq : Int} (h : ¬ (seq < 1 ∨ 2147483647 < seq)) (h2 : ¬ 64 < l.length) (h3 : ¬ l.length = 0) (hc : chgC [] l = 0) (hb : ¬ 4096 < (bodyC l seq).length) : wF l seq = (bodyC l seq, 0) := by unfold wF; rw [if_neg h, if_neg h2, if_neg h3, if_neg (by rw [hc]; exact fun x => x rfl), if_neg hb]
theorem chg_step {l : List Change} {seen : List Bs} {i : Nat} (h : i < l.length) : chgC seen (l.drop i) = if ¬ oneC seen l[i] = 0 then oneC seen l[i] else chgC (seen ++ [l[i].key]) (l.drop (i + 1)) := by
  rw [List.drop_eq_getElem_cons h, chgC]
theorem chg_err {l : List Change} {seen : List Bs} {i : Nat} {e : Int} (h : i < l.length) (hchg : chgC [] l = chgC seen (l.drop i)) (he : oneC seen l[i] = e) (h0 : ¬ e = 0) : chgC [] l = e := by
  rw [hchg, chg_step h, if_pos (by rw [he]; exact h0), he]
theorem chg_ok {l : List Change} {seen : List Bs} {i : Nat} (h : i < l.length) (hchg : chgC [] l = chgC seen (l.drop i)) (he : oneC seen l[i] = 0) : chgC [] l = chgC (seen ++ [l[i].key]) (l.drop (i + 1)) := by
  rw [hchg, chg_step h, if_neg (by rw [he]; exact fun x => x rfl)]
theorem recB_len {c : Change} (h1 : c.key.length ≤ 256) (h2 : c.value.length ≤ 4096) : (recB c).length ≤ 4400 := by
  have h3 := smallF_length c.key.length
  have h4 := smallF_length c.value.length
  unfold recB textF
  split <;> simp <;> omega
theorem recB_T {c : Change} (h : c.gone = true) : recB c = textF c.key ++ [1] := by unfold recB; rw [if_pos h]
theorem recB_F {c : Change} (h : c.gone = false) : recB c = textF c.key ++ 0 :: textF c.value := by unfold recB; rw [if_neg (by rw [h]; exact Bool.false_ne_true)]
theorem keys_step {l : List Change} {i : Nat} (h : i < l.length) : (l.take (i + 1)).map (·.key) = (l.take i).map (·.key) ++ [l[i].key] := by
  rw [List.take_succ_eq_append_getElem h, List.map_append]
  rfl
theorem recs_step {l : List Change} {i : Nat} (h : i < l.length) : (l.take (i + 1)).flatMap recB = (l.take i).flatMap recB ++ recB l[i] := by
  rw [List.take_succ_eq_append_getElem h, List.flatMap_append]
  simp
theorem oneC_ok {seen : List Bs} {c : Change} (h : oneC seen c = 0) : c.key ≠ [] ∧ c.key.length ≤ 256 ∧ c.value.length ≤ 4096 ∧ (c.gone = true → c.value = []) ∧ c.key ∉ seen := by
  unfold oneC at h
  split at h
  · omega
  · rename_i h1
    split at h
    · omega
    · split at h
      · omega
      · rename_i h3
        exact ⟨fun e => h1 (.inl e), by omega, by omega, fun e => Decidable.byContradiction (fun e2 => h3 (.inl ⟨e, e2⟩)), fun e => h3 (.inr e)⟩
theorem textF_len (l : Bs) : (textF l).length ≤ 10 + l.length := by
  have := smallF_length l.length
  simp [textF]
  omega
end tree
open tree
end Go.Proofs.YtpfehnopghffjaaGreatDoor
/-
  Package tree: Read.
-/
namespace Go.Proofs.YtpfehnopghffjaaGreatDoor
open Go page tree
namespace tree
def entT (k : Bs × RS) : Change × RS :=
  if (flagP k.2).1 = 1 then (⟨k.1, [], true⟩, (flagP k.2).2) else (⟨k.1, (textP (flagP k.2).2).1, false⟩, (textP (flagP k.2).2).2)
def loopT : Nat → List Change → RS → Option (List Change)
  | 0, acc, s => if s.2 = true then none else some acc
  | n + 1, acc, s => if (textP s).2.2 = true ∨ (textP s).2.1 = [] then none else loopT n (acc ++ [(entT (textP s)).1]) (entT (textP s)).2
def readT (s : Bs) : List Change × Int × Int :=
  match loopT (numP 64 (numP 2147483647 (s, false)).2).1 [] (numP 64 (numP 2147483647 (s, false)).2).2 with
  | none => ([], 0, 8)
  | some l => if ¬ (wF l (numP 2147483647 (s, false)).1).2 = 0 ∨ ¬ (wF l (numP 2147483647 (s, false)).1).1 = s then ([], 0, 8) else (l, ((numP 2147483647 (s, false)).1 : Int), 0)
theorem readT_none {s : Bs} (hl : loopT (numP 64 (numP 2147483647 (s, false)).2).1 [] (numP 64 (numP 2147483647 (s, false)).2).2 = none) : readT s = ([], 0, 8) := by unfold readT; rw [hl]
theorem readT_some {s : Bs} {l : List Change} (hl : loopT (numP 64 (numP 2147483647 (s, false)).2).1 [] (numP 64 (numP 2147483647 (s, false)).2).2 = some l) : readT s = if ¬ (wF l (numP 2147483647 (s, false)).1).2 = 0 ∨ ¬ (wF l (numP 2147483647 (s, false)).1).1 = s then ([], 0, 8) else (l, ((numP 2147483647 (s, false)).1 : Int), 0) := by unfold readT; rw [hl]
theorem loopT_0 (acc : List Change) (s : RS) : loopT 0 acc s = if s.2 = true then none else some acc := by rw [loopT]
theorem loopT_T {n : Nat} {acc : List Change} {s : RS} (h : (textP s).2.2 = true ∨ (textP s).2.1 = []) : loopT (n + 1) acc s = none := by rw [loopT, if_pos h]
theorem loopT_F {n : Nat} {acc : List Change} {s : RS} (h : ¬ ((textP s).2.2 = true ∨ (textP s).2.1 = [])) : loopT (n + 1) acc s = loopT n (acc ++ [(entT (textP s)).1]) (entT (textP s)).2 := by rw [loopT, if_neg h]
theorem loopT_bad : ∀ {n : Nat} {acc : List Change} {s : RS}, s.2 = true → loopT n acc s = none
  | 0, acc, s, h => by rw [loopT_0, if_pos h]
  | n + 1, acc, s, h => loopT_T (.inl (by show (s.2 || _) = true; rw [h]; rfl))
theorem entT_1 {key : Bs} {x : UInt8} {r : Bs} {z : Bool} (h : x = 1) : entT (key, (x :: r, z)) = (⟨key, [], true⟩, (r, z)) := by subst h; rfl
theorem entT_0 {key : Bs} {x : UInt8} {r : Bs} {z : Bool} (h : ¬ x = 1) : entT (key, (x :: r, z)) = (⟨key, (textP (r, z)).1, false⟩, (textP (r, z)).2) := by
  unfold entT
  rw [show flagP (key, (x :: r, z)).2 = (x, (r, z)) from rfl]
  simp only
  rw [if_neg h]
theorem entT_len {key : Bs} {x : UInt8} {r : Bs} {z : Bool} : (entT (key, (x :: r, z))).1.key = key ∧ (entT (key, (x :: r, z))).1.value.length + (entT (key, (x :: r, z))).2.1.length ≤ r.length := by
  by_cases h : x = 1
  · rw [entT_1 h]
    exact ⟨rfl, by simp⟩
  · rw [entT_0 h]
    exact ⟨rfl, textP_le (r, z)⟩
end tree
/-- the two variables of a reader -/
def RT (w : World) (p q : Nat) (P : Nat → Prop) (s : RS) : Prop := ∃ v, Blk w p 25 [v] ∧ tBytes.rep P w v s.1 ∧ Blk w q 4 [.bool s.2]
theorem RT.ext {S : Nat → Prop} {w w' : World} {p q : Nat} {P : Nat → Prop} {s : RS} (h : RT w p q P s) (hx : Ext S w w') (hp : ¬ S p) (hq : ¬ S q) (hs : ∀ k, P k → k < w.heap.size → ¬ S k) : RT w' p q P s := by
  obtain ⟨v, h1, h2, h3⟩ := h
  exact ⟨v, h1.ext hx hp, tBytes.ext h2 hx hs, h3.ext hx hq⟩
theorem RT.ext0 {w w' : World} {p q : Nat} {P : Nat → Prop} {s : RS} (h : RT w p q P s) (hx : Ext (fun _ => False) w w') : RT w' p q P s := h.ext hx (fun x => x) (fun x => x) (fun _ _ _ x => x)
theorem RT.mono {w : World} {p q : Nat} {P P' : Nat → Prop} {s : RS} (h : RT w p q P s) (hs : ∀ k, P k → k < w.heap.size → P' k) : RT w p q P' s := by
  obtain ⟨v, h1, h2, h3⟩ := h
  exact ⟨v, h1, tBytes.mono h2 hs, h3⟩
theorem RT.lt {w : World} {p q : Nat} {P : Nat → Prop} {s : RS} (h : RT w p q P s) : p < w.heap.size ∧ q < w.heap.size := by
  obtain ⟨v, h1, _, h3⟩ := h
  exact ⟨h1.lt, h3.lt⟩
end Go.Proofs.YtpfehnopghffjaaGreatDoor
/-
  bits.Get: a number out of eight bytes.
-/
namespace Go.Proofs.YtpfehnopghffjaaGreatDoor
open Go
theorem Get_fn {w : World} {v : Value} {l : Bs} (h : tBytes.rep All w v l) : Fn Tryz.prog 58 [v] w (fun r w2 => r = .tuple #[.int .u64 (if l.length = 8 then getTo l 8 else 0 : Nat), i64 (if l.length = 8 then 0 else 8)] ∧ Ext (fun _ => False) w w2) := by
  obtain ⟨a, cap, rfl, hcap⟩ := Sl.val h
  refine Fn.enter (fun w => Tryz.call58 _ w) Tryz.func58 rfl ?_
  refine .seq (.region ?_)
  refine .p rfl rfl (.as rfl) ?_
  refine .p rfl rfl (.as rfl) ?_
  refine .nil (.code (.seq (.seq (.keep [(0, _)] ⟨rfl, trivial⟩ (.region ?_)))))
  refine .p rfl rfl (.mv rfl) ?_
  refine .p rfl rfl (.len rfl rfl) ?_
  refine .p rfl rfl (.ne rfl rfl) ?_
  refine .nil (.code (.keep [(10, _), (0, _)] ⟨rfl, rfl, trivial⟩ ?_))
  refine .condD rfl (fun c10 => ?_) (fun c10 => ?_)
  · refine .seq (.keep [] trivial (.region ?_))
    refine .p rfl rfl (.as rfl) ?_
    refine .p rfl rfl (.as rfl) ?_
    refine .nil (.code ?_)
    refine .ret _ rfl ?_
    rw [if_neg (by omega), if_neg (by omega)]
    exact ⟨rfl, .refl _⟩
  · have hl8 : l.length = 8 := by omega
    obtain ⟨b, o, ha, hcs⟩ : ∃ b o, a = some ⟨b, o, none⟩ ∧ Cells w b o (l.map u8) := by
      obtain ⟨_, a', cap', hv, _, h'⟩ := Sl.bytes h
      cases hv
      rcases h' with ⟨rfl, _⟩ | ⟨b, o, rfl, _, _, hc⟩
      · cases hl8
      · exact ⟨b, o, rfl, hc⟩
    subst ha
    refine .skip (.code (.seq (.keep [(0, _)] ⟨rfl, trivial⟩ (.region ?_))))
    refine .p rfl rfl (.mv rfl) ?_
    refine .p rfl rfl (.arrPtr rfl rfl (by omega)) ?_
    refine .p rfl rfl (.loadA (n := 8) rfl rfl rfl rfl (by simp; omega) hcs) ?_
    refine .v rfl rfl (.alloc rfl rfl) ?_
    rintro _ w4 ⟨rfl, N4⟩
    refine .s rfl (.storeAll (n := 8) rfl rfl rfl (by simp; omega) (by simp [Value.oneCell']) N4.blk (by rw [List.length_map, hl8]; rfl)) ?_
    intro w14 P14
    have X14 := N4.ext.then P14.ext (by rintro k rfl _; omega)
    refine .nil (.code (.seq (.keep [(4, _)] ⟨rfl, trivial⟩ (.region ?_))))
    refine .p rfl rfl (.as rfl) ?_
    refine .nil (.code (.seq (.seq (.region ?_))))
    refine .p rfl rfl (.loadA (n := 8) rfl rfl rfl rfl (by simp; omega) P14.blk.cells) ?_
    refine .p rfl rfl (.mv rfl) ?_
    refine .nil (.code (.block (.keep [(15, _), (14, _), (5, _)] ⟨rfl, rfl, rfl, trivial⟩ ?_)))
    refine .loop (S := Nat) (fun s => [(15, i64 s), (14, .agg (l.map u8).toArray), (5, .int .u64 (getTo l s : Nat))]) (fun s => w14) (fun s => s ≤ 8) (fun s => 8 - s) 0 ⟨rfl, rfl, rfl, trivial⟩ rfl (Nat.zero_le _) ?_
    intro i J hi again
    refine .seq (.region ?_)
    refine .p rfl rfl (.lt rfl rfl) ?_
    refine .nil (.code (.seq ?_))
    refine .condD rfl (fun c16 => ?_) (fun c16 => ?_)
    · have hterm := getTo_term l (i := i) (by omega)
      have hsh : 0 ≤ ((l.getD i 0).toNat : Int) * 2 ^ (8 * i) ∧ ((l.getD i 0).toNat : Int) * 2 ^ (8 * i) ≤ 18446744073709551615 := by
        have : ((l.getD i 0).toNat : Int) * 2 ^ (8 * i) = (((l.getD i 0).toNat * 2 ^ (8 * i) : Nat) : Int) := by simp
        rw [this]
        omega
      refine .skip (.code (.seq (.block (.seq (.keep [(15, _), (14, _), (5, _)] ⟨rfl, rfl, rfl, trivial⟩ (.region ?_))))))
      refine .p rfl rfl (.mv rfl) ?_
      refine .p rfl rfl (.idxA (v := u8 (l.getD i 0)) rfl rfl rfl rfl rfl rfl (by omega) (by simp [List.getElem?_eq_getElem (show i < l.length by omega)])) ?_
      refine .p rfl rfl (.as rfl) ?_
      refine .p rfl rfl (.as rfl) ?_
      refine .nil (.code (.keep [(7, _), (6, _), (15, _), (14, _), (5, _)] ⟨rfl, rfl, rfl, rfl, rfl, trivial⟩ (.region ?_)))
      refine .p rfl rfl (.mv rfl) ?_
      refine .p rfl rfl (.mv rfl) ?_
      refine .p rfl rfl (.conv8_U rfl rfl rfl) ?_
      refine .p rfl rfl (.mv rfl) ?_
      refine .p rfl rfl (.mul rfl rfl (by omega)) ?_
      refine .p rfl rfl (.shlU (8 * i) rfl rfl (by omega) hsh) ?_
      refine .p rfl rfl (.orU (p := getTo l i) (q := (l.getD i 0).toNat * 2 ^ (8 * i)) rfl rfl (getTo_bd l (by omega)) (getTo_term l (by omega))) ?_
      refine .p rfl rfl (.as rfl) ?_
      refine .nil (.blk (.code (.keep [(5, _), (15, _), (14, _)] ⟨rfl, rfl, rfl, trivial⟩ (.region ?_))))
      refine .p rfl rfl (.add rfl rfl (by omega)) ?_
      refine .p rfl rfl (.mv rfl) ?_
      refine .nil ?_
      exact (again (i + 1) (by show i + 1 ≤ 8; omega) (by show 8 - (i + 1) < 8 - i; omega)).of ⟨rfl, rfl, by rw [← getTo_or]; rfl, trivial⟩
    · refine .exit rfl (.code (.seq (.keep [(5, _)] ⟨rfl, trivial⟩ (.region ?_))))
      refine .p rfl rfl (.mv rfl) ?_
      refine .p rfl rfl (.as rfl) ?_
      refine .p rfl rfl (.as rfl) ?_
      refine .nil (.code ?_)
      refine .ret _ rfl ?_
      obtain rfl : i = 8 := by omega
      rw [if_pos hl8, if_pos hl8]
      exact ⟨rfl, X14⟩
end Go.Proofs.YtpfehnopghffjaaGreatDoor
