import Derived.Test.YthliepcjfnjnoaaGreatDoorB22
import Derived.Test.YthliepcjfnjnoaaGreatDoorB16
set_option linter.unusedVariables false
set_option linter.unusedSimpArgs false
set_option maxRecDepth 20000
namespace Go.Proofs.YthliepcjfnjnoaaGreatDoor
open Go page
namespace tree
structure BOK (d : disk.Disk) (rs : List Bs) (ls : List (List Change)) (S : List Entry) : Prop where
  tok : TOK d rs
  rc : RecsOK rs ls
  len : ls.length = rs.length
  h12 : S.length ≤ 12
  n60 : rs.length ≤ 60
  perm : S.Perm (entsTo ls rs.length)
  sort : S.Pairwise gtE
  anti : ∀ a b, a ∈ S → b ∈ S → gtE a b → gtE b a → a = b
section
variable {d : disk.Disk} {rs : List Bs} {ls : List (List Change)} {S : List Entry}
theorem BOK.e12 (h : BOK d rs ls S) : (entsTo ls rs.length).length ≤ 12 := by rw [← h.perm.length_eq]; exact h.h12
theorem BOK.same (h : BOK d rs ls S) {es : List Entry} (h1 : es.Perm (entsTo ls rs.length)) (h2 : es.Pairwise gtE) : es = S :=
  List.Perm.eq_of_pairwise (le := gtE) (fun a b ha hb => h.anti a b ((h1.trans h.perm.symm).subset ha) hb) h2 h.sort (h1.trans h.perm.symm)
theorem ents_snoc (ls : List (List Change)) (l : List Change) : ∀ k, k ≤ ls.length → entsTo (ls ++ [l]) k = entsTo ls k
  | 0, _ => rfl
  | k + 1, h => by rw [entsTo, entsTo, ents_snoc ls l k (by omega), List.getD_eq_getElem?_getD, List.getD_eq_getElem?_getD, List.getElem?_append_left (by omega)]
theorem BOK.new {x : disk.Disk} (h : TOK x []) : BOK x [] [] [] :=
  ⟨h, fun i hi => absurd hi (Nat.not_lt_zero _), rfl, by decide, by decide, .refl _, .nil, fun a b ha => absurd ha (by simp)⟩
theorem BOK.put (h : BOK d rs ls S) {l : List Change} {r : Bs} {S' : List Entry} (hw : wF l ((rs.length : Int) + 1) = (r, 0)) (hr : r.length ≤ 112) (h60 : rs.length < 60) (h12 : S'.length ≤ 12) (hp : S'.Perm (S ++ l.map (entC (rs.length + 1)))) (hs : S'.Pairwise gtE) (ha : ∀ a b, a ∈ S' → b ∈ S' → gtE a b → gtE b a → a = b) :
    ∃ a x, log.addF d r = (a, 0) ∧ disk.doF d (a ++ [⟨true, ⟨0, []⟩⟩]) = (x, 0) ∧ a.length ≤ 1000 ∧ BOK x (rs ++ [r]) (ls ++ [l]) S' := by
  obtain ⟨a, x, h1, h2, h3, h4⟩ := h.tok.add hr (by omega)
  have hlen := h.len
  have hb := record_back (l := l) (seq := (rs.length : Int) + 1) (by rw [hw])
  rw [hw] at hb
  refine ⟨a, x, h1, h2, h3, h4, fun i hi => ?_, by simp [hlen], h12, by simp; omega, ?_, hs, ha⟩
  · rcases Nat.lt_or_ge i rs.length with hlt | hge
    · rw [List.getElem_append_left hlt, h.rc i hlt, List.getD_eq_getElem?_getD, List.getD_eq_getElem?_getD, List.getElem?_append_left (by omega)]
    · obtain rfl : i = rs.length := by simp at hi; omega
      rw [List.getElem_append_right (Nat.le_refl _)]
      simp only [Nat.sub_self, List.getElem_cons_zero]
      rw [hb, ← hlen, List.getD_eq_getElem?_getD, List.getElem?_append_right (Nat.le_refl _)]
      simp
  · rw [List.length_append, List.length_singleton, entsTo, ents_snoc ls l rs.length (by omega), ← hlen, List.getD_eq_getElem?_getD, List.getElem?_append_right (Nat.le_refl _)]
    simp only [Nat.sub_self, List.getElem?_cons_zero, Option.getD_some]
    rw [hlen]
    exact hp.trans (List.Perm.append_right _ h.perm)
end
end tree
open tree
section
variable {w : World} {v vl : Value} {d : disk.Disk} {rs : List Bs} {ls : List (List Change)} {S : List Entry} {key : Bs} {seq keep : Int} {l : List Change} {r : Bs} {a : List disk.Act}
theorem bOpen_fn (h : disk.tDisk.rep All w v d) (hg : files.GOK w) (hb : BOK d rs ls S) : Fn Tryz.prog 34 [v] w (fun r w2 => r = .tuple #[i64 rs.length, i64 0] ∧ Ext (fun _ => False) w w2) := by
  have := hb.n60
  exact tOpen_fn h hg hb.tok.names hb.tok.st hb.tok.rc hb.rc hb.e12 (by omega)
theorem bGet_fn (h : disk.tDisk.rep All w v d) (hg : files.GOK w) (hb : BOK d rs ls S) (hk : key.length < Lim) (hq : -9223372036854775808 ≤ seq ∧ seq ≤ 9223372036854775807) : Fn Tryz.prog 22 [v, str key, i64 seq] w (fun r w2 => r = .tuple #[str (getT S rs.length key seq).1, .bool (getT S rs.length key seq).2.1, i64 (getT S rs.length key seq).2.2] ∧ Ext (fun _ => False) w w2) := by
  have := hb.n60
  exact (tGet_fn h hg hb.tok.names hb.tok.st hb.tok.rc hb.rc hb.e12 (by omega) hk hq).mono (fun r w2 ⟨⟨es, h1, h2, e⟩, hx⟩ => ⟨by rw [hb.same h1 h2] at e; exact e, hx⟩)
theorem bPut_fn (h : disk.tDisk.rep All w v d) (hg : files.GOK w) (hb : BOK d rs ls S) (hl : (Sl tChange).rep All w vl l) (hw : wF l ((rs.length : Int) + 1) = (r, 0)) (ha : log.addF d r = (a, 0)) (hk : 0 ≤ keep ∧ keep ≤ rs.length) (hr : r.length ≤ 112) (hal : a.length ≤ 1000) : Fn Tryz.prog 37 [v, vl, i64 keep] w (fun x w2 => (∃ u, x = .tuple #[u, i64 ((rs.length : Int) + 1), i64 0] ∧ (Sl disk.tAct).rep All w2 u (a ++ [⟨true, ⟨0, []⟩⟩])) ∧ Ext (fun _ => False) w w2) := by
  have := hb.n60
  exact tPut_fn h hg hb.tok.names hb.tok.st hb.tok.rc hb.rc hb.e12 (by omega) hl hw ha hk (by simp only [Lim]; omega) hal
end
end Go.Proofs.YthliepcjfnjnoaaGreatDoor
namespace Go.Proofs.YthliepcjfnjnoaaGreatDoor
open Go page tree
def StoreP (lo : Nat) (w : World) (b : Nat) (d : disk.Disk) (kvs : List (Int × Int)) (n : Int) : Prop :=
  ∃ a1 k1 a2 k2 m, Blk w b 49 [i64 d.count, .slice a1 d.data.length k1, .slice a2 d.waits.length k2, .map (some m), i64 n, .bool true] ∧
    disk.tDisk.rep (fun k => ¬ k = b ∧ ¬ k = m) w (.agg #[i64 d.count, .slice a1 d.data.length k1, .slice a2 d.waits.length k2]) d ∧ MapL w m kvs ∧ ¬ m = b ∧ lo ≤ b ∧ lo ≤ m
theorem StoreP.ext0 {lo b : Nat} {w w' : World} {d : disk.Disk} {kvs : List (Int × Int)} {n : Int} (h : StoreP lo w b d kvs n) (hx : Ext (fun _ => False) w w') : StoreP lo w' b d kvs n := by
  obtain ⟨a1, k1, a2, k2, m, h1, h2, h3, h4⟩ := h
  exact ⟨a1, k1, a2, k2, m, h1.ext0 hx, disk.tDisk.ext0 h2 hx, h3.ext hx (fun x => x), h4⟩
theorem Blk.three {w : World} {b : Nat} {E : TypeId} {x1 x2 x3 : Value} {cs : List Value} (h : Blk w b E (x1 :: x2 :: x3 :: cs)) : Cells w b 0 [x1, x2, x3] := h.cells.take 3
theorem run_equal_ptr {P : Program} {T E : TypeId} {a : Addr} (hT : P.underlying T = some (.pointer E)) (w : World) : (Op.equal T (.pointer (some a)) (.pointer none)).run P w = .ok false w := by
  have h : ∀ d : Nat, (Op.equalIn (d + 1) T (.pointer (some a)) (.pointer none)).run P w = .ok false w := fun d => by simp [Op.equalIn, run_underlying hT]
  simp [Op.equal, Op.maxDepth, h 9999]
theorem run_equal_ptr0 {P : Program} {T E : TypeId} (hT : P.underlying T = some (.pointer E)) (w : World) : (Op.equal T (.pointer none) (.pointer none)).run P w = .ok true w := by
  have h : ∀ d : Nat, (Op.equalIn (d + 1) T (.pointer none) (.pointer none)).run P w = .ok true w := fun d => by simp [Op.equalIn, run_underlying hT]
  simp [Op.equal, Op.maxDepth, h 9999]
theorem Ev.eqPS {P : Program} {e : Env} {w : World} {x : Operand} {T T' E : TypeId} {a : Addr} (hx : look e x = some (.pointer (some a))) (hT : P.underlying T = some (.pointer E)) : Ev P e (.binOp .eql T x (.const (.pointer none)) T') w (.bool false) :=
  fun w' _ ρ hρ o ho => by
    have h1 := hρ _ _ hx
    have h2 : ρ (.const (.pointer none)) = .pointer none := hρ _ _ rfl
    simp [execOp, ho, h1, h2, eqGuard, binOp, run_equal_ptr hT, Sem.run_bind]
theorem Ev.eqPN {P : Program} {e : Env} {w : World} {x : Operand} {T T' E : TypeId} (hx : look e x = some (.pointer none)) (hT : P.underlying T = some (.pointer E)) : Ev P e (.binOp .eql T x (.const (.pointer none)) T') w (.bool true) :=
  fun w' _ ρ hρ o ho => by
    have h1 := hρ _ _ hx
    have h2 : ρ (.const (.pointer none)) = .pointer none := hρ _ _ rfl
    simp [execOp, ho, h1, h2, eqGuard, binOp, run_equal_ptr0 hT, Sem.run_bind]
namespace batch
def momL (kvs : List (Int × Int)) (n : Nat) (look : Int) : Int × Int := if look = 0 then (n, 0) else if (getL kvs look).2 = true then ((getL kvs look).1, 0) else (0, 130)
def chgd (S : List Entry) (n : Nat) (key : Bs) (t u : Int) : Bool := if t = u then false else decide (¬ (getT S n key t).1 = (getT S n key u).1) || (getT S n key t).2.1 != (getT S n key u).2.1
theorem chgd_eq {S : List Entry} {n : Nat} {key : Bs} {t u : Int} (h : t = u) : chgd S n key t u = false := by unfold chgd; rw [if_pos h]
theorem chgd_ne {S : List Entry} {n : Nat} {key : Bs} {t u : Int} (h : ¬ t = u) : chgd S n key t u = (decide (¬ (getT S n key t).1 = (getT S n key u).1) || (getT S n key t).2.1 != (getT S n key u).2.1) := by unfold chgd; rw [if_neg h]
theorem mom0 {kvs : List (Int × Int)} {n : Nat} : momL kvs n 0 = ((n : Int), 0) := by unfold momL; rw [if_pos rfl]
theorem momT {kvs : List (Int × Int)} {n : Nat} {look : Int} (h : ¬ look = 0) (h2 : (getL kvs look).2 = true) : momL kvs n look = ((getL kvs look).1, 0) := by unfold momL; rw [if_neg h, if_pos h2]
theorem momF {kvs : List (Int × Int)} {n : Nat} {look : Int} (h : ¬ look = 0) (h2 : (getL kvs look).2 = false) : momL kvs n look = (0, 130) := by unfold momL; rw [if_neg h, if_neg (by rw [h2]; decide)]
end batch
end Go.Proofs.YthliepcjfnjnoaaGreatDoor
namespace Go.Proofs.YthliepcjfnjnoaaGreatDoor
open Go page tree batch
section
variable {w : World} {lo b : Nat} {d : disk.Disk} {kvs : List (Int × Int)} {n : Int} {rs : List Bs} {ls : List (List Change)} {S : List Entry}
theorem none_fn (h : StoreP lo w b d kvs n) : Fn Tryz.prog 31 [.pointer (some ⟨b, 0, none⟩)] w (fun r w2 => r = .bool false ∧ Ext (fun _ => False) w w2) := by
  obtain ⟨a1, k1, a2, k2, m, hB, hR, hM, hne, hl1, hl2⟩ := id h
  refine Fn.enter (fun w => Tryz.call31 _ w) Tryz.func31 rfl ?_
  refine W8 ?_
  refine .p rfl rfl (.eqPS rfl rfl) ?_
  refine W4 ?_
  refine .p rfl rfl (.load rfl rfl rfl (hB.cell 5)) ?_
  refine W5 ?_
  refine .ret _ rfl ?_
  exact ⟨rfl, .refl _⟩
def NoneT (w : World) (p : Value) : Prop := ∀ w', Ext (fun _ => False) w w' → Fn Tryz.prog 31 [p] w' (fun r w2 => r = .bool true ∧ Ext (fun _ => False) w' w2)
theorem NoneT.ext0 {w w1 : World} {p : Value} (h : NoneT w p) (hx : Ext (fun _ => False) w w1) : NoneT w1 p := fun w' hw => h w' (hx.trans hw)
theorem noneN_fn : NoneT w (.pointer none) := by
  intro w hw
  refine Fn.enter (fun w => Tryz.call31 _ w) Tryz.func31 rfl ?_
  refine W8 ?_
  refine .p rfl rfl (.eqPN rfl rfl) ?_
  refine W10 ?_
  refine .ret _ rfl ?_
  exact ⟨rfl, .refl _⟩
theorem noneP_fn {E : TypeId} {c1 c2 c3 c4 c5 : Value} (hB : Blk w b E [c1, c2, c3, c4, c5, .bool false]) : NoneT w (.pointer (some ⟨b, 0, none⟩)) := by
  intro w' hw
  refine Fn.enter (fun w => Tryz.call31 _ w) Tryz.func31 rfl ?_
  refine W8 ?_
  refine .p rfl rfl (.eqPS rfl rfl) ?_
  refine W4 ?_
  refine .p rfl rfl (.load rfl rfl rfl ((hB.ext0 hw).cell 5)) ?_
  refine W5 ?_
  refine .ret _ rfl ?_
  exact ⟨rfl, .refl _⟩
theorem number_fnB (h : StoreP lo w b d kvs n) (hg : files.GOK w) (hb : BOK d rs ls S) : Fn Tryz.prog 32 [.pointer (some ⟨b, 0, none⟩)] w (fun r w2 => r = i64 rs.length ∧ Ext (fun _ => False) w w2) := by
  obtain ⟨a1, k1, a2, k2, m, hB, hR, hM, hne, hl1, hl2⟩ := id h
  refine Fn.enter (fun w => Tryz.call32 _ w) Tryz.func32 rfl ?_
  refine W10 ?_
  refine .p rfl rfl (.loadA (n := 3) rfl rfl rfl rfl rfl (hB.ext0 (Ext.refl _)).three) ?_
  refine .cl rfl rfl rfl rfl (bOpen_fn (allOf hR) hg hb) ?_
  rintro _ w10 ⟨rfl, X10⟩
  have z10 := X10.size
  refine W13 ?_
  refine .ret _ rfl ?_
  exact ⟨rfl, X10⟩
theorem moment_fn {look : Int} (h : StoreP lo w b d kvs n) (hg : files.GOK w) (hb : BOK d rs ls S) : Fn Tryz.prog 33 [.pointer (some ⟨b, 0, none⟩), i64 look] w (fun r w2 => r = .tuple #[i64 (momL kvs rs.length look).1, i64 (momL kvs rs.length look).2] ∧ Ext (fun _ => False) w w2) := by
  obtain ⟨a1, k1, a2, k2, m, hB, hR, hM, hne, hl1, hl2⟩ := id h
  refine Fn.enter (fun w => Tryz.call33 _ w) Tryz.func33 rfl ?_
  refine W10 ?_
  refine .cl rfl rfl rfl rfl (none_fn h) ?_
  rintro _ w9 ⟨rfl, X9⟩
  have z9 := X9.size
  refine W12 ?_
  refine .condD rfl (fun c11 => ?_) (fun c11 => ?_)
  · refine W3 ?_
    refine .cl rfl rfl rfl rfl (number_fnB (h.ext0 .au) (hg.ext0 .au) hb) ?_
    rintro _ w13 ⟨rfl, X13⟩
    have z13 := X13.size
    refine W4 ?_
    refine .ret _ rfl ?_
    exact ⟨by rw [c11, mom0]; rfl, .au⟩
  · refine W7 ?_
    refine .p rfl rfl (.load rfl rfl rfl ((hB.ext0 .au).cell 3)) ?_
    refine W1 ?_
    refine .p rfl rfl (.lookOk (hM.ext0 .au) rfl rfl rfl rfl rfl rfl) ?_
    refine W14 ?_
    refine .cond rfl (fun c24 => ?_) (fun c24 => ?_)
    · refine W6 ?_
      refine .ret _ rfl ?_
      exact ⟨by rw [momF c11 (by simpa using c24)]; rfl, .au⟩
    · refine W9 ?_
      refine .ret _ rfl ?_
      exact ⟨by rw [momT c11 (by simpa using c24)]; rfl, .au⟩
theorem momentX_fn {look : Int} {p : Value} (h : NoneT w p) : Fn Tryz.prog 33 [p, i64 look] w (fun r w2 => r = .tuple #[i64 0, i64 1] ∧ Ext (fun _ => False) w w2) := by
  refine Fn.enter (fun w => Tryz.call33 _ w) Tryz.func33 rfl ?_
  refine W10 ?_
  refine .cl rfl rfl rfl rfl (h _ (.refl _)) ?_
  rintro _ w9 ⟨rfl, X9⟩
  have z9 := X9.size
  refine W9 ?_
  refine .ret _ rfl ?_
  exact ⟨rfl, X9⟩
theorem Get_fnB {look q : Int} {key : Bs} (h : StoreP lo w b d kvs n) (hg : files.GOK w) (hb : BOK d rs ls S) (hm : momL kvs rs.length look = (q, 0)) (hk : key.length < Lim) (hq : -9223372036854775808 ≤ q ∧ q ≤ 9223372036854775807) : Fn Tryz.prog 15 [.pointer (some ⟨b, 0, none⟩), i64 look, str key] w (fun r w2 => r = .tuple #[str (getT S rs.length key q).1, .bool (getT S rs.length key q).2.1, i64 (getT S rs.length key q).2.2] ∧ Ext (fun _ => False) w w2) := by
  obtain ⟨a1, k1, a2, k2, m, hB, hR, hM, hne, hl1, hl2⟩ := id h
  refine Fn.enter (fun w => Tryz.call15 _ w) Tryz.func15 rfl ?_
  refine W11 ?_
  refine .cl rfl rfl rfl rfl (moment_fn h hg hb) ?_
  rintro _ w14 ⟨rfl, X14⟩
  have z14 := X14.size
  rw [hm]
  refine W11 ?_
  refine .p rfl rfl (.no (.ne rfl rfl) (fun h => h rfl)) ?_
  refine W10 ?_
  refine .p rfl rfl (.loadA (n := 3) rfl rfl rfl rfl rfl (hB.ext0 .au).three) ?_
  refine W2 ?_
  refine .cl rfl rfl rfl rfl (bGet_fn (disk.tDisk.ext0 (allOf hR) .au) (hg.ext0 .au) hb hk hq) ?_
  rintro _ w26 ⟨rfl, X26⟩
  have z26 := X26.size
  refine W8 ?_
  refine .ret _ rfl ?_
  exact ⟨rfl, .au⟩
theorem GetNo_fn {look q : Int} {key : Bs} (h : StoreP lo w b d kvs n) (hg : files.GOK w) (hb : BOK d rs ls S) (hm : momL kvs rs.length look = (q, 130)) : Fn Tryz.prog 15 [.pointer (some ⟨b, 0, none⟩), i64 look, str key] w (fun r w2 => r = .tuple #[str [], .bool false, i64 130] ∧ Ext (fun _ => False) w w2) := by
  obtain ⟨a1, k1, a2, k2, m, hB, hR, hM, hne, hl1, hl2⟩ := id h
  refine Fn.enter (fun w => Tryz.call15 _ w) Tryz.func15 rfl ?_
  refine W11 ?_
  refine .cl rfl rfl rfl rfl (moment_fn h hg hb) ?_
  rintro _ w14 ⟨rfl, X14⟩
  have z14 := X14.size
  rw [hm]
  refine W11 ?_
  refine .p rfl rfl (.yes (.ne rfl rfl) (by simp)) ?_
  refine W11 ?_
  refine .ret _ rfl ?_
  exact ⟨rfl, .au⟩
theorem GetX_fn {look : Int} {p : Value} {key : Bs} (h : NoneT w p) : Fn Tryz.prog 15 [p, i64 look, str key] w (fun r w2 => r = .tuple #[str [], .bool false, i64 1] ∧ Ext (fun _ => False) w w2) := by
  refine Fn.enter (fun w => Tryz.call15 _ w) Tryz.func15 rfl ?_
  refine W11 ?_
  refine .cl rfl rfl rfl rfl (momentX_fn h) ?_
  rintro _ w14 ⟨rfl, X14⟩
  have z14 := X14.size
  refine W11 ?_
  refine .p rfl rfl (.yes (.ne rfl rfl) (by simp)) ?_
  refine W11 ?_
  refine .ret _ rfl ?_
  exact ⟨rfl, .au⟩
theorem changed_fn {t u : Int} {key : Bs} (h : StoreP lo w b d kvs n) (hg : files.GOK w) (hb : BOK d rs ls S) (hk : key.length < Lim) (ht : -9223372036854775808 ≤ t ∧ t ≤ 9223372036854775807) (hu : -9223372036854775808 ≤ u ∧ u ≤ 9223372036854775807) : Fn Tryz.prog 41 [.pointer (some ⟨b, 0, none⟩), str key, i64 t, i64 u] w (fun r w2 => r = .bool (chgd S rs.length key t u) ∧ Ext (fun _ => False) w w2) := by
  obtain ⟨a1, k1, a2, k2, m, hB, hR, hM, hne, hl1, hl2⟩ := id h
  refine Fn.enter (fun w => Tryz.call41 _ w) Tryz.func41 rfl ?_
  refine W13 ?_
  refine .condD rfl (fun c17 => ?_) (fun c17 => ?_)
  · refine W5 ?_
    refine .ret _ rfl ?_
    exact ⟨by rw [chgd_eq c17]; rfl, .refl _⟩
  · refine W7 ?_
    refine .p rfl rfl (.loadA (n := 3) rfl rfl rfl rfl rfl (hB.ext0 (Ext.refl _)).three) ?_
    refine W2 ?_
    refine .cl rfl rfl rfl rfl (bGet_fn (allOf hR) hg hb hk ht) ?_
    rintro _ w25 ⟨rfl, X25⟩
    have z25 := X25.size
    refine W14 ?_
    refine .p rfl rfl (.loadA (n := 3) rfl rfl rfl rfl rfl (hB.ext0 .au).three) ?_
    refine W2 ?_
    refine .cl rfl rfl rfl rfl (bGet_fn (disk.tDisk.ext0 (allOf hR) .au) (hg.ext0 .au) hb hk hu) ?_
    rintro _ w36 ⟨rfl, X36⟩
    have z36 := X36.size
    refine W10 ?_
    refine .keep [(13, _), (12, _), (10, _), (9, _)] ⟨rfl, rfl, rfl, rfl, trivial⟩ ?_
    refine W5 ?_
    refine .caseD 43 rfl (fun c43 => ?_) (fun c43 => ?_)
    · refine W7 ?_
      refine .ret _ rfl ?_
      exact ⟨by rw [chgd_ne c17, decide_eq_true c43]; rfl, .au⟩
    · refine W7 ?_
      refine .ret _ rfl ?_
      exact ⟨by rw [chgd_ne c17, decide_eq_false c43]; rfl, .au⟩
end
end Go.Proofs.YthliepcjfnjnoaaGreatDoor
namespace Go.Proofs.YthliepcjfnjnoaaGreatDoor
open Go page tree batch
section
variable {w : World} {lo b : Nat} {d : disk.Disk} {kvs : List (Int × Int)} {n : Int} {rs : List Bs} {ls : List (List Change)} {S : List Entry}
theorem Look_fn (h : StoreP lo w b d kvs n) (hg : files.GOK w) (hb : BOK d rs ls S) (hlo : 0 < lo) (hlen : kvs.length < 64) (hk : ∀ p ∈ kvs, p.1 ≤ n) (hn : 0 ≤ n ∧ n ≤ 1000000) : Fn Tryz.prog 14 [.pointer (some ⟨b, 0, none⟩)] w (fun r w2 => r = .tuple #[i64 (n + 1), i64 0] ∧ StoreP lo w2 b d (kvs ++ [(n + 1, (rs.length : Int))]) (n + 1) ∧ Ext (fun k => lo ≤ k) w w2) := by
  obtain ⟨a1, k1, a2, k2, m, hB, hR, hM, hne, hl1, hl2⟩ := id h
  refine Fn.enter (fun w => Tryz.call14 _ w) Tryz.func14 rfl ?_
  refine W10 ?_
  refine .cl rfl rfl rfl rfl (none_fn h) ?_
  rintro _ w5 ⟨rfl, X5⟩
  have z5 := X5.size
  refine W11 ?_
  refine .p rfl rfl (.load rfl rfl rfl ((hB.ext0 .au).cell 3)) ?_
  refine .p rfl rfl (.lenMap (hM.ext0 .au) rfl rfl) ?_
  refine .p rfl rfl (.no (.ge rfl rfl) (by omega)) ?_
  refine W10 ?_
  refine .p rfl rfl (.load rfl rfl rfl ((hB.ext0 .au).cell 4)) ?_
  refine W3 ?_
  refine .s rfl (.store rfl rfl rfl rfl rfl (hB.ext0 X5) (show (4 : Nat) < 6 by decide)) ?_
  intro w17 P17
  have hR17 := disk.tDisk.ext (disk.tDisk.ext0 hR X5) P17.ext (fun k hk _ he => hk.1 he)
  have hM17 := (hM.ext0 X5).ext P17.ext hne
  have hg17 := (hg.ext0 X5).ext P17.ext (fun he => by have he : 0 = b := he; omega)
  have h17 : StoreP lo w17 b d kvs (n + 1) := ⟨a1, k1, a2, k2, m, P17.blk, hR17, hM17, hne, hl1, hl2⟩
  have hB17 := P17.blk
  refine W3 ?_
  refine .mix (fun _ => False) [9, 10] (by kernel_rfl) (by kernel_rfl) (by kernel_rfl) ?_
  refine W3 ?_
  refine .p rfl rfl rfl (fun wx hx => .load rfl rfl rfl ((hB17.ext0 hx).cell 3)) ?_
  refine W3 ?_
  refine .p rfl rfl rfl (fun wx hx => .load rfl rfl rfl ((hB17.ext0 hx).cell 4)) ?_
  refine W1 ?_
  refine .cl rfl rfl rfl rfl rfl (number_fnB h17 hg17 hb) (by rintro _ _ ⟨_, hx⟩; exact hx) ?_
  rintro _ w28 ⟨rfl, X28⟩
  refine .sL rfl rfl (.mapNew (hM17.ext0 X28) (fun p hp he => by have := hk p hp; omega) rfl rfl rfl rfl rfl) (by kernel_rfl) ?_
  rintro w29 ⟨M29, E29, z29⟩
  have hB29 := (hB17.ext0 X28).ext E29 (fun h => hne h.symm)
  refine W3 ?_
  refine .keep [(0, _)] ⟨rfl, trivial⟩ ?_
  refine W4 ?_
  refine .p rfl rfl (.load rfl rfl rfl (hB29.cell 4)) ?_
  refine W4 ?_
  refine .ret _ rfl ?_
  exact ⟨rfl, ⟨a1, k1, a2, k2, m, hB29, disk.tDisk.ext (disk.tDisk.ext0 hR17 X28) E29 (fun k hk _ he => hk.2 he), M29, hne, hl1, hl2⟩, ((X5.mono (fun _ _ h => h.elim)).trans (P17.ext.mono (fun k _ he => by have he : k = b := he; show lo ≤ k; omega))).trans ((X28.mono (fun _ _ h => h.elim)).trans (E29.mono (fun k _ he => by have he : k = m := he; show lo ≤ k; omega)))⟩
theorem LookMany_fn (h : StoreP lo w b d kvs n) (hlen : 64 ≤ kvs.length) : Fn Tryz.prog 14 [.pointer (some ⟨b, 0, none⟩)] w (fun r w2 => r = .tuple #[i64 0, i64 4] ∧ Ext (fun _ => False) w w2) := by
  obtain ⟨a1, k1, a2, k2, m, hB, hR, hM, hne, hl1, hl2⟩ := id h
  refine Fn.enter (fun w => Tryz.call14 _ w) Tryz.func14 rfl ?_
  refine W10 ?_
  refine .cl rfl rfl rfl rfl (none_fn h) ?_
  rintro _ w5 ⟨rfl, X5⟩
  have z5 := X5.size
  refine W11 ?_
  refine .p rfl rfl (.load rfl rfl rfl ((hB.ext0 .au).cell 3)) ?_
  refine .p rfl rfl (.lenMap (hM.ext0 .au) rfl rfl) ?_
  refine .p rfl rfl (.yes (.ge rfl rfl) (by omega)) ?_
  refine W9 ?_
  refine .ret _ rfl ?_
  exact ⟨rfl, X5⟩
theorem LookX_fn {p : Value} (h : NoneT w p) : Fn Tryz.prog 14 [p] w (fun r w2 => r = .tuple #[i64 0, i64 1] ∧ Ext (fun _ => False) w w2) := by
  refine Fn.enter (fun w => Tryz.call14 _ w) Tryz.func14 rfl ?_
  refine W10 ?_
  refine .cl rfl rfl rfl rfl (h _ (.refl _)) ?_
  rintro _ w5 ⟨rfl, X5⟩
  have z5 := X5.size
  refine W9 ?_
  refine .ret _ rfl ?_
  exact ⟨rfl, X5⟩
theorem DiskX_fn {p : Value} (h : NoneT w p) : Fn Tryz.prog 17 [p] w (fun r w2 => r = .tuple #[.agg #[i64 0, .slice none 0 0, .slice none 0 0], i64 1] ∧ Ext (fun _ => False) w w2) := by
  refine Fn.enter (fun w => Tryz.call17 _ w) Tryz.func17 rfl ?_
  refine W2 ?_
  refine .v rfl rfl (.alloc rfl rfl) ?_
  rintro _ w2 ⟨rfl, N2⟩
  have X2 := N2.ext
  refine W7 ?_
  refine .cl rfl rfl rfl rfl (h _ N2.ext) ?_
  rintro _ w5 ⟨rfl, X5⟩
  have z5 := X5.size
  refine W5 ?_
  refine .p rfl rfl (.build (cs := [i64 0, .slice none 0 0, .slice none 0 0]) rfl (fun _ => by kernel_rfl)) ?_
  refine .s rfl (.storeAll (n := 3) rfl rfl rfl rfl rfl (N2.blk.ext0 X5) rfl) ?_
  intro wz Pz
  refine W3 ?_
  refine .retR (.cell (n := 3) rfl rfl rfl rfl rfl (Pz.blk.cells) (.tmp rfl .nil)) ?_
  exact ⟨rfl, (X2.trans X5).then Pz.ext (by rintro k rfl _; exact Nat.le_refl _)⟩
theorem Drop_fn {look v : Int} (h : StoreP lo w b d [(look, v)] n) (hg : files.GOK w) (hb : BOK d rs ls S) (hk : ¬ look = 0) : Fn Tryz.prog 16 [.pointer (some ⟨b, 0, none⟩), i64 look] w (fun r w2 => r = i64 0 ∧ StoreP lo w2 b d [] n ∧ Ext (fun k => lo ≤ k) w w2) := by
  obtain ⟨a1, k1, a2, k2, m, hB, hR, hM, hne, hl1, hl2⟩ := id h
  have hm : momL [(look, v)] rs.length look = (v, 0) := by rw [momT hk (by simp [getL])]; simp [getL]
  refine Fn.enter (fun w => Tryz.call16 _ w) Tryz.func16 rfl ?_
  refine W10 ?_
  refine .cl rfl rfl rfl rfl (moment_fn h hg hb) ?_
  rintro _ w10 ⟨rfl, X10⟩
  have z10 := X10.size
  rw [hm]
  refine W10 ?_
  refine .p rfl rfl (.no (.ne rfl rfl) (fun h => h rfl)) ?_
  refine W9 ?_
  refine .p rfl rfl (.no (.eq rfl rfl) (hk)) ?_
  refine W10 ?_
  refine .p rfl rfl (.load rfl rfl rfl ((hB.ext0 .au).cell 3)) ?_
  refine W1 ?_
  refine .w rfl (.delOne (hM.ext0 X10) rfl rfl rfl rfl) ?_
  rintro _ w23 ⟨M23, E23, z23⟩
  refine W7 ?_
  refine .ret _ rfl ?_
  exact ⟨rfl, ⟨a1, k1, a2, k2, m, (hB.ext0 X10).ext E23 (fun h => hne h.symm), disk.tDisk.ext (disk.tDisk.ext0 hR X10) E23 (fun k hk _ he => hk.2 he), M23, hne, hl1, hl2⟩, (X10.mono (fun _ _ h => h.elim)).trans (E23.mono (fun k _ he => by have he : k = m := he; show lo ≤ k; omega))⟩
theorem Drop0_fn (h : StoreP lo w b d kvs n) (hg : files.GOK w) (hb : BOK d rs ls S) : Fn Tryz.prog 16 [.pointer (some ⟨b, 0, none⟩), i64 0] w (fun r w2 => r = i64 130 ∧ Ext (fun _ => False) w w2) := by
  obtain ⟨a1, k1, a2, k2, m, hB, hR, hM, hne, hl1, hl2⟩ := id h
  refine Fn.enter (fun w => Tryz.call16 _ w) Tryz.func16 rfl ?_
  refine W10 ?_
  refine .cl rfl rfl rfl rfl (moment_fn h hg hb) ?_
  rintro _ w10 ⟨rfl, X10⟩
  have z10 := X10.size
  rw [mom0]
  refine W10 ?_
  refine .p rfl rfl (.no (.ne rfl rfl) (fun h => h rfl)) ?_
  refine W9 ?_
  refine .p rfl rfl (.yes (.eq rfl rfl) (rfl)) ?_
  refine W8 ?_
  refine .ret _ rfl ?_
  exact ⟨rfl, X10⟩
end
end Go.Proofs.YthliepcjfnjnoaaGreatDoor
namespace Go.Proofs.YthliepcjfnjnoaaGreatDoor
open Go page tree batch
section
variable {w : World} {lo b : Nat} {d : disk.Disk} {kvs : List (Int × Int)} {n : Int} {rs : List Bs} {ls : List (List Change)} {S : List Entry}
theorem Acts_fn {look q : Int} {vl : Value} {c : Change} {r : Bs} {a : List disk.Act} (h : StoreP lo w b d kvs n) (hg : files.GOK w) (hb : BOK d rs ls S) (hl : (Sl tChange).rep All w vl [c]) (hm : momL kvs rs.length look = (q, 0)) (hq : -9223372036854775808 ≤ q ∧ q ≤ 9223372036854775807) (hw : wF [c] ((rs.length : Int) + 1) = (r, 0)) (hk1 : kvs.length ≤ 1) (hk2 : ∀ p ∈ kvs, 0 ≤ p.2) (ha : log.addF d r = (a, 0)) (hr : r.length ≤ 112) (hal : a.length ≤ 1000) : Fn Tryz.prog 29 [.pointer (some ⟨b, 0, none⟩), i64 look, vl] w (fun x w2 => ((chgd S rs.length c.key q rs.length = true → x = .tuple #[.slice none 0 0, i64 131]) ∧ (chgd S rs.length c.key q rs.length = false → ∃ u, x = .tuple #[u, i64 0] ∧ (Sl disk.tAct).rep All w2 u (a ++ [⟨true, ⟨0, []⟩⟩]))) ∧ Ext (fun _ => False) w w2) := by
  obtain ⟨a1, k1, a2, k2, m, hB, hR, hM, hne, hl1, hl2⟩ := id h
  obtain ⟨al, kl, rfl, _⟩ := Sl.val hl
  have h60 := hb.n60
  obtain ⟨bc, oc, cc, ue, e, _, hcs, hre⟩ := Sl.at hl (i := 0) (x := c) rfl
  cases e
  obtain ⟨rfl, hc1, hc2⟩ := tChange.val hre
  refine Fn.enter (fun w => Tryz.call29 _ w) Tryz.func29 rfl ?_
  refine W10 ?_
  refine .cl rfl rfl rfl rfl (moment_fn h hg hb) ?_
  rintro _ w23 ⟨rfl, X23⟩
  have z23 := X23.size
  rw [hm]
  refine W11 ?_
  refine .p rfl rfl (.no (.ne rfl rfl) (fun h => h rfl)) ?_
  refine W8 ?_
  refine .cl rfl rfl rfl rfl (number_fnB (h.ext0 .au) (hg.ext0 .au) hb) ?_
  rintro _ w30 ⟨rfl, X30⟩
  have z30 := X30.size
  refine W9 ?_
  refine .cl rfl rfl rfl rfl (TWrite_fn (seq := (rs.length : Int) + 1) ((Sl tChange).ext0 hl .au)) ?_
  rintro _ w35 ⟨rfl, X35⟩
  have z35 := X35.size
  rw [hw]
  refine W8 ?_
  refine .keep [(12, _), (10, _), (8, _), (0, _), (2, _)] ⟨rfl, rfl, rfl, rfl, rfl, trivial⟩ ?_
  refine W2 ?_
  refine .p rfl rfl (.no (.ne rfl rfl) (fun h => h rfl)) ?_
  refine W14 ?_
  refine .loop (S := Nat × World) (fun s => [(0, .pointer (some ⟨b, 0, none⟩)), (2, .slice (some ⟨bc, oc, none⟩) 1 kl), (8, i64 q), (10, i64 rs.length), (41, .slice (some ⟨bc, oc, none⟩) 1 kl), (42, i64 1), (43, i64 s.1)]) (fun s => s.2) (fun s => s.1 ≤ 1 ∧ (s.1 = 1 → chgd S rs.length c.key q rs.length = false) ∧ Ext (fun _ => False) w s.2) (fun s => 1 - s.1) (0, w35) ⟨rfl, rfl, rfl, rfl, rfl, rfl, rfl, trivial⟩ rfl ⟨Nat.zero_le _, fun h => (by cases h), .au⟩ ?_
  rintro ⟨i, wi⟩ J ⟨hi1, hch, Xi⟩ again
  simp only at hi1 hch Xi
  have zi := Xi.size
  change G _ [(0, .pointer (some ⟨b, 0, none⟩)), (2, .slice (some ⟨bc, oc, none⟩) 1 kl), (8, i64 q), (10, i64 rs.length), (41, .slice (some ⟨bc, oc, none⟩) 1 kl), (42, i64 1), (43, i64 i)] _ _ wi
  refine W6 ?_
  refine .condD rfl (fun c44 => ?_) (fun c44 => ?_)
  · obtain rfl : i = 0 := by omega
    refine W7 ?_
    refine .p rfl rfl (.loadA (n := 3) rfl rfl rfl rfl rfl (hcs.ext0 .au)) ?_
    refine .v rfl rfl (.alloc rfl rfl) ?_
    rintro _ wn14 ⟨rfl, N14⟩
    refine .s rfl (.storeAll (n := 3) rfl rfl rfl rfl rfl N14.blk rfl) ?_
    intro w14 P14
    have Y14 := N14.ext.then P14.ext (by rintro k rfl _; exact Nat.le_refl _)
    have zy14 := Y14.size
    have B14 := P14.blk
    clear P14 N14
    refine W6 ?_
    refine .p rfl rfl (.load rfl rfl rfl ((B14.ext0 .au).cell 0)) ?_
    refine W2 ?_
    refine .cl rfl rfl rfl rfl (changed_fn (h.ext0 .au) (hg.ext0 .au) hb hc1 hq ⟨by omega, by omega⟩) ?_
    rintro _ w52 ⟨rfl, X52⟩
    have z52 := X52.size
    refine W2 ?_
    refine .cond rfl (fun c52 => ?_) (fun c52 => ?_)
    · refine W6 ?_
      refine .ret _ rfl ?_
      exact ⟨⟨fun _ => rfl, fun h => by rw [c52] at h; cases h⟩, .au⟩
    · refine W7 ?_
      exact (again (0 + 1, _) ⟨Nat.le_refl _, fun _ => c52, .au⟩ (by show (1 : Nat) - 1 < 1 - 0; decide)).of ⟨rfl, rfl, rfl, rfl, rfl, rfl, rfl, trivial⟩
  · refine W14 ?_
    refine .p rfl rfl (.load rfl rfl rfl ((hB.ext0 .au).cell 3)) ?_
    refine .v rfl rfl (.rangeL (hM.ext0 .au) rfl rfl) ?_
    rintro _ w59 ⟨rfl, I59, X59, z59⟩
    refine W3 ?_
    have hit : wi.heap.size ≠ m := by have := hM.lt; omega
    refine .loop (S := Nat × World) (fun s => [(0, .pointer (some ⟨b, 0, none⟩)), (2, .slice (some ⟨bc, oc, none⟩) 1 kl), (15, i64 (keepL kvs rs.length s.1)), (59, .pointer (some ⟨wi.heap.size, 0, none⟩))]) (fun s => s.2) (fun s => s.1 ≤ kvs.length ∧ ItL s.2 wi.heap.size m kvs s.1 ∧ Ext (fun _ => False) wi s.2) (fun s => kvs.length - s.1) (0, w59) ⟨rfl, rfl, rfl, rfl, trivial⟩ rfl ⟨Nat.zero_le _, I59, X59⟩ ?_
    rintro ⟨j, wj⟩ J ⟨hle, It, Xj⟩ again2
    simp only at hle It Xj
    have zj := Xj.size
    change G _ [(0, .pointer (some ⟨b, 0, none⟩)), (2, .slice (some ⟨bc, oc, none⟩) 1 kl), (15, i64 (keepL kvs rs.length j)), (59, .pointer (some ⟨wi.heap.size, 0, none⟩))] _ _ wj
    refine W2 ?_
    refine .v rfl rfl (.nextL It hk1 hle hit rfl) ?_
    rintro _ w60 ⟨more, vs, rfl, hT, hF, E60, z60⟩
    refine W4 ?_
    refine .cond rfl (fun c61 => ?_) (fun c61 => ?_)
    · refine W5 ?_
      refine .p rfl rfl (.entryAt (hT c61).2 hk1 (hT c61).1 rfl) ?_
      refine W11 ?_
      exact (again2 (j + 1, w60) ⟨(hT c61).1, (hT c61).2, Xj.then E60 (by rintro k rfl _; exact Nat.le_refl _)⟩ (by have := (hT c61).1; show _ - (j + 1) < _ - j; omega)).of ⟨rfl, rfl, by rw [keepL_succ (hT c61).1]; rfl, rfl, trivial⟩
    · have X60 : Ext (fun _ => False) wi w60 := Xj.then E60 (by rintro k rfl _; exact Nat.le_refl _)
      clear Xj It
      obtain rfl : j = kvs.length := hF c61
      refine W7 ?_
      refine .p rfl rfl (.loadA (n := 3) rfl rfl rfl rfl rfl (hB.ext0 .au).three) ?_
      refine W2 ?_
      refine .cl rfl rfl rfl rfl (bPut_fn (keep := keepL kvs rs.length kvs.length) (disk.tDisk.ext0 (allOf hR) .au) (hg.ext0 .au) hb ((Sl tChange).ext0 hl .au) hw ha (keepL_bd (by omega) hk2 _ (Nat.le_refl _)) hr hal) ?_
      rintro _ w74 ⟨⟨u74, rfl, R74⟩, X74⟩
      have z74 := X74.size
      refine W17 ?_
      refine .ret _ rfl ?_
      exact ⟨⟨fun h => (by rw [hch (by omega)] at h; cases h), fun _ => ⟨u74, rfl, R74⟩⟩, .au⟩
end
end Go.Proofs.YthliepcjfnjnoaaGreatDoor
namespace Go.Proofs.YthliepcjfnjnoaaGreatDoor
open Go page tree batch
section
variable {w : World} {lo b : Nat} {d : disk.Disk} {kvs : List (Int × Int)} {n : Int} {rs : List Bs} {ls : List (List Change)} {S : List Entry}
theorem ActsX_fn {look : Int} {p vl : Value} (h : NoneT w p) : Fn Tryz.prog 29 [p, i64 look, vl] w (fun x w2 => x = .tuple #[.slice none 0 0, i64 1] ∧ Ext (fun _ => False) w w2) := by
  refine Fn.enter (fun w => Tryz.call29 _ w) Tryz.func29 rfl ?_
  refine W10 ?_
  refine .cl rfl rfl rfl rfl (momentX_fn h) ?_
  rintro _ w23 ⟨rfl, X23⟩
  have z23 := X23.size
  refine W11 ?_
  refine .p rfl rfl (.yes (.ne rfl rfl) (by decide)) ?_
  refine W10 ?_
  refine .ret _ rfl ?_
  exact ⟨rfl, X23⟩
theorem PutX_fn {look : Int} {p vl : Value} (h : NoneT w p) : Fn Tryz.prog 12 [p, i64 look, vl] w (fun x w2 => x = i64 1 ∧ Ext (fun _ => False) w w2) := by
  refine Fn.enter (fun w => Tryz.call12 _ w) Tryz.func12 rfl ?_
  refine W10 ?_
  refine .cl rfl rfl rfl rfl (ActsX_fn h) ?_
  rintro _ w14 ⟨rfl, X14⟩
  have z14 := X14.size
  refine W11 ?_
  refine .p rfl rfl (.yes (.ne rfl rfl) (by decide)) ?_
  refine W9 ?_
  refine .ret _ rfl ?_
  exact ⟨rfl, X14⟩
theorem PutRace_fn {look q : Int} {vl : Value} {c : Change} {r : Bs} {a : List disk.Act} (h : StoreP lo w b d kvs n) (hg : files.GOK w) (hb : BOK d rs ls S) (hl : (Sl tChange).rep All w vl [c]) (hm : momL kvs rs.length look = (q, 0)) (hq : -9223372036854775808 ≤ q ∧ q ≤ 9223372036854775807) (hw : wF [c] ((rs.length : Int) + 1) = (r, 0)) (hk1 : kvs.length ≤ 1) (hk2 : ∀ p ∈ kvs, 0 ≤ p.2) (ha : log.addF d r = (a, 0)) (hr : r.length ≤ 112) (hal : a.length ≤ 1000) (hn : chgd S rs.length c.key q rs.length = true) : Fn Tryz.prog 12 [.pointer (some ⟨b, 0, none⟩), i64 look, vl] w (fun x w2 => x = i64 131 ∧ Ext (fun _ => False) w w2) := by
  refine Fn.enter (fun w => Tryz.call12 _ w) Tryz.func12 rfl ?_
  refine W10 ?_
  refine .cl rfl rfl rfl rfl (Acts_fn h hg hb hl hm hq hw hk1 hk2 ha hr hal) ?_
  rintro x14 w14 ⟨⟨hA, _⟩, X14⟩
  obtain rfl := hA hn
  refine W11 ?_
  refine .p rfl rfl (.yes (.ne rfl rfl) (by decide)) ?_
  refine W9 ?_
  refine .ret _ rfl ?_
  exact ⟨rfl, X14⟩
theorem Put_fnB {look q : Int} {vl : Value} {c : Change} {r : Bs} {a : List disk.Act} (h : StoreP lo w b d kvs n) (hg : files.GOK w) (hb : BOK d rs ls S) (hl : (Sl tChange).rep All w vl [c]) (hm : momL kvs rs.length look = (q, 0)) (hq : -9223372036854775808 ≤ q ∧ q ≤ 9223372036854775807) (hw : wF [c] ((rs.length : Int) + 1) = (r, 0)) (hk1 : kvs.length ≤ 1) (hk2 : ∀ p ∈ kvs, 0 ≤ p.2) (ha : log.addF d r = (a, 0)) (hr : r.length ≤ 112) (hal : a.length ≤ 1000) {x : disk.Disk} (hn : chgd S rs.length c.key q rs.length = false) (hx1 : disk.doF d (a ++ [⟨true, ⟨0, []⟩⟩]) = (x, 0)) : Fn Tryz.prog 12 [.pointer (some ⟨b, 0, none⟩), i64 look, vl] w (fun y w2 => y = i64 0 ∧ StoreP lo w2 b x kvs n ∧ Ext (fun k => lo ≤ k) w w2) := by
  obtain ⟨a1, k1, a2, k2, m, hB, hR, hM, hne, hl1, hl2⟩ := id h
  refine Fn.enter (fun w => Tryz.call12 _ w) Tryz.func12 rfl ?_
  refine W10 ?_
  refine .cl rfl rfl rfl rfl (Acts_fn h hg hb hl hm hq hw hk1 hk2 ha hr hal) ?_
  rintro x14 w14 ⟨⟨_, hA⟩, X14⟩
  obtain ⟨u14, rfl, R14⟩ := hA hn
  obtain ⟨au, ku, rfl, _⟩ := Sl.val R14
  have z14 := X14.size
  refine W11 ?_
  refine .p rfl rfl (.no (.ne rfl rfl) (fun h => h rfl)) ?_
  refine W10 ?_
  refine .p rfl rfl (.loadA (n := 3) rfl rfl rfl rfl rfl (hB.ext0 .au).three) ?_
  refine W1 ?_
  refine .cl rfl rfl rfl rfl (Do_fn (d := d) (disk.tDisk.ext0 (allOf hR) .au) R14) ?_
  rintro _ w26 ⟨v26, rfl, D26, X26⟩
  have z26 := X26.size
  rw [hx1] at D26 ⊢
  have R26 := D26.rep
  obtain ⟨a3, k3, a4, k4, rfl⟩ := shapeD R26
  refine W3 ?_
  refine .v rfl rfl (.alloc rfl rfl) ?_
  rintro _ wn9 ⟨rfl, N9⟩
  refine .s rfl (.storeAll (n := 3) rfl rfl rfl rfl rfl N9.blk rfl) ?_
  intro w9 P9
  have Y9 := N9.ext.then P9.ext (by rintro k rfl _; exact Nat.le_refl _)
  have zy9 := Y9.size
  have B9 := P9.blk
  clear P9 N9
  refine W5 ?_
  refine .keep [(8, _), (9, _), (0, _)] ⟨rfl, rfl, rfl, trivial⟩ ?_
  refine W2 ?_
  refine .p rfl rfl (.yes (.eq rfl rfl) (rfl)) ?_
  refine W5 ?_
  refine .p rfl rfl (.loadA (n := 3) rfl rfl rfl rfl rfl (B9.ext0 .au).cells) ?_
  refine W2 ?_
  refine .s rfl (.storeA (n := 3) (i := 0) rfl rfl rfl rfl rfl (hB.ext0 .au) (show (0 + 3 : Nat) ≤ 6 by decide)) ?_
  intro wz Pz
  have lb := hB.lt
  have lm := hM.lt
  refine W8 ?_
  refine .ret _ rfl ?_
  exact ⟨rfl, ⟨a3, k3, a4, k4, m, Pz.blk, disk.tDisk.ext (disk.tDisk.mono (disk.tDisk.ext0 R26 Y9) (P' := fun k => ¬ k = b ∧ ¬ k = m) (fun k hk _ => by have hk : w14.heap.size ≤ k := hk; omega)) Pz.ext (fun k hk _ he => hk.1 he), (hM.ext0 .au).ext Pz.ext hne, hne, hl1, hl2⟩, Ext.trans (Ext.mono (show Ext (fun _ => False) w w9 from .au) (fun _ _ h => h.elim)) (Pz.ext.mono (fun k _ he => by have he : k = b := he; show lo ≤ k; omega))⟩
theorem New_fnB {v : Value} (hR : disk.tDisk.rep All w v d) (hg : files.GOK w) (hb : BOK d rs ls S) : Fn Tryz.prog 18 [v] w (fun r w2 => (∃ b, r = .tuple #[.pointer (some ⟨b, 0, none⟩), i64 0] ∧ StoreP w.heap.size w2 b d [] 0) ∧ Ext (fun _ => False) w w2) := by
  obtain ⟨a1, k1, a2, k2, rfl⟩ := shapeD hR
  have hx1 : disk.doF d [] = (d, 0) := by unfold disk.doF; rw [if_neg (fun h => h hb.tok.ck)]; rfl
  refine Fn.enter (fun w => Tryz.call18 _ w) Tryz.func18 rfl ?_
  refine W2 ?_
  refine .v rfl rfl (.box rfl) ?_
  rintro _ w1 ⟨rfl, N1⟩
  have B1 := N1.blk
  have X1 := N1.ext
  have z1 := N1.size
  refine W7 ?_
  refine .p rfl rfl (.loadA (n := 3) rfl rfl rfl rfl rfl (B1.ext0 .au).cells) ?_
  refine .cl rfl rfl rfl rfl (bOpen_fn (disk.tDisk.ext0 hR .au) (hg.ext0 .au) hb) ?_
  rintro _ w9 ⟨rfl, X9⟩
  have z9 := X9.size
  refine W10 ?_
  refine .p rfl rfl (.no (.ne rfl rfl) (fun h => h rfl)) ?_
  refine W7 ?_
  refine .p rfl rfl (.loadA (n := 3) rfl rfl rfl rfl rfl (B1.ext0 .au).cells) ?_
  refine .cl rfl rfl rfl rfl (Do_fn (d := d) (l := []) (disk.tDisk.ext0 hR .au) Sl.nil) ?_
  rintro _ w17 ⟨v17, rfl, D17, X17⟩
  have z17 := X17.size
  rw [hx1] at D17 ⊢
  have R17 := D17.rep
  obtain ⟨a3, k3, a4, k4, rfl⟩ := shapeD R17
  refine W3 ?_
  refine .s rfl (.storeAll (n := 3) rfl rfl rfl rfl rfl (B1.ext0 .au) rfl) ?_
  intro w4 P4
  have zp := P4.ext.size
  have R4 := disk.tDisk.ext R17 P4.ext (fun k hk _ he => by have hk : w9.heap.size ≤ k := hk; have he : k = w.heap.size := he; omega)
  have Y4 : Ext (fun _ => False) w w4 := Ext.then (show Ext (fun _ => False) w w17 from .au) P4.ext (by rintro k rfl _; exact Nat.le_refl _)
  have B4 := P4.blk
  refine W7 ?_
  refine .p rfl rfl (.no (.ne rfl rfl) (fun h => h rfl)) ?_
  refine W7 ?_
  refine .p rfl rfl (.loadA (n := 3) rfl rfl rfl rfl rfl B4.cells) ?_
  refine .v rfl rfl (.makeMapL) ?_
  rintro _ w24 ⟨rfl, M24, X24, z24⟩
  refine .p rfl rfl (.build (cs := [i64 d.count, .slice a3 d.data.length k3, .slice a4 d.waits.length k4, .map (some w4.heap.size), i64 0, .bool true]) rfl (fun _ => by kernel_rfl)) ?_
  refine .v rfl rfl (.box rfl) ?_
  rintro _ w26 ⟨rfl, N26⟩
  have B26 := N26.blk
  have X26 := N26.ext
  have z26 := N26.size
  refine W4 ?_
  refine .ret _ rfl ?_
  exact ⟨⟨w24.heap.size, rfl, ⟨a3, k3, a4, k4, w4.heap.size, B26, disk.tDisk.mono (disk.tDisk.ext0 (disk.tDisk.mono R4 (P' := fun k => k < w4.heap.size) (fun k _ hl => hl)) (X24.trans X26)) (fun k hk _ => by have hk : k < w4.heap.size := hk; omega), M24.ext X26 (fun h => h), by omega, by omega, by omega⟩⟩, .au⟩
theorem readX_fn {v : Value} {x : List Bs} {e : Int} (hR : disk.tDisk.rep All w v d) (hg : files.GOK w) (he : files.namesF d = (x, e)) (hne : ¬ e = 0) : Fn Tryz.prog 38 [v] w (fun r w2 => r = .tuple #[.pointer none, i64 e] ∧ Ext (fun _ => False) w w2) := by
  obtain ⟨a1, k1, a2, k2, rfl⟩ := shapeD hR
  refine Fn.enter (fun w => Tryz.call38 _ w) Tryz.func38 rfl ?_
  refine W2 ?_
  refine .v rfl rfl (.box rfl) ?_
  rintro _ w1 ⟨rfl, N1⟩
  have B1 := N1.blk
  have X1 := N1.ext
  have z1 := N1.size
  refine W6 ?_
  refine .p rfl rfl (.loadA (n := 3) rfl rfl rfl rfl rfl (B1.ext0 .au).cells) ?_
  refine .cl rfl rfl rfl rfl (Names_fn (d := d) (disk.tDisk.ext0 hR .au) (hg.ext0 .au)) ?_
  rintro _ w34 ⟨v34, rfl, O34, X34⟩
  have z34 := X34.size
  rw [he]
  refine W11 ?_
  refine .p rfl rfl (.yes (.ne rfl rfl) (hne)) ?_
  refine W10 ?_
  refine .ret _ rfl ?_
  exact ⟨rfl, .au⟩
theorem OpenX_fn {v : Value} {x : List Bs} {e : Int} (hR : disk.tDisk.rep All w v d) (hg : files.GOK w) (he : files.namesF d = (x, e)) (hne : ¬ e = 0) : Fn Tryz.prog 34 [v] w (fun r w2 => r = .tuple #[i64 0, i64 e] ∧ Ext (fun _ => False) w w2) := by
  obtain ⟨a1, k1, a2, k2, rfl⟩ := shapeD hR
  refine Fn.enter (fun w => Tryz.call34 _ w) Tryz.func34 rfl ?_
  refine W2 ?_
  refine .v rfl rfl (.box rfl) ?_
  rintro _ w1 ⟨rfl, N1⟩
  have B1 := N1.blk
  have X1 := N1.ext
  have z1 := N1.size
  refine W6 ?_
  refine .p rfl rfl (.loadA (n := 3) rfl rfl rfl rfl rfl (B1.ext0 .au).cells) ?_
  refine .cl rfl rfl rfl rfl (readX_fn (d := d) (disk.tDisk.ext0 hR .au) (hg.ext0 .au) he hne) ?_
  rintro _ w8 ⟨rfl, X8⟩
  have z8 := X8.size
  refine W11 ?_
  refine .p rfl rfl (.yes (.ne rfl rfl) (hne)) ?_
  refine W10 ?_
  refine .ret _ rfl ?_
  exact ⟨rfl, .au⟩
theorem NewX_fn {v : Value} {x : List Bs} {e : Int} (hR : disk.tDisk.rep All w v d) (hg : files.GOK w) (he : files.namesF d = (x, e)) (hne : ¬ e = 0) : Fn Tryz.prog 18 [v] w (fun r w2 => r = .tuple #[.pointer none, i64 e] ∧ Ext (fun _ => False) w w2) := by
  obtain ⟨a1, k1, a2, k2, rfl⟩ := shapeD hR
  refine Fn.enter (fun w => Tryz.call18 _ w) Tryz.func18 rfl ?_
  refine W2 ?_
  refine .v rfl rfl (.box rfl) ?_
  rintro _ w1 ⟨rfl, N1⟩
  have B1 := N1.blk
  have X1 := N1.ext
  have z1 := N1.size
  refine W7 ?_
  refine .p rfl rfl (.loadA (n := 3) rfl rfl rfl rfl rfl (B1.ext0 .au).cells) ?_
  refine .cl rfl rfl rfl rfl (OpenX_fn (d := d) (disk.tDisk.ext0 hR .au) (hg.ext0 .au) he hne) ?_
  rintro _ w9 ⟨rfl, X9⟩
  have z9 := X9.size
  refine W10 ?_
  refine .p rfl rfl (.yes (.ne rfl rfl) (hne)) ?_
  refine W10 ?_
  refine .ret _ rfl ?_
  exact ⟨rfl, .au⟩
end
end Go.Proofs.YthliepcjfnjnoaaGreatDoor
namespace Go.Proofs.YthliepcjfnjnoaaGreatDoor
open Go page
namespace tree
def cK (k v : UInt8) : Change := ⟨[k], [v], false⟩
def eK (k v : UInt8) (n : Int) : Entry := ⟨[k], [v], n, false⟩
instance (a b : Entry) : Decidable (gtE a b) := by unfold gtE; infer_instance
def S12 : List Entry := [eK 97 120 1, eK 98 121 1]
theorem g12 : getT S12 1 [97] 1 = ([120], true, 0) := by decide
end tree
end Go.Proofs.YthliepcjfnjnoaaGreatDoor
namespace Go.Proofs.YthliepcjfnjnoaaGreatDoor
open Go page tree
namespace batch
theorem wAX : wF [cK 97 120] 1 = ([1, 1, 1, 97, 0, 1, 120], 0) := by
  have h : bodyC [cK 97 120] 1 = [1, 1, 1, 97, 0, 1, 120] := by rfl
  rw [wF_0 (by decide) (by decide) (by decide) (by rfl) (by rw [h]; decide), h]
theorem wAY : wF [cK 97 121] 2 = ([2, 1, 1, 97, 0, 1, 121], 0) := by
  have h : bodyC [cK 97 121] 2 = [2, 1, 1, 97, 0, 1, 121] := by rfl
  rw [wF_0 (by decide) (by decide) (by decide) (by rfl) (by rw [h]; decide), h]
theorem wAZ : wF [cK 97 122] 3 = ([3, 1, 1, 97, 0, 1, 122], 0) := by
  have h : bodyC [cK 97 122] 3 = [3, 1, 1, 97, 0, 1, 122] := by rfl
  rw [wF_0 (by decide) (by decide) (by decide) (by rfl) (by rw [h]; decide), h]
theorem wBZ : wF [cK 98 122] 3 = ([3, 1, 1, 98, 0, 1, 122], 0) := by
  have h : bodyC [cK 98 122] 3 = [3, 1, 1, 98, 0, 1, 122] := by rfl
  rw [wF_0 (by decide) (by decide) (by decide) (by rfl) (by rw [h]; decide), h]
def S1 : List Entry := [eK 97 120 1]
def S2 : List Entry := [eK 97 121 2, eK 97 120 1]
def S3 : List Entry := [eK 97 121 2, eK 97 120 1, eK 98 122 3]
theorem put1 {d : disk.Disk} (h : BOK d [] [] []) : ∃ a x, log.addF d [1, 1, 1, 97, 0, 1, 120] = (a, 0) ∧ disk.doF d (a ++ [⟨true, ⟨0, []⟩⟩]) = (x, 0) ∧ a.length ≤ 1000 ∧ BOK x [[1, 1, 1, 97, 0, 1, 120]] [[cK 97 120]] S1 :=
  h.put wAX (by decide) (by decide) (by decide) (by decide) (by decide) (fun a b ha hb => (by decide : ∀ a ∈ S1, ∀ b ∈ S1, gtE a b → gtE b a → a = b) a ha b hb)
theorem put2 {d : disk.Disk} (h : BOK d [[1, 1, 1, 97, 0, 1, 120]] [[cK 97 120]] S1) : ∃ a x, log.addF d [2, 1, 1, 97, 0, 1, 121] = (a, 0) ∧ disk.doF d (a ++ [⟨true, ⟨0, []⟩⟩]) = (x, 0) ∧ a.length ≤ 1000 ∧ BOK x [[1, 1, 1, 97, 0, 1, 120], [2, 1, 1, 97, 0, 1, 121]] [[cK 97 120], [cK 97 121]] S2 :=
  h.put wAY (by decide) (by decide) (by decide) (by decide) (by decide) (fun a b ha hb => (by decide : ∀ a ∈ S2, ∀ b ∈ S2, gtE a b → gtE b a → a = b) a ha b hb)
theorem put3 {d : disk.Disk} (h : BOK d [[1, 1, 1, 97, 0, 1, 120], [2, 1, 1, 97, 0, 1, 121]] [[cK 97 120], [cK 97 121]] S2) : ∃ a x, log.addF d [3, 1, 1, 98, 0, 1, 122] = (a, 0) ∧ disk.doF d (a ++ [⟨true, ⟨0, []⟩⟩]) = (x, 0) ∧ a.length ≤ 1000 ∧ BOK x [[1, 1, 1, 97, 0, 1, 120], [2, 1, 1, 97, 0, 1, 121], [3, 1, 1, 98, 0, 1, 122]] [[cK 97 120], [cK 97 121], [cK 98 122]] S3 :=
  h.put wBZ (by decide) (by decide) (by decide) (by decide) (by decide) (fun a b ha hb => (by decide : ∀ a ∈ S3, ∀ b ∈ S3, gtE a b → gtE b a → a = b) a ha b hb)
theorem g1 : getT S2 2 [97] 1 = ([120], true, 0) := by decide
theorem g2 : getT S2 2 [97] 2 = ([121], true, 0) := by decide
theorem g3 : getT S3 3 [98] 1 = ([], false, 0) := by decide
theorem r1 : chgd S2 2 [97] 1 2 = true := by decide
theorem r2 : chgd S2 2 [98] 1 2 = false := by decide
end batch
end Go.Proofs.YthliepcjfnjnoaaGreatDoor
namespace Go.Proofs.YthliepcjfnjnoaaGreatDoor
open Go page tree batch
theorem putB_fn {w : World} {k v : Bs} : Fn Tryz.prog 13 [str k, str v] w (fun r w2 => r = .agg #[str k, str v, .bool false] ∧ Ext (fun _ => False) w w2) := by
  refine Fn.enter (fun w => Tryz.call13 _ w) Tryz.func13 rfl ?_
  refine W2 ?_
  refine .v rfl rfl (.alloc rfl rfl) ?_
  rintro _ w4 ⟨rfl, N4⟩
  refine W6 ?_
  refine .p rfl rfl (.build (cs := [str k, str v, .bool false]) rfl (fun _ => by kernel_rfl)) ?_
  refine .s rfl (.storeAll (n := 3) rfl rfl rfl rfl rfl N4.blk rfl) ?_
  intro wz P4
  refine W2 ?_
  refine .retR (.cell (n := 3) rfl rfl rfl rfl rfl (P4.blk.cells) .nil) ?_
  exact ⟨rfl, N4.ext.then P4.ext (by rintro k rfl _; exact Nat.le_refl _)⟩
theorem store_fn {w : World} (hg : files.GOK w) : Fn Tryz.prog 11 [] w (fun r w2 => (∃ b d, r = .pointer (some ⟨b, 0, none⟩) ∧ StoreP w.heap.size w2 b d [] 0 ∧ BOK d [] [] []) ∧ Ext (fun _ => False) w w2) := by
  refine Fn.enter (fun w => Tryz.call11 _ w) Tryz.func11 rfl ?_
  refine W7 ?_
  refine .cl rfl rfl rfl rfl (tFormat_fn hg) ?_
  rintro _ w6 ⟨⟨v6, x0, rfl, R6, T6⟩, X6⟩
  have z6 := X6.size
  obtain ⟨a1, k1, a2, k2, rfl⟩ := shapeD R6
  refine W3 ?_
  refine .v rfl rfl (.alloc rfl rfl) ?_
  rintro _ wn1 ⟨rfl, N1⟩
  refine .s rfl (.storeAll (n := 3) rfl rfl rfl rfl rfl N1.blk rfl) ?_
  intro w1 P1
  have Y1 := N1.ext.then P1.ext (by rintro k rfl _; exact Nat.le_refl _)
  have zy1 := Y1.size
  have B1 := P1.blk
  clear P1 N1
  refine W5 ?_
  refine .p rfl rfl (.loadA (n := 3) rfl rfl rfl rfl rfl (B1.ext0 .au).cells) ?_
  refine .cl rfl rfl rfl rfl (New_fnB (disk.tDisk.ext0 R6 .au) (hg.ext0 .au) (BOK.new T6)) ?_
  rintro _ w11 ⟨⟨b, rfl, P11⟩, X11⟩
  have z11 := X11.size
  refine W11 ?_
  refine .p rfl rfl (.no (.ne rfl rfl) (fun h => h rfl)) ?_
  refine W2 ?_
  refine .p rfl rfl (.no (.ne rfl rfl) (fun h => h rfl)) ?_
  refine W12 ?_
  refine .ret _ rfl ?_
  exact ⟨⟨b, x0, rfl, by obtain ⟨q1, q2, q3, q4, m, h1, h2, h3, h4, h5, h6⟩ := P11; exact ⟨q1, q2, q3, q4, m, h1, h2, h3, h4, by omega, by omega⟩, BOK.new T6⟩, .au⟩
theorem bAlive_fn {w : World} (hg : files.GOK w) : Fn Tryz.prog 10 [] w (fun r w2 => r = .bool true ∧ Ext (fun _ => False) w w2) := by
  have hlo := hg.lt
  refine Fn.enter (fun w => Tryz.call10 _ w) Tryz.func10 rfl ?_
  refine W7 ?_
  refine .cl rfl rfl rfl rfl (store_fn hg) ?_
  rintro _ w12 ⟨⟨b, d0, rfl, P12, hb0⟩, X12⟩
  have T12 : Ext (fun k => w.heap.size ≤ k) w w12 := X12.mono (fun _ _ h => h.elim)
  have g12 := hg.ext0 X12
  obtain ⟨a1, x1, ha1, hx1, hl1, hb1⟩ := put1 hb0
  obtain ⟨a2, x2, ha2, hx2, hl2, hb2⟩ := put2 hb1
  clear X12
  refine W7 ?_
  refine .p rfl rfl (.eqPS rfl rfl) ?_
  refine W8 ?_
  refine .cl rfl rfl rfl rfl (putB_fn) ?_
  rintro _ w16 ⟨rfl, X16⟩
  have z16 := X16.size
  refine .v rfl rfl (.lits rfl rfl (fun _ => by kernel_rfl)) ?_
  rintro _ w17 ⟨rfl, N17⟩
  have R17 : (Sl tChange).rep All w17 (.slice _ 1 1) [cK 97 120] := Sl.mk (us := [_]) (.cons (tChange.mk (x := cK 97 120) (show (1 : Nat) < Lim by decide) (show (1 : Nat) < Lim by decide)) .nil) (by have := N17.blk.cells; exact this) trivial N17.blk.lt (by simp) (by simp [Lim]) rfl
  have X17 := N17.ext
  have z17 := N17.size
  refine .cl rfl rfl rfl rfl (Put_fnB (x := x1) (P12.ext0 .au) (g12.ext0 .au) hb0 R17 mom0 ⟨by decide, by decide⟩ wAX (by decide) (by simp) ha1 (by decide) hl1 (chgd_eq rfl) hx1) ?_
  rintro _ w18 ⟨rfl, P18, V18⟩
  have g18 : files.GOK w18 := (g12.ext0 .au).ext V18 (fun he => by have he : w.heap.size ≤ _ := he; omega)
  have T18 : Ext (fun k => w.heap.size ≤ k) _ w18 := (T12.trans (Ext.mono (S := fun _ => False) .au (fun _ _ h => h.elim))).trans V18
  refine W6 ?_
  refine .cl rfl rfl rfl rfl (Look_fn (P18.ext0 .au) (g18.ext0 .au) hb1 hlo (by decide) (by simp) ⟨by decide, by decide⟩) ?_
  rintro _ w21 ⟨rfl, P21, V21⟩
  have g21 : files.GOK w21 := (g18.ext0 .au).ext V21 (fun he => by have he : w.heap.size ≤ _ := he; omega)
  have T21 : Ext (fun k => w.heap.size ≤ k) _ w21 := (T18.trans (Ext.mono (S := fun _ => False) .au (fun _ _ h => h.elim))).trans V21
  have P21 : StoreP w.heap.size w21 b x1 [(1, 1)] 1 := P21
  refine W10 ?_
  refine .cl rfl rfl rfl rfl (putB_fn) ?_
  rintro _ w25 ⟨rfl, X25⟩
  have z25 := X25.size
  refine .v rfl rfl (.lits rfl rfl (fun _ => by kernel_rfl)) ?_
  rintro _ w26 ⟨rfl, N26⟩
  have R26 : (Sl tChange).rep All w26 (.slice _ 1 1) [cK 97 121] := Sl.mk (us := [_]) (.cons (tChange.mk (x := cK 97 121) (show (1 : Nat) < Lim by decide) (show (1 : Nat) < Lim by decide)) .nil) (by have := N26.blk.cells; exact this) trivial N26.blk.lt (by simp) (by simp [Lim]) rfl
  have X26 := N26.ext
  have z26 := N26.size
  refine .cl rfl rfl rfl rfl (Put_fnB (x := x2) (P21.ext0 .au) (g21.ext0 .au) hb1 R26 mom0 ⟨by decide, by decide⟩ wAY (by decide) (by simp) ha2 (by decide) hl2 (chgd_eq rfl) hx2) ?_
  rintro _ w27 ⟨rfl, P27, V27⟩
  have g27 : files.GOK w27 := (g21.ext0 .au).ext V27 (fun he => by have he : w.heap.size ≤ _ := he; omega)
  have T27 : Ext (fun k => w.heap.size ≤ k) _ w27 := (T21.trans (Ext.mono (S := fun _ => False) .au (fun _ _ h => h.elim))).trans V27
  refine W7 ?_
  refine .cl rfl rfl rfl rfl (Get_fnB (q := 1) (P27.ext0 .au) (g27.ext0 .au) hb2 (by decide) (by decide) ⟨by decide, by decide⟩) ?_
  rintro _ w31 ⟨rfl, X31⟩
  rw [show getT S2 (List.length [[(1 : UInt8), 1, 1, 97, 0, 1, 120], [2, 1, 1, 97, 0, 1, 121]]) [97] 1 = ([120], true, 0) from g1]
  refine W10 ?_
  refine .keep [(8, _), (7, _), (6, _), (5, _), (4, _), (3, _), (2, _), (1, _)] ⟨rfl, rfl, rfl, rfl, rfl, rfl, rfl, rfl, trivial⟩ ?_
  refine W2 ?_
  refine .cl rfl rfl rfl rfl (Get_fnB (P27.ext0 .au) (g27.ext0 .au) hb2 mom0 (by decide) ⟨by decide, by decide⟩) ?_
  rintro _ w37 ⟨rfl, X37⟩
  rw [show getT S2 (List.length [[(1 : UInt8), 1, 1, 97, 0, 1, 120], [2, 1, 1, 97, 0, 1, 121]]) [97] (List.length [[(1 : UInt8), 1, 1, 97, 0, 1, 120], [2, 1, 1, 97, 0, 1, 121]]) = ([121], true, 0) from g2]
  refine W12 ?_
  refine .p rfl rfl (.yes (.eq rfl rfl) (rfl)) ?_
  refine W2 ?_
  refine .p rfl rfl (.yes (.eq rfl rfl) (rfl)) ?_
  refine W3 ?_
  refine .p rfl rfl (.yes (.eq rfl rfl) (rfl)) ?_
  refine W3 ?_
  refine .p rfl rfl (.yes (.eq rfl rfl) (rfl)) ?_
  refine W3 ?_
  refine .p rfl rfl (.yes (.eq rfl rfl) (rfl)) ?_
  refine W3 ?_
  refine .p rfl rfl (.yes (.eq rfl rfl) (rfl)) ?_
  refine W6 ?_
  refine .p rfl rfl (.yes (.eqS rfl rfl) rfl) ?_
  refine W6 ?_
  refine .p rfl rfl (.yes (.eqS rfl rfl) rfl) ?_
  refine W4 ?_
  refine .ret _ rfl ?_
  exact ⟨rfl, (Ext.refl w).then (T27.trans (Ext.mono (S := fun _ => False) .au (fun _ _ h => h.elim))) (fun k h _ => h)⟩
end Go.Proofs.YthliepcjfnjnoaaGreatDoor
namespace Go.Proofs.YthliepcjfnjnoaaGreatDoor
open Go page tree batch
def lks (j : Nat) : List (Int × Int) := (List.range j).map (fun (i : Nat) => ((i : Int) + 2, 3))
theorem lks_len (j : Nat) : (lks j).length = j := by simp [lks]
theorem lks_succ (j : Nat) : lks (j + 1) = lks j ++ [((j : Int) + 2, 3)] := by simp [lks, List.range_succ]
theorem lks_le {j : Nat} : ∀ p ∈ lks j, p.1 ≤ (j : Int) + 1 := by
  intro p hp
  simp only [lks, List.mem_map, List.mem_range] at hp
  obtain ⟨i, hi, rfl⟩ := hp
  show (i : Int) + 2 ≤ _
  omega
theorem names_zero : files.namesF ⟨0, [], []⟩ = ([], 20) := by
  have h : files.mountF ⟨0, [], []⟩ = (files.nodir, 0, 20) := by
    have h1 : disk.checkF ⟨0, [], []⟩ = 20 := by decide
    rw [files.mountF_e (by rw [h1]; decide), h1]
  unfold files.namesF
  rw [h]
  rfl
theorem zero_rep {w : World} : disk.tDisk.rep All w (.agg #[i64 0, .slice none 0 0, .slice none 0 0]) ⟨0, [], []⟩ := disk.tDisk.mk (d := ⟨0, [], []⟩) Sl.nil Sl.nil ⟨by decide, by decide⟩
theorem BatchNames_fn {w : World} (hg : files.GOK w) : Fn Tryz.prog 4 [] w (fun r w2 => r = .bool true ∧ Ext (fun _ => False) w w2) := by
  refine Fn.enter (fun w => Tryz.call4 _ w) Tryz.func4 rfl ?_
  refine W8 ?_
  refine .cl rfl rfl rfl rfl (bAlive_fn hg) ?_
  rintro _ w27 ⟨rfl, X27⟩
  have z27 := X27.size
  have hg27 := hg.ext0 X27
  have hlo := hg27.lt
  refine W8 ?_
  refine .cl rfl rfl rfl rfl (store_fn hg27) ?_
  rintro _ w29 ⟨⟨b, d0, rfl, P29, hb0⟩, X29⟩
  have T29 : Ext (fun k => w27.heap.size ≤ k) w27 w29 := X29.mono (fun _ _ h => h.elim)
  have g29 := hg27.ext0 X29
  obtain ⟨a1, x1, ha1, hx1, hl1, hb1⟩ := put1 hb0
  obtain ⟨a2, x2, ha2, hx2, hl2, hb2⟩ := put2 hb1
  obtain ⟨a3, x3, ha3, hx3, hl3, hb3⟩ := put3 hb2
  obtain ⟨aZ, xZ, haZ, _, hlZ, _⟩ := hb2.tok.add (r := [3, 1, 1, 97, 0, 1, 122]) (by decide) (by decide)
  clear X29
  refine W6 ?_
  refine .cl rfl rfl rfl rfl (putB_fn) ?_
  rintro _ w31 ⟨rfl, X31⟩
  have z31 := X31.size
  refine .v rfl rfl (.lits rfl rfl (fun _ => by kernel_rfl)) ?_
  rintro _ w32 ⟨rfl, N32⟩
  have R32 : (Sl tChange).rep All w32 (.slice _ 1 1) [cK 97 120] := Sl.mk (us := [_]) (.cons (tChange.mk (x := cK 97 120) (show (1 : Nat) < Lim by decide) (show (1 : Nat) < Lim by decide)) .nil) (by have := N32.blk.cells; exact this) trivial N32.blk.lt (by simp) (by simp [Lim]) rfl
  have X32 := N32.ext
  have z32 := N32.size
  refine .cl rfl rfl rfl rfl (Put_fnB (x := x1) (P29.ext0 .au) (g29.ext0 .au) hb0 R32 mom0 ⟨by decide, by decide⟩ wAX (by decide) (by simp) ha1 (by decide) hl1 (chgd_eq rfl) hx1) ?_
  rintro _ w33 ⟨rfl, P33, V33⟩
  have g33 : files.GOK w33 := (g29.ext0 .au).ext V33 (fun he => by have he : w27.heap.size ≤ _ := he; omega)
  have T33 : Ext (fun k => w27.heap.size ≤ k) _ w33 := (T29.trans (Ext.mono (S := fun _ => False) .au (fun _ _ h => h.elim))).trans V33
  refine W5 ?_
  refine .cl rfl rfl rfl rfl (Look_fn (P33.ext0 .au) (g33.ext0 .au) hb1 hlo (by decide) (by simp) ⟨by decide, by decide⟩) ?_
  rintro _ w35 ⟨rfl, P35, V35⟩
  have g35 : files.GOK w35 := (g33.ext0 .au).ext V35 (fun he => by have he : w27.heap.size ≤ _ := he; omega)
  have T35 : Ext (fun k => w27.heap.size ≤ k) _ w35 := (T33.trans (Ext.mono (S := fun _ => False) .au (fun _ _ h => h.elim))).trans V35
  have P35 : StoreP w27.heap.size w35 b x1 [(1, 1)] 1 := P35
  refine W5 ?_
  refine .cl rfl rfl rfl rfl (putB_fn) ?_
  rintro _ w37 ⟨rfl, X37⟩
  have z37 := X37.size
  refine .v rfl rfl (.lits rfl rfl (fun _ => by kernel_rfl)) ?_
  rintro _ w38 ⟨rfl, N38⟩
  have R38 : (Sl tChange).rep All w38 (.slice _ 1 1) [cK 97 121] := Sl.mk (us := [_]) (.cons (tChange.mk (x := cK 97 121) (show (1 : Nat) < Lim by decide) (show (1 : Nat) < Lim by decide)) .nil) (by have := N38.blk.cells; exact this) trivial N38.blk.lt (by simp) (by simp [Lim]) rfl
  have X38 := N38.ext
  have z38 := N38.size
  refine .cl rfl rfl rfl rfl (Put_fnB (x := x2) (P35.ext0 .au) (g35.ext0 .au) hb1 R38 mom0 ⟨by decide, by decide⟩ wAY (by decide) (by simp) ha2 (by decide) hl2 (chgd_eq rfl) hx2) ?_
  rintro _ w39 ⟨rfl, P39, V39⟩
  have g39 : files.GOK w39 := (g35.ext0 .au).ext V39 (fun he => by have he : w27.heap.size ≤ _ := he; omega)
  have T39 : Ext (fun k => w27.heap.size ≤ k) _ w39 := (T35.trans (Ext.mono (S := fun _ => False) .au (fun _ _ h => h.elim))).trans V39
  refine W5 ?_
  refine .cl rfl rfl rfl rfl (putB_fn) ?_
  rintro _ w41 ⟨rfl, X41⟩
  have z41 := X41.size
  refine .v rfl rfl (.lits rfl rfl (fun _ => by kernel_rfl)) ?_
  rintro _ w42 ⟨rfl, N42⟩
  have R42 : (Sl tChange).rep All w42 (.slice _ 1 1) [cK 97 122] := Sl.mk (us := [_]) (.cons (tChange.mk (x := cK 97 122) (show (1 : Nat) < Lim by decide) (show (1 : Nat) < Lim by decide)) .nil) (by have := N42.blk.cells; exact this) trivial N42.blk.lt (by simp) (by simp [Lim]) rfl
  have X42 := N42.ext
  have z42 := N42.size
  refine .cl rfl rfl rfl rfl (PutRace_fn (q := 1) (P39.ext0 .au) (g39.ext0 .au) hb2 R42 (by decide) ⟨by decide, by decide⟩ wAZ (by decide) (by simp) haZ (by decide) hlZ r1) ?_
  rintro _ w43 ⟨rfl, X43⟩
  have z43 := X43.size
  refine .p rfl rfl (.yes (.eq rfl rfl) (rfl)) ?_
  refine W2 ?_
  refine .cl rfl rfl rfl rfl (putB_fn) ?_
  rintro _ w47 ⟨rfl, X47⟩
  have z47 := X47.size
  refine .v rfl rfl (.lits rfl rfl (fun _ => by kernel_rfl)) ?_
  rintro _ w48 ⟨rfl, N48⟩
  have R48 : (Sl tChange).rep All w48 (.slice _ 1 1) [cK 98 122] := Sl.mk (us := [_]) (.cons (tChange.mk (x := cK 98 122) (show (1 : Nat) < Lim by decide) (show (1 : Nat) < Lim by decide)) .nil) (by have := N48.blk.cells; exact this) trivial N48.blk.lt (by simp) (by simp [Lim]) rfl
  have X48 := N48.ext
  have z48 := N48.size
  refine .cl rfl rfl rfl rfl (Put_fnB (x := x3) (q := 1) (P39.ext0 .au) (g39.ext0 .au) hb2 R48 (by decide) ⟨by decide, by decide⟩ wBZ (by decide) (by simp) ha3 (by decide) hl3 r2 hx3) ?_
  rintro _ w49 ⟨rfl, P49, V49⟩
  have g49 : files.GOK w49 := (g39.ext0 .au).ext V49 (fun he => by have he : w27.heap.size ≤ _ := he; omega)
  have T49 : Ext (fun k => w27.heap.size ≤ k) _ w49 := (T39.trans (Ext.mono (S := fun _ => False) .au (fun _ _ h => h.elim))).trans V49
  refine .p rfl rfl (.yes (.eq rfl rfl) (rfl)) ?_
  refine W5 ?_
  refine .keep [(2, _), (1, _)] ⟨rfl, rfl, trivial⟩ ?_
  refine W2 ?_
  refine .cl rfl rfl rfl rfl (Get_fnB (q := 1) (P49.ext0 .au) (g49.ext0 .au) hb3 (by decide) (by decide) ⟨by decide, by decide⟩) ?_
  rintro _ w54 ⟨rfl, X54⟩
  have z54 := X54.size
  rw [show getT S3 (List.length [[(1 : UInt8), 1, 1, 97, 0, 1, 120], [2, 1, 1, 97, 0, 1, 121], [3, 1, 1, 98, 0, 1, 122]]) [98] 1 = ([], false, 0) from g3]
  refine W12 ?_
  refine .cl rfl rfl rfl rfl (Drop_fn (look := 1) (v := 1) (P49.ext0 .au) (g49.ext0 .au) hb3 (by decide)) ?_
  rintro _ w59 ⟨rfl, P59, V59⟩
  have g59 : files.GOK w59 := (g49.ext0 .au).ext V59 (fun he => by have he : w27.heap.size ≤ _ := he; omega)
  have T59 : Ext (fun k => w27.heap.size ≤ k) _ w59 := (T49.trans (Ext.mono (S := fun _ => False) .au (fun _ _ h => h.elim))).trans V59
  refine W6 ?_
  refine .cl rfl rfl rfl rfl (GetNo_fn (q := 0) (P59.ext0 .au) (g59.ext0 .au) hb3 (by decide)) ?_
  rintro _ w62 ⟨rfl, X62⟩
  have z62 := X62.size
  refine W12 ?_
  refine .cl rfl rfl rfl rfl (Drop0_fn (P59.ext0 .au) (g59.ext0 .au) hb3) ?_
  rintro _ w67 ⟨rfl, X67⟩
  have z67 := X67.size
  refine W4 ?_
  refine .keep [(10, _), (9, _), (6, _), (5, _), (4, _), (2, _), (1, _)] ⟨rfl, rfl, rfl, rfl, rfl, rfl, rfl, trivial⟩ ?_
  refine W2 ?_
  refine .cl rfl rfl rfl rfl (Look_fn (P59.ext0 .au) (g59.ext0 .au) hb3 hlo (by decide) (by simp) ⟨by decide, by decide⟩) ?_
  rintro _ w70 ⟨rfl, P70, V70⟩
  have g70 : files.GOK w70 := (g59.ext0 .au).ext V70 (fun he => by have he : w27.heap.size ≤ _ := he; omega)
  have T70 : Ext (fun k => w27.heap.size ≤ k) _ w70 := (T59.trans (Ext.mono (S := fun _ => False) .au (fun _ _ h => h.elim))).trans V70
  have P70 : StoreP w27.heap.size w70 b x3 (lks 1) 2 := P70
  refine W14 ?_
  refine .p rfl rfl (.build (cs := [i64 0, .slice none 0 0, .slice none 0 0, .map none, i64 0, .bool false]) rfl (fun _ => by kernel_rfl)) ?_
  refine .v rfl rfl (.box rfl) ?_
  rintro _ w74 ⟨rfl, N74⟩
  have B74 := N74.blk
  have X74 := N74.ext
  have z74 := N74.size
  refine W6 ?_
  refine .cl rfl rfl rfl rfl (LookX_fn noneN_fn) ?_
  rintro _ w77 ⟨rfl, X77⟩
  have z77 := X77.size
  refine W8 ?_
  refine .keep [(16, _), (14, _), (13, _), (12, _), (11, _), (10, _), (9, _), (6, _), (5, _), (4, _), (2, _), (1, _)] ⟨rfl, rfl, rfl, rfl, rfl, rfl, rfl, rfl, rfl, rfl, rfl, rfl, trivial⟩ ?_
  refine W2 ?_
  refine .cl rfl rfl rfl rfl (GetX_fn (noneP_fn (B74.ext0 .au))) ?_
  rintro _ w82 ⟨rfl, X82⟩
  have z82 := X82.size
  refine W12 ?_
  refine .cl rfl rfl rfl rfl (DiskX_fn (noneP_fn (B74.ext0 .au))) ?_
  rintro _ w88 ⟨rfl, X88⟩
  have z88 := X88.size
  refine W3 ?_
  refine .v rfl rfl (.alloc rfl rfl) ?_
  rintro _ wn20 ⟨rfl, N20⟩
  refine .s rfl (.storeAll (n := 3) rfl rfl rfl rfl rfl N20.blk rfl) ?_
  intro w20 P20
  have Y20 := N20.ext.then P20.ext (by rintro k rfl _; exact Nat.le_refl _)
  have zy20 := Y20.size
  have B20 := P20.blk
  clear P20 N20
  refine W4 ?_
  refine .keep [(21, _), (19, _), (16, _), (13, _), (12, _), (11, _), (10, _), (9, _), (6, _), (5, _), (4, _), (2, _), (1, _)] ⟨rfl, rfl, rfl, rfl, rfl, rfl, rfl, rfl, rfl, rfl, rfl, rfl, rfl, trivial⟩ ?_
  refine W1 ?_
  refine .p rfl rfl (.build (cs := [i64 0, .slice none 0 0, .slice none 0 0]) rfl (fun _ => by kernel_rfl)) ?_
  refine .cl rfl rfl rfl rfl (NewX_fn (d := ⟨0, [], []⟩) zero_rep (g70.ext0 .au) names_zero (by decide)) ?_
  rintro _ w93 ⟨rfl, X93⟩
  have z93 := X93.size
  refine W14 ?_
  refine .loop (S := Nat × World) (fun s => [(1, .pointer (some ⟨b, 0, none⟩)), (2, .bool true), (4, .bool false), (5, i64 0), (6, i64 0), (9, i64 130), (10, i64 130), (11, i64 2), (12, i64 0), (13, .pointer none), (16, i64 1), (19, i64 1), (21, i64 1), (23, i64 20), (24, i64 s.1)]) (fun s => s.2) (fun s => 1 ≤ s.1 ∧ s.1 ≤ 64 ∧ StoreP w27.heap.size s.2 b x3 (lks s.1) ((s.1 : Int) + 1) ∧ files.GOK s.2 ∧ Ext (fun k => w27.heap.size ≤ k) w27 s.2) (fun s => 64 - s.1) (1, w93) ⟨rfl, rfl, rfl, rfl, rfl, rfl, rfl, rfl, rfl, rfl, rfl, rfl, rfl, rfl, rfl, trivial⟩ rfl ⟨Nat.le_refl _, (by decide : 1 ≤ 64), P70.ext0 .au, g70.ext0 .au, T70.trans (Ext.mono (S := fun _ => False) .au (fun _ _ h => h.elim))⟩ ?_
  rintro ⟨j, wj⟩ J ⟨hj1, hj2, Pi, gi, Ti⟩ again
  simp only at hj1 hj2 Pi gi Ti
  change G _ [(1, .pointer (some ⟨b, 0, none⟩)), (2, .bool true), (4, .bool false), (5, i64 0), (6, i64 0), (9, i64 130), (10, i64 130), (11, i64 2), (12, i64 0), (13, .pointer none), (16, i64 1), (19, i64 1), (21, i64 1), (23, i64 20), (24, i64 j)] _ _ wj
  refine W7 ?_
  refine .condD rfl (fun c97 => ?_) (fun c97 => ?_)
  · refine W6 ?_
    refine .cl rfl rfl rfl rfl (Look_fn Pi gi hb3 hlo (by rw [lks_len]; omega) lks_le ⟨by omega, by omega⟩) ?_
    rintro _ w101 ⟨rfl, P101, V101⟩
    have g101 := gi.ext V101 (fun he => by have he : w27.heap.size ≤ _ := he; omega)
    refine W8 ?_
    exact (again (j + 1, w101) ⟨by show 1 ≤ j + 1; omega, by show j + 1 ≤ 64; omega, by rw [lks_succ]; exact (show (j : Int) + 1 + 1 = (j : Int) + 2 by omega) ▸ P101, g101, Ti.trans V101⟩ (by show 64 - (j + 1) < 64 - j; omega)).of ⟨rfl, rfl, rfl, rfl, rfl, rfl, rfl, rfl, rfl, rfl, rfl, rfl, rfl, rfl, rfl, trivial⟩
  · refine W5 ?_
    refine .cl rfl rfl rfl rfl (LookMany_fn Pi (by rw [lks_len]; omega)) ?_
    rintro _ w104 ⟨rfl, X104⟩
    have z104 := X104.size
    refine W8 ?_
    refine .keep [(26, _), (2, _), (4, _), (5, _), (6, _), (9, _), (10, _), (11, _), (12, _), (13, _), (16, _), (19, _), (21, _), (23, _)] ⟨rfl, rfl, rfl, rfl, rfl, rfl, rfl, rfl, rfl, rfl, rfl, rfl, rfl, rfl, trivial⟩ ?_
    refine W10 ?_
    refine .p rfl rfl (.yes (.eq rfl rfl) (rfl)) ?_
    refine W3 ?_
    refine .p rfl rfl (.yes (.eq rfl rfl) (rfl)) ?_
    refine W3 ?_
    refine .p rfl rfl (.yes (.eq rfl rfl) (rfl)) ?_
    refine W3 ?_
    refine .p rfl rfl (.yes (.eq rfl rfl) (rfl)) ?_
    refine W3 ?_
    refine .p rfl rfl (.yes (.eq rfl rfl) (rfl)) ?_
    refine W3 ?_
    refine .p rfl rfl (.yes (.eq rfl rfl) (rfl)) ?_
    refine W3 ?_
    refine .p rfl rfl (.yes (.eq rfl rfl) (rfl)) ?_
    refine W3 ?_
    refine .p rfl rfl (.yes (.eq rfl rfl) (rfl)) ?_
    refine W3 ?_
    refine .p rfl rfl (.yes (.eq rfl rfl) (rfl)) ?_
    refine W3 ?_
    refine .cl rfl rfl rfl rfl (PutX_fn noneN_fn) ?_
    rintro _ w152 ⟨rfl, X152⟩
    refine .p rfl rfl (.yes (.eq rfl rfl) (rfl)) ?_
    refine W3 ?_
    refine .p rfl rfl (.yes (.eq rfl rfl) (rfl)) ?_
    refine W3 ?_
    refine .p rfl rfl (.yes (.eq rfl rfl) (rfl)) ?_
    refine W4 ?_
    refine .ret _ rfl ?_
    exact ⟨rfl, X27.trans ((Ext.refl w27).then ((Ti.trans (Ext.mono (S := fun _ => False) X104 (fun _ _ h => h.elim))).trans (Ext.mono (S := fun _ => False) X152 (fun _ _ h => h.elim))) (fun k h _ => h))⟩
end Go.Proofs.YthliepcjfnjnoaaGreatDoor
