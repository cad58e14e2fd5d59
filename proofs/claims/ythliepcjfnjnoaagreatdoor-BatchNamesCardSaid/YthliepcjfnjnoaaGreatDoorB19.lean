import Derived.Test.YthliepcjfnjnoaaGreatDoorB18
import Derived.Test.YthliepcjfnjnoaaGreatDoorB08
import Derived.Test.YthliepcjfnjnoaaGreatDoorB10
import Derived.Test.YthliepcjfnjnoaaGreatDoorB11
set_option linter.unusedVariables false
set_option linter.unusedSimpArgs false
set_option maxRecDepth 20000
namespace Go.Proofs.YthliepcjfnjnoaaGreatDoor
open Go
def tOwnG {α : Type} (t : Ty α) (E : TypeId) : Ty (List α) where
  size := 1
  rep P w v l := OwnO t (fun _ => False) E w v l P
  sz := by rintro P w v l h; obtain ⟨a, cap, rfl, _⟩ := h.val; rfl
  one := by rintro P w v l h u hu; obtain ⟨a, cap, rfl, _⟩ := h.val; simp [Value.cells] at hu; subst hu; rfl
  keep := by
    rintro P w w' v l h hk
    rcases h with h | ⟨b, h1, h2, h3⟩
    · exact .inl h
    · have hb := hk b h1 h2
      refine .inr ⟨b, h1, ?_, h3.keep hb (fun _ h _ => h.elim)⟩
      rcases Nat.lt_or_ge b w'.heap.size with h' | h'
      · exact h'
      · rw [Array.getElem?_eq_none h'] at hb
        simp [h2] at hb
  mono := fun h hk => OwnO.mono h (fun _ h _ => h) hk
theorem dk_ext {S : Nat → Prop} {w w' : World} {D : Nat} {o : Obj} (h : w.heap[D]? = some o) (hx : Ext S w w') (hs : ¬ S D) : w'.heap[D]? = some o := (hx.block D (Array.getElem?_eq_some_iff.1 h).1 hs).trans h
theorem dk_lt {w : World} {D : Nat} {o : Obj} (h : w.heap[D]? = some o) : D < w.heap.size := (Array.getElem?_eq_some_iff.1 h).1
theorem getTo_take (l : Bs) (n : Nat) : ∀ i, i ≤ n → getTo (l.take n) i = getTo l i
  | 0, _ => rfl
  | i + 1, h => by
    rw [getTo, getTo, getTo_take l n i (by omega), List.getD_eq_getElem?_getD, List.getD_eq_getElem?_getD, List.getElem?_take_of_lt (by omega)]
theorem Get8_fn {w : World} {v : Value} {b : Bs} {n : Nat} (hn : n = getTo b 8) (h : tBytes.rep All w v (b.take 8)) (hl : 8 ≤ b.length) : Fn Tryz.prog 80 [v] w (fun r w2 => r = .tuple #[.int .u64 (n : Nat), i64 0] ∧ Ext (fun _ => False) w w2) :=
  (Get_fn h).mono (fun r w2 ⟨hr, hx⟩ => ⟨by rw [hn, hr, if_pos (by rw [List.length_take]; omega), if_pos (by rw [List.length_take]; omega), getTo_take b 8 8 (by omega)], hx⟩)
theorem G.rangeFuncF {F : Fr} {e : Env} {k : List It} {w : World} {gf : Nat} {lb : List Value} {c : Operand} {ps : Array Tmp} {assign body : Code} {Jn : World → Prop}
    (hg : look e c = some (.func (.func gf) #[] lb.toArray)) (eg : ∀ args w, (callFunc gf args).run F.P w = .ok (.enter gf args) w)
    (hc : ∀ fn tmps, Ag F.z e ⟨tmps, F.z.D⟩ → Fn F.P gf (.func (.yield (w.heap.size + 1)) #[] #[] :: lb) ((w.alloc (.deferred (some []))).alloc (recOf fn tmps ps assign body w.heap.size .ready)) (fun r w3 => Between fn tmps ps assign body w.heap.size Jn w3))
    (next : ∀ fn tmps W, Jn W → W.heap[w.heap.size]? = some (.deferred (some [])) → w.heap.size + 1 < W.heap.size →
      A (F.off ⟨.collected w.heap.size, #[]⟩) e k (W.putObj (w.heap.size + 1) (recOf fn tmps ps assign body w.heap.size .exhausted))) :
    G F e (.rangeFunc c ps assign body) k w :=
  G.rangeFunc hg eg (fun fn tmps hag w' hs => ((hc fn tmps hag).2 w' hs).mono (by
    rintro en w3 ⟨r, w2', hs2, rfl, hb⟩
    exact ⟨⟨r, rfl⟩, hb.same hs2⟩)) next
namespace files
open room page
def tFileO : Ty File := (tStr.pair (tInt.pair (tOwnG tPiece 151))).map (fun x => (x.name, x.size, x.ps))
theorem tFileO.val {P : Nat → Prop} {w : World} {v : Value} {x : File} (h : tFileO.rep P w v x) : ∃ a cap, v = .agg #[str x.name, i64 x.size, .slice a x.ps.length cap] ∧ OwnO tPiece (fun _ => False) 151 w (.slice a x.ps.length cap) x.ps P ∧ x.name.length < Lim ∧ (-9223372036854775808 ≤ x.size ∧ x.size ≤ 9223372036854775807) := by
  obtain ⟨_, _, rfl, ⟨rfl, h1⟩, _, u, rfl, ⟨rfl, h2⟩, h3⟩ := h
  have h3 : OwnO tPiece (fun _ => False) 151 w u x.ps P := h3
  obtain ⟨a, cap, rfl, _⟩ := OwnO.val h3
  exact ⟨a, cap, rfl, h3, h1, h2⟩
theorem tFileO.mk {P : Nat → Prop} {w : World} {x : File} {a : Option Addr} {n cap : Nat} (h : OwnO tPiece (fun _ => False) 151 w (.slice a n cap) x.ps P) (h1 : x.name.length < Lim) (h2 : -9223372036854775808 ≤ x.size ∧ x.size ≤ 9223372036854775807) : tFileO.rep P w (.agg #[str x.name, i64 x.size, .slice a n cap]) x :=
  ⟨str x.name, .agg #[i64 x.size, .slice a n cap], rfl, ⟨rfl, h1⟩, i64 x.size, .slice a n cap, rfl, ⟨rfl, h2⟩, h⟩
theorem tFileO.weak {P : Nat → Prop} {w : World} {v : Value} {x : File} (h : tFileO.rep P w v x) : tFile.rep P w v x := by
  obtain ⟨a, cap, rfl, h3, h1, h2⟩ := tFileO.val h
  exact tFile.mk (OwnO.rep h3 (fun _ h _ => h) (fun _ h _ => h.elim)) h1 h2
theorem own_files {P Q B : Nat → Prop} {w : World} {v : Value} {l : List File} (h : OwnO tFileO Q 149 w v l B) (hb : ∀ k, B k → P k) (hq : ∀ k, Q k → P k) : (Sl tFile).rep P w v l :=
  Sl.imp (OwnO.rep h (fun k h _ => hb k h) (fun k h _ => hq k h)) (fun u x h => tFileO.weak h)
theorem innerD_length (b : Bs) : (innerD b).length ≤ 1024 := by
  unfold innerD
  rw [show List.range 8 = [0, 1, 2, 3, 4, 5, 6, 7] from rfl]
  simp only [List.flatMap_cons, List.flatMap_nil, List.length_append, List.length_drop, List.length_take, List.length_nil]
  omega
theorem filesS_map {B n : Nat} {acc : List File} {s : Bs} : (filesS B (n + 1) acc s).map (·.1) = (cutS s).bind fun t => (numS 524288 t.2).bind fun z => (numS 4096 z.2).bind fun k => (piecesS B k.1 [] k.2).bind fun p => (filesS B n (acc ++ [⟨t.1, (z.1 : Int), p.1⟩]) p.2).map (·.1) := by
  rw [filesS_s]
  simp only [Option.map_bind, Function.comp_def]
theorem piecesS_bind {β : Type} {B n : Nat} {acc : List Piece} {s : Bs} {g : List Piece × Bs → Option β} : (piecesS B (n + 1) acc s).bind g = (numS B s).bind fun f => (numS 4096 f.2).bind fun c => (piecesS B n (acc ++ [⟨(f.1 : Int), (c.1 : Int)⟩]) c.2).bind g := by
  rw [piecesS_s]
  simp only [Option.bind_assoc]
def JC (w : World) (cb cn c4 : Nat) (v : Value) (b : Bs) (i : Nat) (W : World) : Prop :=
  ∃ u, Blk W cb 43 [v] ∧ Blk W cn 3 [i64 128] ∧ Blk W c4 43 [u] ∧ OwnO tByte (fun _ => False) 5 W u ((List.range i).flatMap (fun i => ((b.drop (i * 128)).take 128).drop 9)) (fun k => w.heap.size + 2 ≤ k) ∧ tBytes.rep (fun k => k < c4) W v b ∧ Ext (fun k => k = c4) w W
theorem JC.put {w W : World} {cb cn c4 : Nat} {v : Value} {b : Bs} {i : Nat} (h : JC w cb cn c4 v b i W) (h1 : cb < w.heap.size) (h2 : cn < w.heap.size) (h3 : c4 < w.heap.size) (o : Obj) : JC w cb cn c4 v b i (W.putObj (w.heap.size + 1) o) := by
  obtain ⟨u, Cb, Cn, C4, O4, Rb, X⟩ := h
  have P := Ext.putObj (S := fun k => k = w.heap.size + 1) W rfl o
  exact ⟨u, Cb.ext P (by omega), Cn.ext P (by omega), C4.ext P (by omega), OwnO.ext O4 P (fun k hk _ e => by have hk : w.heap.size + 2 ≤ k := hk; have e : k = w.heap.size + 1 := e; omega) (fun _ h _ => h.elim), tBytes.ext Rb P (fun k hk _ e => by have hk : k < c4 := hk; have e : k = w.heap.size + 1 := e; omega), X.and P (fun k e hk => by have e : k = w.heap.size + 1 := e; omega)⟩
theorem JC.step {b : Bs} {i : Nat} (hl : b.length = 1024) (hi : i < 8) : (List.range (i + 1)).flatMap (fun i => ((b.drop (i * 128)).take 128).drop 9) = (List.range i).flatMap (fun i => ((b.drop (i * 128)).take 128).drop 9) ++ (((b.take (i * 128 + 128)).drop (i * 128)).drop 9) := by
  rw [List.range_succ, List.flatMap_append, List.flatMap_cons, List.flatMap_nil, List.append_nil, show (b.take (i * 128 + 128)).drop (i * 128) = (b.drop (i * 128)).take 128 by rw [List.drop_take]; congr 1; omega]
structure RD (w0 : World) (c2 c4 c6 c10 D : Nat) (g : Int) (R B Q : Nat → Prop) (acc : List File) (vF : Value) (rs : RS) (W : World) : Prop where
  b2 : Blk W c2 105 [i64 0, .slice none 0 0]
  rt : RT W c4 c6 R rs
  b10 : Blk W c10 105 [i64 g, vF]
  dk : W.heap[D]? = some (.deferred (some []))
  own : OwnO tFileO Q 149 W vF acc B
  ext : Ext (fun _ => False) w0 W
  sR : ∀ k, R k → ¬ (k = c2 ∨ k = c4 ∨ k = c6 ∨ k = c10 ∨ k = D) ∧ k < W.heap.size ∧ ¬ B k ∧ ¬ Q k
  sB : ∀ k, B k → ¬ (k = c2 ∨ k = c4 ∨ k = c6 ∨ k = c10 ∨ k = D) ∧ k < W.heap.size ∧ ¬ Q k ∧ w0.heap.size ≤ k
  sQ : ∀ k, Q k → ¬ (k = c2 ∨ k = c4 ∨ k = c6 ∨ k = c10 ∨ k = D) ∧ k < W.heap.size ∧ w0.heap.size ≤ k
section
variable {w0 W W' : World} {c2 c4 c6 c10 D : Nat} {g : Int} {R B Q S : Nat → Prop} {acc : List File} {vF : Value} {rs rs' : RS}
theorem RD.step (h : RD w0 c2 c4 c6 c10 D g R B Q acc vF rs W) (hx : Ext S W W') (hs : ∀ k, S k → k < W.heap.size → ¬ (k = c2 ∨ k = c4 ∨ k = c6 ∨ k = c10 ∨ k = D) ∧ ¬ R k ∧ ¬ B k ∧ ¬ Q k ∧ w0.heap.size ≤ k) : RD w0 c2 c4 c6 c10 D g R B Q acc vF rs W' := by
  have l2 := h.b2.lt
  have l46 := h.rt.lt
  have l10 := h.b10.lt
  have lD := dk_lt h.dk
  have z := hx.size
  exact ⟨h.b2.ext hx (fun e => (hs _ e l2).1 (.inl rfl)), h.rt.ext hx (fun e => (hs _ e l46.1).1 (.inr (.inl rfl))) (fun e => (hs _ e l46.2).1 (.inr (.inr (.inl rfl)))) (fun k hk hl e => (hs k e hl).2.1 hk), h.b10.ext hx (fun e => (hs _ e l10).1 (.inr (.inr (.inr (.inl rfl))))), dk_ext h.dk hx (fun e => (hs _ e lD).1 (.inr (.inr (.inr (.inr rfl))))),
    OwnO.ext h.own hx (fun k hk hl e => (hs k e hl).2.2.1 hk) (fun k hk hl e => (hs k e hl).2.2.2.1 hk), h.ext.then hx (fun k e hl => (hs k e hl).2.2.2.2), fun k hk => by have := h.sR k hk; exact ⟨this.1, by omega, this.2.2⟩, fun k hk => by have := h.sB k hk; exact ⟨this.1, by omega, this.2.2⟩, fun k hk => by have := h.sQ k hk; exact ⟨this.1, by omega, this.2.2⟩⟩
theorem RD.step0 (h : RD w0 c2 c4 c6 c10 D g R B Q acc vF rs W) (hx : Ext (fun _ => False) W W') : RD w0 c2 c4 c6 c10 D g R B Q acc vF rs W' := h.step hx (fun _ h _ => h.elim)
theorem RD.read (h : RD w0 c2 c4 c6 c10 D g R B Q acc vF rs W) (h4 : w0.heap.size ≤ c4) (h6 : w0.heap.size ≤ c6) (h42 : c4 ≠ c2) (h62 : c6 ≠ c2) (h40 : c4 ≠ c10) (h60 : c6 ≠ c10) (h4D : c4 ≠ D) (h6D : c6 ≠ D) (hx : Ext (fun k => k = c4 ∨ k = c6) W W') {R' : Nat → Prop} (hr : RT W' c4 c6 R' rs')
    (hR : ∀ k, R' k → ¬ (k = c2 ∨ k = c4 ∨ k = c6 ∨ k = c10 ∨ k = D) ∧ k < W'.heap.size ∧ ¬ B k ∧ ¬ Q k) : RD w0 c2 c4 c6 c10 D g R' B Q acc vF rs' W' := by
  have z := hx.size
  exact ⟨h.b2.ext hx (fun e => e.elim (fun e => h42 e.symm) (fun e => h62 e.symm)), hr, h.b10.ext hx (fun e => e.elim (fun e => h40 e.symm) (fun e => h60 e.symm)), dk_ext h.dk hx (fun e => e.elim (fun e => h4D e.symm) (fun e => h6D e.symm)),
    OwnO.ext h.own hx (fun k hk hl e => e.elim (fun e => (h.sB k hk).1 (.inr (.inl e))) (fun e => (h.sB k hk).1 (.inr (.inr (.inl e))))) (fun k hk hl e => e.elim (fun e => (h.sQ k hk).1 (.inr (.inl e))) (fun e => (h.sQ k hk).1 (.inr (.inr (.inl e))))), h.ext.then hx (fun k e hl => e.elim (fun e => by omega) (fun e => by omega)), hR, fun k hk => by have := h.sB k hk; exact ⟨this.1, by omega, this.2.2⟩, fun k hk => by have := h.sQ k hk; exact ⟨this.1, by omega, this.2.2⟩⟩
theorem RD.keepR (h : RD w0 c2 c4 c6 c10 D g R B Q acc vF rs W) (hx : Ext S W W') : ∀ k, R k → ¬ (k = c2 ∨ k = c4 ∨ k = c6 ∨ k = c10 ∨ k = D) ∧ k < W'.heap.size ∧ ¬ B k ∧ ¬ Q k := fun k hk => by
  have := h.sR k hk
  have z := hx.size
  exact ⟨this.1, by omega, this.2.2⟩
end
theorem readD_none {b : Bs} (h : b.length = 1024) (hp : parseS 4096 (innerD b) = none) : readD b = (⟨0, []⟩, 8) := freadG_none h hp
theorem readD_len {b : Bs} (h : ¬ b.length = 1024) : readD b = (⟨0, []⟩, 8) := freadG_len h
theorem readD_no {b : Bs} {fs : List File} {g : Int} (hg : min (getTo b 8 : Int) 4611686018427387904 = g) (h : b.length = 1024) (hp : parseS 4096 (innerD b) = some fs) (hw : ¬ writeF ⟨g, fs⟩ = (b, 0)) : readD b = (⟨0, []⟩, 8) := by subst hg; exact freadG_no h hp hw
theorem readD_ok {b : Bs} {fs : List File} {g : Int} (hg : min (getTo b 8 : Int) 4611686018427387904 = g) (h : b.length = 1024) (hp : parseS 4096 (innerD b) = some fs) (h1 : (writeF ⟨g, fs⟩).1 = b) (h2 : (writeF ⟨g, fs⟩).2 = 0) : readD b = (⟨g, fs⟩, 0) := by subst hg; exact freadG_ok h hp (Prod.ext h1 h2)
theorem St.begin (b : Bs) : St (parseS 4096 b) (b, false) (fun s => (numS 32 s).bind fun n => (filesS 4096 n.1 [] n.2).map (·.1)) := by unfold St; rw [if_neg (by exact Bool.false_ne_true)]; rfl
theorem innerTo_length (b : Bs) : ∀ i, ((List.range i).flatMap (fun i => ((b.drop (i * 128)).take 128).drop 9)).length ≤ i * 128
  | 0 => by simp
  | i + 1 => by
    have := innerTo_length b i
    rw [List.range_succ, List.flatMap_append, List.length_append, List.flatMap_cons, List.flatMap_nil, List.append_nil, List.length_drop, List.length_take]
    omega
theorem allP_snoc (l : List File) (f : File) : allP (l ++ [f]) = allP l ++ f.ps := by simp [allP]
end files
open room files
attribute [local irreducible] writeF readD freadG parseS filesS piecesS numS cutS innerD checkD
theorem FGet_fn {w : World} {p q : Nat} {P : Nat → Prop} {s : page.RS} (h : RT w p q P s) (hpq : ¬ p = q) (hp : ¬ P p) (hq : ¬ P q) {m : Nat} (hm : m < 9223372036854775808) : Fn Tryz.prog 247 ([] ++ [i64 m] ++ [.pointer (some ⟨p, 0, none⟩), .pointer (some ⟨q, 0, none⟩)]) w (fun r w2 => r = i64 ((page.numP m s).1 : Nat) ∧ RT w2 p q P (page.numP m s).2 ∧ Ext (fun k => k = p ∨ k = q) w w2) := by
  obtain ⟨v0, B0, R0, Q0⟩ := h
  obtain ⟨a, cap, rfl, hcap⟩ := Sl.val R0
  obtain ⟨hr1, hr2⟩ := readF_bd s.1
  refine Fn.enter (fun w => Tryz.call247 _ w) Tryz.func247 rfl ?_
  refine .seq (.region ?_)
  refine .p rfl rfl (.as rfl) ?_
  refine .nil (.code (.seq (.keep [(0, _), (1, _), (2, _)] ⟨rfl, rfl, rfl, trivial⟩ (.region ?_))))
  refine .p rfl rfl (.load rfl rfl rfl (B0.cell 0)) ?_
  refine .call (first := []) (captured := []) rfl rfl rfl rfl (Read_fn (allOf R0)) ?_
  rintro _ w10 ⟨rfl, X10⟩
  have B1 := B0.ext X10 (fun x => x)
  have R1 := tBytes.ext0 R0 X10
  have Q1 := Q0.ext X10 (fun x => x)
  refine .p rfl rfl (.mv rfl) ?_
  refine .p rfl rfl (.extract rfl rfl) ?_
  refine .p rfl rfl (.extract rfl rfl) ?_
  refine .p rfl rfl (.extract rfl rfl) ?_
  refine .p rfl rfl (.as rfl) ?_
  refine .p rfl rfl (.as rfl) ?_
  refine .p rfl rfl (.as rfl) ?_
  refine .nil (.code (.seq (.seq (.keep [(7, _), (6, _), (5, _), (0, _), (1, _), (2, _)] ⟨rfl, rfl, rfl, rfl, rfl, rfl, trivial⟩ (.region ?_)))))
  refine .p rfl rfl (.mv rfl) ?_
  refine .p rfl rfl (.ne rfl rfl) ?_
  refine .p rfl rfl (.mv rfl) ?_
  refine .caseD 16 rfl (fun c16 => ?_) (fun c16 => ?_)
  · refine .skip rfl rfl ?_
    refine .skip rfl rfl ?_
    refine .skip rfl rfl ?_
    refine .skip rfl rfl ?_
    refine .p rfl rfl (.pickT rfl rfl) ?_
    refine .nil (.code (.keep [(21, _), (6, _), (5, _), (1, _), (2, _)] ⟨rfl, rfl, rfl, rfl, rfl, trivial⟩ (.condT rfl (.seq (.keep [(2, _)] ⟨rfl, trivial⟩ (.region ?_))))))
    refine .s rfl (.store rfl rfl rfl rfl rfl Q1 (by simp)) ?_
    intro w3 P3
    refine .nil (.code (.seq (.keep [] trivial (.region ?_))))
    refine .p rfl rfl (.as rfl) ?_
    refine .nil (.code ?_)
    refine .ret _ rfl ?_
    have e : page.numP m s = (0, (s.1, true)) := by unfold page.numP; rw [if_pos (by first | exact .inl (by assumption) | exact .inr (by omega))]
    rw [e]
    exact ⟨rfl, ⟨_, B1.ext P3.ext (fun h => hpq h), tBytes.ext R1 P3.ext (fun k hk _ he => hq (by have he : k = q := he; rw [← he]; exact hk)), P3.blk⟩, (X10.mono (fun _ _ h => h.elim)).trans (P3.ext.mono (fun k _ h => .inr h))⟩
  · refine .p rfl rfl (.mv rfl) ?_
    refine .p rfl rfl (.mv rfl) ?_
    refine .p rfl rfl (.convU rfl rfl rfl (by omega)) ?_
    refine .p rfl rfl (.gt rfl rfl) ?_
    refine .p rfl rfl (.pickF rfl rfl) ?_
    refine .nil (.code (.keep [(21, _), (6, _), (5, _), (1, _), (2, _)] ⟨rfl, rfl, rfl, rfl, rfl, trivial⟩ ?_))
    refine .condD rfl (fun c21 => ?_) (fun c21 => ?_)
    · refine .seq (.keep [(2, _)] ⟨rfl, trivial⟩ (.region ?_))
      refine .s rfl (.store rfl rfl rfl rfl rfl Q1 (by simp)) ?_
      intro w3 P3
      refine .nil (.code (.seq (.keep [] trivial (.region ?_))))
      refine .p rfl rfl (.as rfl) ?_
      refine .nil (.code ?_)
      refine .ret _ rfl ?_
      have e : page.numP m s = (0, (s.1, true)) := by unfold page.numP; rw [if_pos (by first | exact .inl (by assumption) | exact .inr (by omega))]
      rw [e]
      exact ⟨rfl, ⟨_, B1.ext P3.ext (fun h => hpq h), tBytes.ext R1 P3.ext (fun k hk _ he => hq (by have he : k = q := he; rw [← he]; exact hk)), P3.blk⟩, (X10.mono (fun _ _ h => h.elim)).trans (P3.ext.mono (fun k _ h => .inr h))⟩
    · obtain ⟨a34, c34, hv34, hc34, R34⟩ := Sl.cutE R1 (readF s.1).2.1 s.1.length (by omega) (by omega)
      rw [List.take_length] at R34
      refine .skip (.code (.seq (.keep [(6, _), (5, _), (1, _)] ⟨rfl, rfl, rfl, trivial⟩ (.region ?_))))
      refine .p rfl rfl (.load rfl rfl rfl (B1.cell 0)) ?_
      refine .p rfl rfl (.mv rfl) ?_
      refine .p rfl rfl (.cast (.cutLo (s := 1) rfl rfl rfl rfl (by omega)) (show cutV 1 a cap ((readF s.1).2.1 : Int).toNat s.1.length = .slice a34 (s.1.length - (readF s.1).2.1) c34 by rw [Int.toNat_natCast]; exact hv34)) ?_
      refine .s rfl (.store rfl rfl rfl rfl rfl B1 (by simp)) ?_
      intro w36 P36
      refine .nil (.code (.seq (.keep [(5, _)] ⟨rfl, trivial⟩ (.region ?_))))
      refine .p rfl rfl (.mv rfl) ?_
      refine .p rfl rfl (.convI rfl rfl rfl (by omega)) ?_
      refine .p rfl rfl (.as rfl) ?_
      refine .nil (.code ?_)
      refine .ret _ rfl ?_
      have e : page.numP m s = ((readF s.1).1, (s.1.drop (readF s.1).2.1, s.2)) := by unfold page.numP; rw [if_neg (fun h => h.elim c16 (by omega))]
      rw [e]
      exact ⟨rfl, ⟨_, P36.blk, tBytes.ext (by simpa using R34) P36.ext (fun k hk _ he => hp (by have he : k = p := he; rw [← he]; exact hk)), Q1.ext P36.ext (fun h => hpq (Eq.symm h))⟩, (X10.mono (fun _ _ h => h.elim)).trans (P36.ext.mono (fun k _ h => .inl h))⟩
set_option maxHeartbeats 4000000 in
theorem FRead_fn {w : World} {v : Value} {b : Bs} (h : tBytes.rep All w v b) (hg : GOK w) : Fn Tryz.prog 215 [v] w (fun r w2 => ∃ v' Q B, r = .tuple #[.agg #[i64 (readD b).1.gen, v'], i64 (readD b).2] ∧ OwnO tFileO Q 149 w2 v' (readD b).1.fs B ∧ (∀ k, Q k → w.heap.size ≤ k) ∧ (∀ k, B k → w.heap.size ≤ k ∧ ¬ Q k) ∧ Ext (fun _ => False) w w2) := by
  obtain ⟨a, cap, rfl, hcap⟩ := Sl.val h
  refine Fn.enterM (fun w => Tryz.call215 _ w) Tryz.func215 rfl ?_
  refine .seq (.region ?_)
  refine .v rfl rfl (.alloc rfl rfl) ?_
  rintro _ w2 ⟨rfl, N2⟩
  have z2 : w2.heap.size = w.heap.size + 1 := N2.size
  refine .p rfl rfl (.as rfl) ?_
  refine .nil (.code (.seq (.seq (.keep [(2, _), (0, _)] ⟨rfl, rfl, trivial⟩ (.region ?_)))))
  refine .p rfl rfl (.mv rfl) ?_
  refine .p rfl rfl (.len rfl rfl) ?_
  refine .p rfl rfl (.ne rfl rfl) ?_
  refine .nil (.code (.keep [(20, _), (2, _), (0, _)] ⟨rfl, rfl, rfl, trivial⟩ ?_))
  refine .condD rfl (fun c20 => ?_) (fun c20 => ?_)
  · refine .seq (.keep [(2, _)] ⟨rfl, trivial⟩ (.region ?_))
    refine .p rfl rfl (.build (cs := [i64 0, .slice none 0 0]) rfl (fun _ => by kernel_rfl)) ?_
    refine .s rfl (.storeAll (n := 2) rfl rfl rfl rfl rfl N2.blk rfl) ?_
    intro w3 P3
    refine .p rfl rfl (.as rfl) ?_
    refine .nil (.code ?_)
    refine .retM0 (.cell (n := 2) rfl rfl rfl rfl rfl (P3.blk.cells) (.tmp rfl .nil)) ?_
    rw [readD_len (by omega)]
    exact ⟨_, fun _ => False, fun _ => False, rfl, OwnO.nil, fun _ h => h.elim, fun _ h => h.elim, N2.ext.then P3.ext (by rintro k rfl _; exact Nat.le_refl _)⟩
  · have hlen : b.length = 1024 := by omega
    refine .skip (.code (.seq (.keep [(2, _), (0, _)] ⟨rfl, rfl, trivial⟩ (.region ?_))))
    refine .v rfl rfl (.alloc rfl rfl) ?_
    rintro _ w4 ⟨rfl, N4⟩
    have z4 : w4.heap.size = w2.heap.size + 1 := N4.size
    refine .nil (.code (.seq (.seq (.region ?_))))
    refine .p rfl rfl (.mv rfl) ?_
    refine .call (first := []) (captured := []) rfl rfl rfl rfl (Chunk_fn rfl rfl) ?_
    rintro _ w23 ⟨rfl, Bb, Bn, z23, X23⟩
    have C4 := N4.blk.ext X23 (fun x => x)
    have Rb : tBytes.rep (fun k => k < w2.heap.size) w23 (.slice a b.length cap) b := tBytes.ext0 (tBytes.mono (P' := fun k => k < w2.heap.size) h (fun k _ hk => by show k < w2.heap.size; omega)) ((N2.ext.trans N4.ext).trans X23)
    refine .nil (.code (.block (.keep [(23, _), (4, _), (2, _), (0, _)] ⟨rfl, rfl, rfl, rfl, trivial⟩ ?_)))
    refine .rangeFuncF (Jn := JC w23 w4.heap.size (w4.heap.size + 1) w2.heap.size (.slice a b.length cap) b 8) rfl (fun args w => Tryz.call271 args w) ?_ ?_
    · intro fn tmps hag
      have hJ : ∀ i W, JC w23 w4.heap.size (w4.heap.size + 1) w2.heap.size (.slice a b.length cap) b i W → Blk W w4.heap.size 43 [.slice a 1024 cap] ∧ Blk W (w4.heap.size + 1) 3 [i64 128] := by
        rintro i W ⟨u, h1, h2, _⟩
        rw [hlen] at h1
        exact ⟨h1, h2⟩
      have X0 : ∀ o, Ext (fun _ => False) w23 ((w23.alloc (.deferred (some []))).alloc o) := fun o => (Ext.alloc _ _).trans (Ext.alloc _ _)
      refine Chunk1_fn (J := JC w23 w4.heap.size (w4.heap.size + 1) w2.heap.size (.slice a b.length cap) b) (a := a) (cap := cap) (by omega) hJ ?_ ?_
      · intro i W hi hb
        obtain ⟨a5, c5, hv5, hc5⟩ : ∃ a5 c5, cutV 1 a (i * 128 + 128) (i * 128) (i * 128 + 128) = .slice a5 128 c5 ∧ 128 ≤ c5 := by
          have R := Sl.cutM h (i * 128) (i * 128 + 128) (by omega) (by omega)
          obtain ⟨a5, c5, e, hc⟩ := Sl.val R
          have hl5 : ((b.take (i * 128 + 128)).drop (i * 128)).length = 128 := by simp; omega
          rw [hl5] at e hc
          exact ⟨a5, c5, e, hc⟩
        rw [hv5]
        refine yield_mix (e1 := [(5, .slice a5 128 c5), (4, .pointer (some ⟨w2.heap.size, 0, none⟩))]) hag rfl hb (by kernel_rfl) [3, 4] (by kernel_rfl) (by kernel_rfl) rfl rfl (fun _ k => w23.heap.size + 2 ≤ k) ?_ ?_
        · intro W0 R hA
          refine .p rfl rfl (.as rfl) ?_
          refine .nil ?_
          exact hA.of ⟨rfl, rfl, trivial⟩
        · rintro W0 W1 R hl hk hJ0 hW1 hl1 hk1 next
          have hJ1 : JC w23 w4.heap.size (w4.heap.size + 1) w2.heap.size (.slice a b.length cap) b i W1 := by rw [hW1]; exact hJ0.put (by omega) (by omega) (by omega) _
          obtain ⟨u, Cb, Cn, C4, O4, Rb, X⟩ := hJ1
          have hsz := dk_lt hl1
          have R5 := Sl.cutM Rb (i * 128) (i * 128 + 128) (by omega) (by omega)
          rw [show cutV tByte.size a (i * 128 + 128) (i * 128) (i * 128 + 128) = _ from hv5] at R5
          have hl5 : ((b.take (i * 128 + 128)).drop (i * 128)).length = 128 := by simp; omega
          obtain ⟨a27, c27, hv27, hc27, R27⟩ := Sl.cutE R5 9 128 (by omega) (by omega)
          rw [List.take_of_length_le (by omega)] at R27
          have hlu : ((List.range i).flatMap (fun i => ((b.drop (i * 128)).take 128).drop 9)).length ≤ 2000 := by
            have := innerTo_length b i
            omega
          refine .p rfl rfl rfl (fun wx hx => .load rfl rfl rfl ((C4.ext hx (by omega)).cell 0)) ?_
          refine .p rfl rfl rfl (fun wx hx => .mv rfl) ?_
          refine .p rfl rfl rfl (fun wx hx => .cast (.cutLo (s := 1) rfl rfl rfl rfl (by omega)) (show cutV 1 a5 c5 (9 : Int).toNat 128 = _ from hv27)) ?_
          refine .v rfl rfl rfl (.appendLo (t := tByte) (eb := 1) rfl O4 (fun k hk => by show w23.heap.size + 2 ≤ k; omega) rfl (Gr.holds (P := All) (allOf R27)) rfl rfl rfl rfl rfl rfl rfl (by simp only [List.length_drop, hl5]; omega) (by simp only [List.length_drop, hl5, Lim]; omega) (fun _ h _ => h.elim)) (by rintro _ _ ⟨_, hx⟩; exact hx) ?_
          rintro r28 w28 ⟨O28, X28⟩
          obtain ⟨a28, c28, rfl, hc28⟩ := OwnO.val O28
          refine .sL rfl rfl (.store rfl rfl rfl rfl rfl (C4.ext X28 (by omega)) (by simp)) (by kernel_rfl) ?_
          intro w29 P29
          refine .nil (next _ w29 (dk_ext (dk_ext hl1 X28 (by omega)) P29.ext (by omega)) (dk_ext (dk_ext hk1 X28 (by omega)) P29.ext (by omega)) ?_)
          refine JC.put ?_ (by omega) (by omega) (by omega) _
          refine ⟨_, (Cb.ext X28 (by omega)).ext P29.ext (by omega), (Cn.ext X28 (by omega)).ext P29.ext (by omega), P29.blk, ?_, tBytes.ext (tBytes.ext Rb X28 (fun k hk _ e => by have hk : k < w2.heap.size := hk; have e : w23.heap.size + 2 ≤ k := e; omega)) P29.ext (fun k hk _ e => ?_), (X.and X28 (fun k e hk => by have e : w23.heap.size + 2 ≤ k := e; omega)).and P29.ext (fun k e _ => e)⟩
          · rw [JC.step hlen hi]
            exact OwnO.ext O28 P29.ext (fun k hk _ e => by have hk : w23.heap.size + 2 ≤ k := hk; have e : k = w2.heap.size := e; omega) (fun _ h _ => h.elim)
          · have hk : k < w2.heap.size := hk; have e : k = w2.heap.size := e; omega
      · refine ⟨_, .refl _, (by show ((w23.heap.push (Obj.deferred (some []))).push _)[w23.heap.size + 1]? = some _; rw [Array.getElem?_push, if_pos (by simp)]), (by show ((w23.heap.push (Obj.deferred (some []))).push _)[w23.heap.size]? = some _; simp [Array.getElem?_push]), .slice none 0 0, Bb.ext (X0 _) (fun x => x), Bn.ext (X0 _) (fun x => x), C4.ext (X0 _) (fun x => x), OwnO.nil, tBytes.ext0 Rb (X0 _), (X0 _).mono (fun _ _ h => h.elim)⟩
    intro fn tmps W hJ hk hszW
    generalize hw7 : W.putObj (w23.heap.size + 1) _ = w7
    have hP7 : Ext (fun k => k = w23.heap.size + 1) W w7 := by rw [← hw7]; exact Ext.putObj (S := fun k => k = w23.heap.size + 1) W rfl _
    have hJ7 : JC w23 w4.heap.size (w4.heap.size + 1) w2.heap.size (.slice a b.length cap) b 8 w7 := by rw [← hw7]; exact hJ.put (by omega) (by omega) (by omega) _
    have hk7 := dk_ext hk hP7 (by omega)
    have hs7 := hP7.size
    obtain ⟨u, _, _, C4, O4, _, X⟩ := hJ7
    have hX7 : Ext (fun _ => False) w w7 := ((N2.ext.trans N4.ext).trans X23).then X (by rintro k rfl _; omega)
    have B27 : Blk w7 w.heap.size 105 [i64 0, .slice none 0 0] := (N2.blk.ext (N4.ext.trans X23) (fun x => x)).ext X (by omega)
    have R4 : tBytes.rep (fun k => w23.heap.size + 2 ≤ k ∧ k < w7.heap.size) w7 u (innerD b) := by
      have := OwnO.rep (R := fun k => w23.heap.size + 2 ≤ k ∧ k < w7.heap.size) O4 (fun k h hl => ⟨h, hl⟩) (fun _ h _ => h.elim)
      unfold innerD
      exact this
    obtain ⟨a32, c32, hv32, hc32, R32⟩ := Sl.cutE h 0 8 (by omega) (by omega)
    rw [List.drop_zero] at R32
    obtain ⟨n8, hn8⟩ : ∃ n, n = getTo b 8 := ⟨_, rfl⟩
    refine .blk (.code (.seq (.keep [(4, _), (2, _), (0, _)] ⟨rfl, rfl, rfl, trivial⟩ (.region ?_))))
    refine .v rfl rfl (.alloc rfl rfl) ?_
    rintro _ w6a ⟨rfl, N6⟩
    refine .s rfl (.store rfl rfl rfl rfl rfl N6.blk (by simp [Value.cells])) ?_
    intro w6 P6
    have X6 : Ext (fun _ => False) w7 w6 := N6.ext.then P6.ext (by rintro k rfl _; exact Nat.le_refl _)
    have z6 : w6.heap.size = w7.heap.size + 1 := by rw [P6.size, N6.size]
    refine .nil (.code (.seq (.region ?_)))
    refine .p rfl rfl (.makeFunc rfl rfl) ?_
    refine .p rfl rfl (.as rfl) ?_
    refine .nil (.code (.seq (.keep [(7, _), (6, _), (4, _), (2, _), (0, _)] ⟨rfl, rfl, rfl, rfl, rfl, trivial⟩ (.region ?_))))
    refine .p rfl rfl (.mv rfl) ?_
    refine .p rfl rfl (.cast (.cutHi (s := 1) rfl rfl rfl rfl (by omega)) (show cutV 1 a cap 0 (8 : Int).toNat = .slice a32 8 c32 from hv32)) ?_
    refine .call (first := []) (captured := []) rfl rfl rfl rfl (Get8_fn hn8 (tBytes.ext0 R32 (hX7.trans X6)) (by omega)) ?_
    rintro _ w33 ⟨rfl, X33⟩
    have z33 := X33.size
    have hgb := getTo_bd b (i := 8) (by omega)
    rw [← hn8] at hgb
    refine .p rfl rfl (.mv rfl) ?_
    refine .p rfl rfl (.extract rfl rfl) ?_
    refine .p rfl rfl (.extract rfl rfl) ?_
    refine .p rfl rfl (.as rfl) ?_
    refine .p rfl rfl (.as rfl) ?_
    refine .nil (.code (.seq (.keep [(8, _), (7, _), (6, _), (4, _), (2, _), (0, _)] ⟨rfl, rfl, rfl, rfl, rfl, rfl, trivial⟩ (.region ?_))))
    refine .p rfl rfl (.mv rfl) ?_
    refine .p rfl rfl (.min2 rfl rfl) ?_
    refine .p rfl rfl (.convI rfl rfl rfl (by omega)) ?_
    refine .p rfl rfl (.build (cs := [i64 (min (n8 : Int) 4611686018427387904), .slice none 0 0]) rfl (fun _ => by kernel_rfl)) ?_
    refine .v rfl rfl (.alloc rfl rfl) ?_
    rintro _ w10a ⟨rfl, N10⟩
    refine .s rfl (.storeAll (n := 2) rfl rfl rfl rfl rfl N10.blk rfl) ?_
    intro w10 P10
    have X10 : Ext (fun _ => False) w33 w10 := N10.ext.then P10.ext (by rintro k rfl _; exact Nat.le_refl _)
    have z10 : w10.heap.size = w33.heap.size + 1 := by rw [P10.size, N10.size]
    have B10 := P10.blk
    have hgr : 0 ≤ min (n8 : Int) 4611686018427387904 ∧ min (n8 : Int) 4611686018427387904 ≤ 4611686018427387904 := by omega
    generalize hg9 : min (n8 : Int) 4611686018427387904 = g at *
    have hgr2 : -9223372036854775808 ≤ g ∧ g ≤ 9223372036854775807 := ⟨by omega, by omega⟩
    have hg8 : min (getTo b 8 : Int) 4611686018427387904 = g := by rw [← hn8]; exact hg9
    have hY : Ext (fun _ => False) w7 w10 := (X6.trans X33).trans X10
    have D0 : RD w w.heap.size w2.heap.size w7.heap.size w33.heap.size w23.heap.size g (fun k => w23.heap.size + 2 ≤ k ∧ k < w7.heap.size) (fun _ => False) (fun _ => False) [] (.slice none 0 0) (innerD b, false) w10 := ⟨B27.ext hY (fun x => x), ⟨u, C4.ext hY (fun x => x), tBytes.ext0 R4 hY, P6.blk.ext (X33.trans X10) (fun x => x)⟩, B10, dk_ext hk7 hY (fun x => x), OwnO.nil, hX7.trans hY, fun k hk => by have hk : w23.heap.size + 2 ≤ k ∧ k < w7.heap.size := hk; exact ⟨by omega, by omega, fun h => h, fun h => h⟩, fun _ h => h.elim, fun _ h => h.elim⟩
    have rd : ∀ {R B Q R' : Nat → Prop} {acc : List File} {vF : Value} {rs rs' : page.RS} {W W' : World}, RD w w.heap.size w2.heap.size w7.heap.size w33.heap.size w23.heap.size g R B Q acc vF rs W → Ext (fun k => k = w2.heap.size ∨ k = w7.heap.size) W W' → RT W' w2.heap.size w7.heap.size R' rs' → (∀ k, R' k → ¬ (k = w.heap.size ∨ k = w2.heap.size ∨ k = w7.heap.size ∨ k = w33.heap.size ∨ k = w23.heap.size) ∧ k < W'.heap.size ∧ ¬ B k ∧ ¬ Q k) → RD w w.heap.size w2.heap.size w7.heap.size w33.heap.size w23.heap.size g R' B Q acc vF rs' W' := fun h hx hr hR => h.read (by omega) (by omega) (by omega) (by omega) (by omega) (by omega) (by omega) (by omega) hx hr hR
    have st0 := St.begin (innerD b)
    have hil := innerD_length b
    refine .nil (.code (.seq (.seq (.keep [(10, _), (7, _), (6, _), (4, _), (2, _), (0, _)] ⟨rfl, rfl, rfl, rfl, rfl, rfl, trivial⟩ (.region ?_)))))
    refine .p rfl rfl (.mv rfl) ?_
    refine .call (first := []) (captured := [.pointer (some ⟨w2.heap.size, 0, none⟩), .pointer (some ⟨w7.heap.size, 0, none⟩)]) rfl rfl rfl rfl (FGet_fn (m := 32) D0.rt (by omega) (fun h => (D0.sR _ h).1 (.inr (.inl rfl))) (fun h => (D0.sR _ h).1 (.inr (.inr (.inl rfl)))) (by decide)) ?_
    rintro _ w41 ⟨rfl, R41, X41⟩
    have z41 := X41.size
    have D1 := rd D0 X41 R41 (D0.keepR X41)
    have st1 := St.num st0
    obtain ⟨hb41, hl41⟩ := page.numP_le 32 (innerD b, false)
    generalize page.numP 32 (innerD b, false) = q41 at *
    obtain ⟨n, t41⟩ := q41
    simp only at hb41 hl41 st1 D1 R41
    refine .p rfl rfl (.mv rfl) ?_
    refine .nil (.code (.block (.keep [(42, _), (41, _), (10, _), (7, _), (6, _), (4, _), (2, _), (0, _)] ⟨rfl, rfl, rfl, rfl, rfl, rfl, rfl, rfl, trivial⟩ ?_)))
    refine .loop (S := Nat × List File × page.RS × Value × (Nat → Prop) × (Nat → Prop) × (Nat → Prop) × World) (fun s => [(0, .slice a b.length cap), (2, .pointer (some ⟨w.heap.size, 0, none⟩)), (4, .pointer (some ⟨w2.heap.size, 0, none⟩)), (6, .pointer (some ⟨w7.heap.size, 0, none⟩)), (7, .func (.func 247) #[] ([.pointer (some ⟨w2.heap.size, 0, none⟩), .pointer (some ⟨w7.heap.size, 0, none⟩)] : List Value).toArray), (10, .pointer (some ⟨w33.heap.size, 0, none⟩)), (41, i64 (n : Nat)), (42, i64 s.1)]) (fun s => s.2.2.2.2.2.2.2) (fun s => s.1 ≤ n ∧ RD w w.heap.size w2.heap.size w7.heap.size w33.heap.size w23.heap.size g s.2.2.2.2.1 s.2.2.2.2.2.1 s.2.2.2.2.2.2.1 s.2.1 s.2.2.2.1 s.2.2.1 s.2.2.2.2.2.2.2 ∧ St (parseS 4096 (innerD b)) s.2.2.1 (fun q => (filesS 4096 (n - s.1) s.2.1 q).map (·.1)) ∧ s.2.2.1.1.length ≤ 1024 ∧ s.2.1.length = s.1 ∧ (allP s.2.1).length ≤ 4096 * s.1 ∧ w10.heap.size ≤ s.2.2.2.2.2.2.2.heap.size) (fun s => n - s.1) (0, [], _, _, _, _, _, w41) ⟨rfl, rfl, rfl, rfl, rfl, rfl, rfl, rfl, trivial⟩ rfl ⟨Nat.zero_le _, D1, st1, by show t41.1.length ≤ 1024; omega, rfl, Nat.zero_le _, z41⟩ ?_
    rintro ⟨i, acc, rs, vF, R, B, Q, wi⟩ J ⟨hi', hRD, hst, hlr, hacc, hall, zwi⟩ again
    simp only at hi' hRD hst hlr hacc hall zwi
    change G _ [(0, .slice a b.length cap), (2, .pointer (some ⟨w.heap.size, 0, none⟩)), (4, .pointer (some ⟨w2.heap.size, 0, none⟩)), (6, .pointer (some ⟨w7.heap.size, 0, none⟩)), (7, .func (.func 247) #[] ([.pointer (some ⟨w2.heap.size, 0, none⟩), .pointer (some ⟨w7.heap.size, 0, none⟩)] : List Value).toArray), (10, .pointer (some ⟨w33.heap.size, 0, none⟩)), (41, i64 (n : Nat)), (42, i64 i)] _ _ wi
    refine .seq (.region ?_)
    refine .p rfl rfl (.lt rfl rfl) ?_
    refine .nil (.code (.seq ?_))
    refine .condD rfl (fun c43 => ?_) (fun c43 => ?_)
    · have hi : i < n := by omega
      obtain ⟨v4, B4, R4i, Q4⟩ := hRD.rt
      have l4 := B4.lt
      have l6 := Q4.lt
      have l2 := hRD.b2.lt
      have l10 := hRD.b10.lt
      have lD := dk_lt hRD.dk
      obtain ⟨a4i, k4i, rfl, hk4i⟩ := Sl.val R4i
      have st2 : St (parseS 4096 (innerD b)) rs (fun s => (cutS s).bind fun t => (numS 524288 t.2).bind fun z => (numS 4096 z.2).bind fun k => (piecesS 4096 k.1 [] k.2).bind fun p => (filesS 4096 (n - (i + 1)) (acc ++ [⟨t.1, (z.1 : Int), p.1⟩]) p.2).map (·.1)) := hst.to (by rw [show n - i = (n - (i + 1)) + 1 by omega, filesS_map])
      refine .skip (.code (.seq (.block (.seq (.keep [(0, _), (2, _), (4, _), (6, _), (7, _), (10, _), (41, _), (42, _)] ⟨rfl, rfl, rfl, rfl, rfl, rfl, rfl, rfl, trivial⟩ (.region ?_))))))
      refine .p rfl rfl (.load rfl rfl rfl (B4.cell 0)) ?_
      refine .call (first := []) (captured := []) rfl rfl rfl rfl (Cut_fn (allOf R4i)) ?_
      rintro _ w46 ⟨v46, rfl, G46, X46⟩
      have z46 := X46.size
      have D2 := hRD.step0 X46
      obtain ⟨v4b, B4b, R4b, Q4b⟩ := D2.rt
      obtain ⟨a46, k46, rfl, hk46⟩ := OwnO.val G46
      have hcl := page.cutF_le rs.1
      refine .p rfl rfl (.mv rfl) ?_
      refine .p rfl rfl (.extract rfl rfl) ?_
      refine .p rfl rfl (.extract rfl rfl) ?_
      refine .p rfl rfl (.extract rfl rfl) ?_
      refine .p rfl rfl (.as rfl) ?_
      refine .p rfl rfl (.as rfl) ?_
      refine .p rfl rfl (.as rfl) ?_
      refine .nil (.code (.seq (.seq (.keep [(13, _), (12, _), (11, _), (0, _), (2, _), (4, _), (6, _), (7, _), (10, _), (41, _), (42, _)] ⟨rfl, rfl, rfl, rfl, rfl, rfl, rfl, rfl, rfl, rfl, rfl, trivial⟩ (.region ?_)))))
      refine .p rfl rfl (.mv rfl) ?_
      refine .p rfl rfl (.ne rfl rfl) ?_
      refine .p rfl rfl (.mv rfl) ?_
      refine .caseD 52 rfl (fun c52 => ?_) (fun c52 => ?_)
      · refine .skip rfl rfl ?_
        refine .p rfl rfl (.pickT rfl rfl) ?_
        refine .nil (.code (.keep [(54, _), (12, _), (11, _), (0, _), (2, _), (4, _), (6, _), (7, _), (10, _), (41, _), (42, _)] ⟨rfl, rfl, rfl, rfl, rfl, rfl, rfl, rfl, rfl, rfl, rfl, trivial⟩ (.condT rfl (.seq (.keep [(2, _)] ⟨rfl, trivial⟩ (.region ?_))))))
        refine .p rfl rfl (.build (cs := [i64 0, .slice none 0 0]) rfl (fun _ => by kernel_rfl)) ?_
        refine .s rfl (.storeAll (n := 2) rfl rfl rfl rfl rfl D2.b2 rfl) ?_
        intro w15 P15
        refine .p rfl rfl (.as rfl) ?_
        refine .nil (.code ?_)
        refine .retM (D := w23.heap.size) (dk_ext D2.dk P15.ext (by omega)) (.cell (n := 2) rfl rfl rfl rfl rfl ((P15.blk.ext (Ext.putObj (S := fun k => k = w23.heap.size) _ rfl _) (by omega)).cells) (.tmp rfl .nil)) ?_
        rw [readD_none hlen (St.cutN st2 c52)]
        exact ⟨_, fun _ => False, fun _ => False, rfl, OwnO.nil, fun _ h => h.elim, fun _ h => h.elim, (D2.ext.then P15.ext (by rintro k rfl _; omega)).then (Ext.putObj (S := fun k => k = w23.heap.size) _ rfl _) (by rintro k rfl _; omega)⟩
      · have hcc : (cutF rs.1).2.2 = 0 := Decidable.not_not.1 c52
        refine .p rfl rfl (.load rfl rfl rfl (Q4b.cell 0)) ?_
        refine .p rfl rfl (.pickF rfl rfl) ?_
        refine .nil (.code (.keep [(54, _), (12, _), (11, _), (0, _), (2, _), (4, _), (6, _), (7, _), (10, _), (41, _), (42, _)] ⟨rfl, rfl, rfl, rfl, rfl, rfl, rfl, rfl, rfl, rfl, rfl, trivial⟩ ?_))
        refine .cond rfl (fun c54 => ?_) (fun c54 => ?_)
        · refine .seq (.keep [(2, _)] ⟨rfl, trivial⟩ (.region ?_))
          refine .p rfl rfl (.build (cs := [i64 0, .slice none 0 0]) rfl (fun _ => by kernel_rfl)) ?_
          refine .s rfl (.storeAll (n := 2) rfl rfl rfl rfl rfl D2.b2 rfl) ?_
          intro w15 P15
          refine .p rfl rfl (.as rfl) ?_
          refine .nil (.code ?_)
          refine .retM (D := w23.heap.size) (dk_ext D2.dk P15.ext (by omega)) (.cell (n := 2) rfl rfl rfl rfl rfl ((P15.blk.ext (Ext.putObj (S := fun k => k = w23.heap.size) _ rfl _) (by omega)).cells) (.tmp rfl .nil)) ?_
          rw [readD_none hlen (St.bad hst c54)]
          exact ⟨_, fun _ => False, fun _ => False, rfl, OwnO.nil, fun _ h => h.elim, fun _ h => h.elim, (D2.ext.then P15.ext (by rintro k rfl _; omega)).then (Ext.putObj (S := fun k => k = w23.heap.size) _ rfl _) (by rintro k rfl _; omega)⟩
        · refine .skip (.code (.seq (.keep [(12, _), (11, _), (0, _), (2, _), (4, _), (6, _), (7, _), (10, _), (41, _), (42, _)] ⟨rfl, rfl, rfl, rfl, rfl, rfl, rfl, rfl, rfl, rfl, trivial⟩ (.region ?_))))
          refine .p rfl rfl (.mv rfl) ?_
          refine .s rfl (.store rfl rfl rfl rfl rfl B4b (by simp)) ?_
          intro w16 P16
          have z16 : w16.heap.size = w46.heap.size := P16.size
          have R16 : RT w16 w2.heap.size w7.heap.size (fun k => wi.heap.size ≤ k ∧ k < w46.heap.size) ((cutF rs.1).2.1, rs.2) := ⟨_, P16.blk, tBytes.ext (Gr.rep' G46) P16.ext (fun k hk _ e => by have hk : wi.heap.size ≤ k ∧ _ := hk; have e : k = w2.heap.size := e; omega), Q4b.ext P16.ext (by omega)⟩
          have D3 := rd D2 (P16.ext.mono (fun k _ h => .inl h)) R16 (fun k hk => by have hk : wi.heap.size ≤ k ∧ k < w46.heap.size := hk; exact ⟨by omega, by omega, fun hb => by have := (hRD.sB k hb).2.1; omega, fun hb => by have := (hRD.sQ k hb).2.1; omega⟩)
          have st3 := St.cut st2 hcc
          refine .nil (.code (.seq (.keep [(11, _), (0, _), (2, _), (4, _), (6, _), (7, _), (10, _), (41, _), (42, _)] ⟨rfl, rfl, rfl, rfl, rfl, rfl, rfl, rfl, rfl, trivial⟩ (.region ?_))))
          refine .p rfl rfl (.mv rfl) ?_
          refine .p rfl rfl (.mv rfl) ?_
          refine .call (first := []) (captured := [.pointer (some ⟨w2.heap.size, 0, none⟩), .pointer (some ⟨w7.heap.size, 0, none⟩)]) rfl rfl rfl rfl (FGet_fn (m := 524288) D3.rt (by omega) (fun h => (D3.sR _ h).1 (.inr (.inl rfl))) (fun h => (D3.sR _ h).1 (.inr (.inr (.inl rfl)))) (by decide)) ?_
          rintro _ w59 ⟨rfl, R59, X59⟩
          have z59 := X59.size
          have D4 := rd D3 X59 R59 (D3.keepR X59)
          have st4 := St.num st3
          obtain ⟨hb59, hl59⟩ := page.numP_le 524288 ((cutF rs.1).2.1, rs.2)
          generalize page.numP 524288 ((cutF rs.1).2.1, rs.2) = q59 at *
          obtain ⟨zz, t59⟩ := q59
          simp only at hb59 hl59 st4 D4 R59
          refine .p rfl rfl (.build (cs := [str (cutF rs.1).1, i64 (zz : Nat), .slice none 0 0]) rfl (fun _ => by kernel_rfl)) ?_
          refine .v rfl rfl (.alloc rfl rfl) ?_
          rintro _ w14a ⟨rfl, N14⟩
          refine .s rfl (.storeAll (n := 3) rfl rfl rfl rfl rfl N14.blk rfl) ?_
          intro w14 P14
          have X14 : Ext (fun _ => False) w59 w14 := N14.ext.then P14.ext (by rintro k rfl _; exact Nat.le_refl _)
          have z14 : w14.heap.size = w59.heap.size + 1 := by rw [P14.size, N14.size]
          have B14 := P14.blk
          have D5 := D4.step0 X14
          refine .nil (.code (.seq (.seq (.keep [(14, _), (0, _), (2, _), (4, _), (6, _), (7, _), (10, _), (41, _), (42, _)] ⟨rfl, rfl, rfl, rfl, rfl, rfl, rfl, rfl, rfl, trivial⟩ (.region ?_)))))
          refine .p rfl rfl (.mv rfl) ?_
          refine .call (first := []) (captured := [.pointer (some ⟨w2.heap.size, 0, none⟩), .pointer (some ⟨w7.heap.size, 0, none⟩)]) rfl rfl rfl rfl (FGet_fn (m := 4096) D5.rt (by omega) (fun h => (D5.sR _ h).1 (.inr (.inl rfl))) (fun h => (D5.sR _ h).1 (.inr (.inr (.inl rfl)))) (by decide)) ?_
          rintro _ w62 ⟨rfl, R62, X62⟩
          have z62 := X62.size
          have D6 := rd D5 X62 R62 (D5.keepR X62)
          have st6 := St.num st4
          obtain ⟨hb62, hl62⟩ := page.numP_le 4096 t59
          generalize page.numP 4096 t59 = q62 at *
          obtain ⟨kk, t62⟩ := q62
          simp only at hb62 hl62 st6 D6 R62
          have B14 := B14.ext X62 (by omega)
          refine .p rfl rfl (.mv rfl) ?_
          refine .nil (.code (.block (.keep [(63, _), (62, _), (14, _), (0, _), (2, _), (4, _), (6, _), (7, _), (10, _), (41, _), (42, _)] ⟨rfl, rfl, rfl, rfl, rfl, rfl, rfl, rfl, rfl, rfl, rfl, trivial⟩ ?_)))
          refine .loop (S := Nat × List Piece × page.RS × Value × (Nat → Prop) × World) (fun s => [(0, .slice a b.length cap), (2, .pointer (some ⟨w.heap.size, 0, none⟩)), (4, .pointer (some ⟨w2.heap.size, 0, none⟩)), (6, .pointer (some ⟨w7.heap.size, 0, none⟩)), (7, .func (.func 247) #[] ([.pointer (some ⟨w2.heap.size, 0, none⟩), .pointer (some ⟨w7.heap.size, 0, none⟩)] : List Value).toArray), (10, .pointer (some ⟨w33.heap.size, 0, none⟩)), (41, i64 (n : Nat)), (42, i64 i), (14, .pointer (some ⟨w59.heap.size, 0, none⟩)), (62, i64 (kk : Nat)), (63, i64 s.1)]) (fun s => s.2.2.2.2.2) (fun s => s.1 ≤ kk ∧ RD w w.heap.size w2.heap.size w7.heap.size w33.heap.size w23.heap.size g (fun k => wi.heap.size ≤ k ∧ k < w46.heap.size) B Q acc vF s.2.2.1 s.2.2.2.2.2 ∧ Blk s.2.2.2.2.2 w59.heap.size 149 [str (cutF rs.1).1, i64 (zz : Nat), s.2.2.2.1] ∧ OwnO tPiece (fun _ => False) 151 s.2.2.2.2.2 s.2.2.2.1 s.2.1 s.2.2.2.2.1 ∧ (∀ k, s.2.2.2.2.1 k → w59.heap.size < k ∧ k < s.2.2.2.2.2.heap.size) ∧ St (parseS 4096 (innerD b)) s.2.2.1 (fun q => (piecesS 4096 (kk - s.1) s.2.1 q).bind fun p => (filesS 4096 (n - (i + 1)) (acc ++ [⟨(cutF rs.1).1, (zz : Int), p.1⟩]) p.2).map (·.1)) ∧ s.2.1.length = s.1 ∧ s.2.2.1.1.length ≤ 1024 ∧ w62.heap.size ≤ s.2.2.2.2.2.heap.size) (fun s => kk - s.1) (0, [], _, .slice none 0 0, fun _ => False, w62) ⟨rfl, rfl, rfl, rfl, rfl, rfl, rfl, rfl, rfl, rfl, rfl, trivial⟩ rfl ⟨Nat.zero_le _, D6, B14, OwnO.nil, fun _ h => h.elim, st6, rfl, by show t62.1.length ≤ 1024; omega, Nat.le_refl _⟩ ?_
          rintro ⟨j, accp, rj, vP, Bp, wj⟩ J2 ⟨hj', hRDj, B14j, hOP, hBp, stj, haccp, hlj, zwj⟩ againj
          simp only at hj' hRDj B14j hOP hBp stj haccp hlj zwj
          obtain ⟨v4j, B4j, R4j, Qj⟩ := hRDj.rt
          change G _ [(0, .slice a b.length cap), (2, .pointer (some ⟨w.heap.size, 0, none⟩)), (4, .pointer (some ⟨w2.heap.size, 0, none⟩)), (6, .pointer (some ⟨w7.heap.size, 0, none⟩)), (7, .func (.func 247) #[] ([.pointer (some ⟨w2.heap.size, 0, none⟩), .pointer (some ⟨w7.heap.size, 0, none⟩)] : List Value).toArray), (10, .pointer (some ⟨w33.heap.size, 0, none⟩)), (41, i64 (n : Nat)), (42, i64 i), (14, .pointer (some ⟨w59.heap.size, 0, none⟩)), (62, i64 (kk : Nat)), (63, i64 j)] _ _ wj
          refine .seq (.region ?_)
          refine .p rfl rfl (.lt rfl rfl) ?_
          refine .nil (.code (.seq ?_))
          refine .condD rfl (fun c64 => ?_) (fun c64 => ?_)
          · have hj : j < kk := by omega
            have stj1 := stj.to (g := fun s => (numS 4096 s).bind fun f => (numS 4096 f.2).bind fun c => (piecesS 4096 (kk - (j + 1)) (accp ++ [⟨(f.1 : Int), (c.1 : Int)⟩]) c.2).bind fun p => (filesS 4096 (n - (i + 1)) (acc ++ [⟨(cutF rs.1).1, (zz : Int), p.1⟩]) p.2).map (·.1)) (by rw [show kk - j = (kk - (j + 1)) + 1 by omega, piecesS_bind])
            refine .skip (.code (.seq (.block (.seq (.seq (.keep [(0, _), (2, _), (4, _), (6, _), (7, _), (10, _), (41, _), (42, _), (14, _), (62, _), (63, _)] ⟨rfl, rfl, rfl, rfl, rfl, rfl, rfl, rfl, rfl, rfl, rfl, trivial⟩ (.region ?_)))))))
            refine .p rfl rfl (.load rfl rfl rfl (Qj.cell 0)) ?_
            refine .nil (.code ?_)
            refine .cond rfl (fun c65 => ?_) (fun c65 => ?_)
            · refine .seq (.keep [(2, _)] ⟨rfl, trivial⟩ (.region ?_))
              refine .p rfl rfl (.build (cs := [i64 0, .slice none 0 0]) rfl (fun _ => by kernel_rfl)) ?_
              refine .s rfl (.storeAll (n := 2) rfl rfl rfl rfl rfl hRDj.b2 rfl) ?_
              intro w21 P21
              refine .p rfl rfl (.as rfl) ?_
              refine .nil (.code ?_)
              refine .retM (D := w23.heap.size) (dk_ext hRDj.dk P21.ext (by omega)) (.cell (n := 2) rfl rfl rfl rfl rfl ((P21.blk.ext (Ext.putObj (S := fun k => k = w23.heap.size) _ rfl _) (by omega)).cells) (.tmp rfl .nil)) ?_
              rw [readD_none hlen (St.bad stj c65)]
              exact ⟨_, fun _ => False, fun _ => False, rfl, OwnO.nil, fun _ h => h.elim, fun _ h => h.elim, (hRDj.ext.then P21.ext (by rintro k rfl _; omega)).then (Ext.putObj (S := fun k => k = w23.heap.size) _ rfl _) (by rintro k rfl _; omega)⟩
            · refine .skip (.code (.seq (.keep [(0, _), (2, _), (4, _), (6, _), (7, _), (10, _), (41, _), (42, _), (14, _), (62, _), (63, _)] ⟨rfl, rfl, rfl, rfl, rfl, rfl, rfl, rfl, rfl, rfl, rfl, trivial⟩ (.region ?_))))
              refine .p rfl rfl (.mv rfl) ?_
              refine .call (first := []) (captured := [.pointer (some ⟨w2.heap.size, 0, none⟩), .pointer (some ⟨w7.heap.size, 0, none⟩)]) rfl rfl rfl rfl (FGet_fn (m := 4096) hRDj.rt (by omega) (fun h => (hRDj.sR _ h).1 (.inr (.inl rfl))) (fun h => (hRDj.sR _ h).1 (.inr (.inr (.inl rfl)))) (by decide)) ?_
              rintro _ w68 ⟨rfl, R68, X68⟩
              have z68 := X68.size
              have Dj1 := rd hRDj X68 R68 (hRDj.keepR X68)
              have stj2 := St.num stj1
              obtain ⟨hb68, hl68⟩ := page.numP_le 4096 rj
              generalize page.numP 4096 rj = q68 at *
              obtain ⟨fr, t68⟩ := q68
              simp only at hb68 hl68 stj2 Dj1 R68
              refine .p rfl rfl (.build (cs := [i64 (fr : Nat), i64 0]) rfl (fun _ => by kernel_rfl)) ?_
              refine .v rfl rfl (.alloc rfl rfl) ?_
              rintro _ w15a ⟨rfl, N15⟩
              refine .s rfl (.storeAll (n := 2) rfl rfl rfl rfl rfl N15.blk rfl) ?_
              intro w15 P15
              have X15 : Ext (fun _ => False) w68 w15 := N15.ext.then P15.ext (by rintro k rfl _; exact Nat.le_refl _)
              have z15 : w15.heap.size = w68.heap.size + 1 := by rw [P15.size, N15.size]
              have B15 := P15.blk
              have Dj2 := Dj1.step0 X15
              refine .nil (.code (.seq (.keep [(15, _), (0, _), (2, _), (4, _), (6, _), (7, _), (10, _), (41, _), (42, _), (14, _), (62, _), (63, _)] ⟨rfl, rfl, rfl, rfl, rfl, rfl, rfl, rfl, rfl, rfl, rfl, rfl, trivial⟩ (.region ?_))))
              refine .p rfl rfl (.mv rfl) ?_
              refine .call (first := []) (captured := [.pointer (some ⟨w2.heap.size, 0, none⟩), .pointer (some ⟨w7.heap.size, 0, none⟩)]) rfl rfl rfl rfl (FGet_fn (m := 4096) Dj2.rt (by omega) (fun h => (Dj2.sR _ h).1 (.inr (.inl rfl))) (fun h => (Dj2.sR _ h).1 (.inr (.inr (.inl rfl)))) (by decide)) ?_
              rintro _ w71 ⟨rfl, R71, X71⟩
              have z71 := X71.size
              have Dj3 := rd Dj2 X71 R71 (Dj2.keepR X71)
              have stj3 := St.num stj2
              obtain ⟨hb71, hl71⟩ := page.numP_le 4096 t68
              generalize page.numP 4096 t68 = q71 at *
              obtain ⟨ct, t71⟩ := q71
              simp only at hb71 hl71 stj3 Dj3 R71
              refine .p rfl rfl (.fieldAddr rfl rfl rfl rfl) ?_
              refine .s rfl (.store rfl rfl rfl rfl rfl (B15.ext X71 (by omega)) (by simp)) ?_
              intro w24 P24
              have z24 : w24.heap.size = w71.heap.size := P24.size
              have B24 : Blk w24 w68.heap.size 151 [i64 (fr : Nat), i64 (ct : Nat)] := P24.blk
              have Dj4 := Dj3.step P24.ext (fun k e _ => by have e : k = w68.heap.size := e; exact ⟨by omega, fun hk => by have hk : wi.heap.size ≤ k ∧ k < w46.heap.size := hk; omega, fun hk => by have := (hRD.sB k hk).2.1; omega, fun hk => by have := (hRD.sQ k hk).2.1; omega, by omega⟩)
              have B14k := (((B14j.ext X68 (by omega)).ext X15 (fun x => x)).ext X71 (by omega)).ext P24.ext (by omega)
              have OPk := OwnO.ext (OwnO.ext (OwnO.ext0 (OwnO.ext hOP X68 (fun k hk _ e => by have := hBp k hk; omega) (fun _ h _ => h.elim)) X15) X71 (fun k hk _ e => by have := hBp k hk; omega) (fun _ h _ => h.elim)) P24.ext (fun k hk _ e => by have := hBp k hk; have e : k = w68.heap.size := e; omega) (fun _ h _ => h.elim)
              refine .nil (.code (.keep [(15, _), (0, _), (2, _), (4, _), (6, _), (7, _), (10, _), (41, _), (42, _), (14, _), (62, _), (63, _)] ⟨rfl, rfl, rfl, rfl, rfl, rfl, rfl, rfl, rfl, rfl, rfl, rfl, trivial⟩ (.region ?_)))
              refine .p rfl rfl (.fieldAddr rfl rfl rfl rfl) ?_
              refine .p rfl rfl (.load rfl rfl rfl (B14k.cell 2)) ?_
              refine .p rfl rfl (.loadA (n := 2) rfl rfl rfl rfl rfl B24.cells) ?_
              refine .v rfl rfl (.lits rfl rfl (fun _ => by kernel_rfl)) ?_
              rintro _ w76 ⟨rfl, N76⟩
              have z76 : w76.heap.size = w24.heap.size + 1 := N76.size
              refine .v rfl rfl (.appendLo (t := tPiece) (Q := fun _ => False) (xs := accp) (ys := [⟨(fr : Nat), (ct : Nat)⟩]) (B := fun k => Bp k ∨ w76.heap.size ≤ k) (eb := 16) rfl (OwnO.mono (OwnO.ext0 OPk N76.ext) (fun _ h _ => h) (fun k h _ => .inl h)) (fun k hk => .inr hk) rfl (.inr (New.holds (t := tPiece) (us := [_]) (xs := [⟨(fr : Nat), (ct : Nat)⟩]) N76 (.cons (tPiece.mk (p := ⟨(fr : Nat), (ct : Nat)⟩) ⟨by show _ ≤ ((fr : Nat) : Int); omega, by show ((fr : Nat) : Int) ≤ _; omega⟩ ⟨by show _ ≤ ((ct : Nat) : Int); omega, by show ((ct : Nat) : Int) ≤ _; omega⟩) .nil) rfl)) rfl rfl rfl rfl rfl rfl rfl (by simp; omega) (by simp [Lim]; omega) (fun _ h _ => h.elim)) ?_
              rintro r77 w77 ⟨O77, X77⟩
              have z77 := X77.size
              obtain ⟨a77, k77, rfl, hk77⟩ := OwnO.val O77
              refine .p rfl rfl (.fieldAddr rfl rfl rfl rfl) ?_
              refine .s rfl (.store rfl rfl rfl rfl rfl ((B14k.ext N76.ext (fun x => x)).ext X77 (fun h => by rcases h with h | h; (have := hBp _ h; omega); omega)) (by simp)) ?_
              intro w25 P25
              have z25 : w25.heap.size = w77.heap.size := P25.size
              refine .nil (.blk (.code (.keep [(0, _), (2, _), (4, _), (6, _), (7, _), (10, _), (41, _), (42, _), (14, _), (62, _), (63, _)] ⟨rfl, rfl, rfl, rfl, rfl, rfl, rfl, rfl, rfl, rfl, rfl, trivial⟩ (.region ?_))))
              refine .p rfl rfl (.add rfl rfl (by omega)) ?_
              refine .p rfl rfl (.mv rfl) ?_
              refine .nil ?_
              refine (againj (j + 1, accp ++ [⟨(fr : Nat), (ct : Nat)⟩], t71, _, (fun k => (Bp k ∨ w76.heap.size ≤ k) ∧ k < w77.heap.size), w25) ⟨by show j + 1 ≤ kk; omega, ?_, P25.blk, OwnO.mono (OwnO.ext O77 P25.ext (fun k hk _ e => by have e : k = w59.heap.size := e; rcases hk with hk | hk; (have := hBp k hk; omega); omega) (fun _ h _ => h.elim)) (fun _ h _ => h) (fun k h hl => ⟨h, by have hl : k < w25.heap.size := hl; omega⟩), fun k hk => by show w59.heap.size < k ∧ k < w25.heap.size; rcases hk.1 with h | h; (have := hBp k h; exact ⟨by omega, by omega⟩); exact ⟨by omega, by omega⟩, stj3, by simp [haccp], by show t71.1.length ≤ 1024; omega, by show w62.heap.size ≤ w25.heap.size; omega⟩ (by show kk - (j + 1) < kk - j; omega)).of ⟨rfl, rfl, rfl, rfl, rfl, rfl, rfl, rfl, rfl, rfl, rfl, trivial⟩
              have far : ∀ k, w59.heap.size ≤ k → ¬ (k = w.heap.size ∨ k = w2.heap.size ∨ k = w7.heap.size ∨ k = w33.heap.size ∨ k = w23.heap.size) ∧ ¬ (wi.heap.size ≤ k ∧ k < w46.heap.size) ∧ ¬ B k ∧ ¬ Q k ∧ w.heap.size ≤ k := fun k hk => ⟨by omega, by omega, fun h => by have := (hRD.sB k h).2.1; omega, fun h => by have := (hRD.sQ k h).2.1; omega, by omega⟩
              exact ((Dj4.step0 N76.ext).step X77 (fun k h _ => far k (by rcases h with h | h; (have := hBp k h; omega); omega))).step P25.ext (fun k e _ => far k (by have e : k = w59.heap.size := e; omega))
          · obtain rfl : j = kk := by omega
            rw [Nat.sub_self] at stj
            have stj : St (parseS 4096 (innerD b)) rj (fun s => (filesS 4096 (n - (i + 1)) (acc ++ [⟨(cutF rs.1).1, (zz : Int), accp⟩]) s).map (·.1)) := stj.to (by rw [piecesS_0]; rfl)
            refine .exit rfl (.code (.keep [(0, _), (2, _), (4, _), (6, _), (7, _), (10, _), (41, _), (42, _), (14, _)] ⟨rfl, rfl, rfl, rfl, rfl, rfl, rfl, rfl, rfl, trivial⟩ (.region ?_)))
            refine .p rfl rfl (.fieldAddr rfl rfl rfl rfl) ?_
            refine .p rfl rfl (.load rfl rfl rfl (hRDj.b10.cell 1)) ?_
            refine .p rfl rfl (.loadA (n := 3) rfl rfl rfl rfl rfl B14j.cells) ?_
            refine .v rfl rfl (.lits rfl rfl (fun _ => by kernel_rfl)) ?_
            rintro _ w83 ⟨rfl, N83⟩
            have z83 : w83.heap.size = wj.heap.size + 1 := N83.size
            obtain ⟨aP, kP, rfl, hkP⟩ := OwnO.val hOP
            refine .v rfl rfl (.appendLo (t := tFileO) (Q := fun k => Q k ∨ Bp k) (xs := acc) (ys := [⟨(cutF rs.1).1, (zz : Nat), accp⟩]) (B := fun k => B k ∨ w83.heap.size ≤ k) (eb := 48) rfl (OwnO.mono (OwnO.ext0 hRDj.own N83.ext) (fun k h _ => .inl h) (fun k h _ => .inl h)) (fun k hk => .inr hk) rfl (.inr (New.holds (t := tFileO) (us := [_]) (xs := [⟨(cutF rs.1).1, (zz : Nat), accp⟩]) N83 (.cons (tFileO.mk (x := ⟨(cutF rs.1).1, (zz : Nat), accp⟩) (OwnO.mono hOP (fun _ h _ => h) (fun k h _ => .inr h)) (by show List.length _ < Lim; simp only [Lim]; omega) ⟨by show _ ≤ ((zz : Nat) : Int); omega, by show ((zz : Nat) : Int) ≤ _; omega⟩) .nil) rfl)) rfl rfl rfl rfl rfl rfl rfl (by simp; omega) (by simp [Lim]; omega) (fun k hk hl hb => by rcases hk with hk | hk; (have := hRDj.sQ k hk; rcases hb with hb | hb; (exact (hRDj.sB k hb).2.2.1 hk); omega); (have := hBp k hk; rcases hb with hb | hb; (have := (hRD.sB k hb).2.1; omega); omega))) ?_
            rintro r84 w84 ⟨O84, X84⟩
            have z84 := X84.size
            obtain ⟨a84, k84, rfl, hk84⟩ := OwnO.val O84
            have b10x := (hRDj.b10.ext N83.ext (fun x => x)).ext X84 (fun h => by rcases h with h | h; (exact (hRDj.sB _ h).1 (.inr (.inr (.inr (.inl rfl))))); omega)
            refine .p rfl rfl (.fieldAddr rfl rfl rfl rfl) ?_
            refine .s rfl (.store rfl rfl rfl rfl rfl b10x (by simp)) ?_
            intro w26 P26
            have z26 : w26.heap.size = w84.heap.size := P26.size
            refine .nil (.blk (.code (.keep [(0, _), (2, _), (4, _), (6, _), (7, _), (10, _), (41, _), (42, _)] ⟨rfl, rfl, rfl, rfl, rfl, rfl, rfl, rfl, trivial⟩ (.region ?_))))
            refine .p rfl rfl (.add rfl rfl (by omega)) ?_
            refine .p rfl rfl (.mv rfl) ?_
            refine .nil ?_
            refine (again (i + 1, acc ++ [⟨(cutF rs.1).1, (zz : Nat), accp⟩], rj, .slice a84 (acc ++ [(⟨(cutF rs.1).1, (zz : Nat), accp⟩ : File)]).length k84, (fun k => wi.heap.size ≤ k ∧ k < w46.heap.size), (fun k => (B k ∨ w83.heap.size ≤ k) ∧ k < w84.heap.size), (fun k => Q k ∨ Bp k), w26) ⟨by show i + 1 ≤ n; omega, ?_, stj, hlj, by simp [hacc], ?_, by show w10.heap.size ≤ w26.heap.size; omega⟩ (by show n - (i + 1) < n - i; omega)).of ⟨rfl, rfl, rfl, rfl, rfl, rfl, rfl, rfl, trivial⟩
            · have hBX : ∀ k, k = w.heap.size ∨ k = w2.heap.size ∨ k = w7.heap.size ∨ k = w33.heap.size ∨ k = w23.heap.size → ¬ (B k ∨ w83.heap.size ≤ k) := fun k hk h => by rcases h with h | h; exact (hRDj.sB k h).1 hk; omega
              show RD w w.heap.size w2.heap.size w7.heap.size w33.heap.size w23.heap.size g (fun k => wi.heap.size ≤ k ∧ k < w46.heap.size) (fun k => (B k ∨ w83.heap.size ≤ k) ∧ k < w84.heap.size) (fun k => Q k ∨ Bp k) (acc ++ [(⟨(cutF rs.1).1, (zz : Nat), accp⟩ : File)]) (.slice a84 (acc ++ [(⟨(cutF rs.1).1, (zz : Nat), accp⟩ : File)]).length k84) rj w26
              exact ⟨((hRDj.b2.ext N83.ext (fun x => x)).ext X84 (hBX _ (.inl rfl))).ext P26.ext (by omega), RT.ext (RT.ext (hRDj.rt.ext0 N83.ext) X84 (hBX _ (.inr (.inl rfl))) (hBX _ (.inr (.inr (.inl rfl)))) (fun k hk _ h => by have := hRDj.sR k hk; rcases h with h | h; exact this.2.2.1 h; omega)) P26.ext (by omega) (by omega) (fun k hk _ e => (hRDj.sR k hk).1 (.inr (.inr (.inr (.inl e))))), P26.blk, dk_ext (dk_ext (dk_ext hRDj.dk N83.ext (fun x => x)) X84 (hBX _ (.inr (.inr (.inr (.inr rfl)))))) P26.ext (by omega),
                OwnO.mono (OwnO.ext O84 P26.ext (fun k hk _ e => hBX k (.inr (.inr (.inr (.inl e)))) hk) (fun k hk _ e => by have e : k = w33.heap.size := e; rcases hk with hk | hk; exact (hRDj.sQ k hk).1 (.inr (.inr (.inr (.inl e)))); (have := hBp k hk; omega))) (fun _ h _ => h) (fun k h hl => ⟨h, by omega⟩),
                ((hRDj.ext.trans N83.ext).then X84 (fun k h _ => by rcases h with h | h; exact (hRDj.sB k h).2.2.2; omega)).then P26.ext (by rintro k rfl _; omega),
                fun k hk => ⟨(hRDj.sR k hk).1, by have hk : wi.heap.size ≤ k ∧ k < w46.heap.size := hk; omega, fun h => by have := hRDj.sR k hk; rcases h.1 with h | h; exact this.2.2.1 h; omega, fun h => by have := hRDj.sR k hk; rcases h with h | h; exact this.2.2.2 h; (have := hBp k h; have hk : wi.heap.size ≤ k ∧ k < w46.heap.size := hk; omega)⟩,
                fun k hk => ⟨fun h => hBX k h hk.1, by omega, fun h => by rcases h with h | h; (have := hRDj.sQ k h; rcases hk.1 with hb | hb; exact (hRDj.sB k hb).2.2.1 h; omega); (have := hBp k h; rcases hk.1 with hb | hb; (have := (hRD.sB k hb).2.1; omega); omega), by rcases hk.1 with hb | hb; exact (hRDj.sB k hb).2.2.2; omega⟩,
                fun k hk => by rcases hk with hk | hk; (have := hRDj.sQ k hk; exact ⟨this.1, by omega, this.2.2⟩); (have := hBp k hk; exact ⟨by omega, by omega, by omega⟩)⟩
            · show (allP (acc ++ [_])).length ≤ 4096 * (i + 1)
              rw [allP_snoc, List.length_append]
              show (allP acc).length + accp.length ≤ _
              omega
    · obtain rfl : i = n := by omega
      obtain ⟨aF, kF, rfl, hkF⟩ := OwnO.val hRD.own
      have l2 := hRD.b2.lt
      have l10 := hRD.b10.lt
      have lD := dk_lt hRD.dk
      rw [Nat.sub_self] at hst
      have hst : St (parseS 4096 (innerD b)) rs (fun _ => some acc) := hst.to (by rw [filesS_0]; rfl)
      refine .exit rfl (.code (.seq (.keep [(0, _), (2, _), (6, _), (10, _)] ⟨rfl, rfl, rfl, rfl, trivial⟩ (.region ?_))))
      refine .p rfl rfl (.loadA (n := 2) rfl rfl rfl rfl rfl hRD.b10.cells) ?_
      refine .call (first := []) (captured := []) rfl rfl rfl rfl (FWrite_fn (x := ⟨g, acc⟩) (tDir.mk (x := ⟨g, acc⟩) (own_files hRD.own (fun _ _ => trivial) (fun _ _ => trivial)) hgr2) (by show (allP acc).length ≤ _; omega) (hg.ext0 hRD.ext)) ?_
      rintro _ w89 ⟨v89, rfl, G89, X89⟩
      have z89 := X89.size
      have D9 := hRD.step0 X89
      obtain ⟨v4e, B4e, R4e, Qe⟩ := D9.rt
      refine .p rfl rfl (.mv rfl) ?_
      refine .p rfl rfl (.extract rfl rfl) ?_
      refine .p rfl rfl (.extract rfl rfl) ?_
      refine .p rfl rfl (.as rfl) ?_
      refine .p rfl rfl (.as rfl) ?_
      refine .nil (.code (.seq (.seq (.keep [(17, _), (16, _), (0, _), (2, _), (6, _), (10, _)] ⟨rfl, rfl, rfl, rfl, rfl, rfl, trivial⟩ (.region ?_)))))
      refine .p rfl rfl (.load rfl rfl rfl (Qe.cell 0)) ?_
      refine .p rfl rfl (.mv rfl) ?_
      refine .case 93 rfl (fun c93 => ?_) (fun c93 => ?_)
      · refine .skip rfl rfl ?_
        refine .skip rfl rfl ?_
        refine .p rfl rfl (.pickT rfl rfl) ?_
        refine .p rfl rfl (.mv rfl) ?_
        refine .skip rfl rfl ?_
        refine .skip rfl rfl ?_
        refine .skip rfl rfl ?_
        refine .skip rfl rfl ?_
        refine .p rfl rfl (.pickT rfl rfl) ?_
        refine .nil (.code (.keep [(102, _), (2, _), (10, _)] ⟨rfl, rfl, rfl, trivial⟩ (.condT rfl (.seq (.keep [(2, _)] ⟨rfl, trivial⟩ (.region ?_))))))
        refine .p rfl rfl (.build (cs := [i64 0, .slice none 0 0]) rfl (fun _ => by kernel_rfl)) ?_
        refine .s rfl (.storeAll (n := 2) rfl rfl rfl rfl rfl (by first | exact D10.b2 | exact D9.b2) rfl) ?_
        intro w30 P30
        refine .p rfl rfl (.as rfl) ?_
        refine .nil (.code ?_)
        refine .retM (D := w23.heap.size) (dk_ext D9.dk P30.ext (by omega)) (.cell (n := 2) rfl rfl rfl rfl rfl ((P30.blk.ext (Ext.putObj (S := fun k => k = w23.heap.size) _ rfl _) (by omega)).cells) (.tmp rfl .nil)) ?_
        rw [readD_none hlen (St.bad hst c93)]
        exact ⟨_, fun _ => False, fun _ => False, rfl, OwnO.nil, fun _ h => h.elim, fun _ h => h.elim, (D9.ext.then P30.ext (by rintro k rfl _; omega)).then (Ext.putObj (S := fun k => k = w23.heap.size) _ rfl _) (by rintro k rfl _; omega)⟩
      · refine .p rfl rfl (.mv rfl) ?_
        refine .p rfl rfl (.ne rfl rfl) ?_
        refine .p rfl rfl (.pickF rfl rfl) ?_
        refine .p rfl rfl (.mv rfl) ?_
        refine .caseD 97 rfl (fun c97 => ?_) (fun c97 => ?_)
        · refine .skip rfl rfl ?_
          refine .skip rfl rfl ?_
          refine .skip rfl rfl ?_
          refine .skip rfl rfl ?_
          refine .p rfl rfl (.pickT rfl rfl) ?_
          refine .nil (.code (.keep [(102, _), (2, _), (10, _)] ⟨rfl, rfl, rfl, trivial⟩ (.condT rfl (.seq (.keep [(2, _)] ⟨rfl, trivial⟩ (.region ?_))))))
          refine .p rfl rfl (.build (cs := [i64 0, .slice none 0 0]) rfl (fun _ => by kernel_rfl)) ?_
          refine .s rfl (.storeAll (n := 2) rfl rfl rfl rfl rfl (by first | exact D10.b2 | exact D9.b2) rfl) ?_
          intro w30 P30
          refine .p rfl rfl (.as rfl) ?_
          refine .nil (.code ?_)
          refine .retM (D := w23.heap.size) (dk_ext D9.dk P30.ext (by omega)) (.cell (n := 2) rfl rfl rfl rfl rfl ((P30.blk.ext (Ext.putObj (S := fun k => k = w23.heap.size) _ rfl _) (by omega)).cells) (.tmp rfl .nil)) ?_
          rw [readD_no hg8 hlen (hst.ok (by rw [c93]; exact Bool.false_ne_true)) (fun h => c97 (congrArg Prod.snd h))]
          exact ⟨_, fun _ => False, fun _ => False, rfl, OwnO.nil, fun _ h => h.elim, fun _ h => h.elim, (D9.ext.then P30.ext (by rintro k rfl _; omega)).then (Ext.putObj (S := fun k => k = w23.heap.size) _ rfl _) (by rintro k rfl _; omega)⟩
        · refine .p rfl rfl (.mv rfl) ?_
          refine .p rfl rfl (.mv rfl) ?_
          refine .call (first := []) (captured := []) rfl rfl rfl rfl (slicesEqual_fn (Gr.rep G89) (tBytes.ext0 h D9.ext)) ?_
          rintro _ w100 ⟨rfl, X100⟩
          have z100 := X100.size
          have D10 := D9.step0 X100
          refine .p rfl rfl (.notD rfl) ?_
          refine .p rfl rfl (.pickF rfl rfl) ?_
          refine .nil (.code (.keep [(102, _), (2, _), (10, _)] ⟨rfl, rfl, rfl, trivial⟩ ?_))
          refine .condD rfl (fun c102 => ?_) (fun c102 => ?_)
          · refine .seq (.keep [(2, _)] ⟨rfl, trivial⟩ (.region ?_))
            refine .p rfl rfl (.build (cs := [i64 0, .slice none 0 0]) rfl (fun _ => by kernel_rfl)) ?_
            refine .s rfl (.storeAll (n := 2) rfl rfl rfl rfl rfl (by first | exact D10.b2 | exact D9.b2) rfl) ?_
            intro w30 P30
            refine .p rfl rfl (.as rfl) ?_
            refine .nil (.code ?_)
            refine .retM (D := w23.heap.size) (dk_ext D10.dk P30.ext (by omega)) (.cell (n := 2) rfl rfl rfl rfl rfl ((P30.blk.ext (Ext.putObj (S := fun k => k = w23.heap.size) _ rfl _) (by omega)).cells) (.tmp rfl .nil)) ?_
            rw [readD_no hg8 hlen (hst.ok (by rw [c93]; exact Bool.false_ne_true)) (fun h => c102 (congrArg Prod.fst h))]
            exact ⟨_, fun _ => False, fun _ => False, rfl, OwnO.nil, fun _ h => h.elim, fun _ h => h.elim, (D10.ext.then P30.ext (by rintro k rfl _; omega)).then (Ext.putObj (S := fun k => k = w23.heap.size) _ rfl _) (by rintro k rfl _; omega)⟩
          · refine .skip (.code (.seq (.keep [(2, _), (10, _)] ⟨rfl, rfl, trivial⟩ (.region ?_))))
            refine .p rfl rfl (.loadA (n := 2) rfl rfl rfl rfl rfl D10.b10.cells) ?_
            refine .s rfl (.storeAll (n := 2) rfl rfl rfl rfl rfl D10.b2 rfl) ?_
            intro w31 P31
            refine .p rfl rfl (.as rfl) ?_
            refine .nil (.code ?_)
            refine .retM (D := w23.heap.size) (dk_ext D10.dk P31.ext (by omega)) (.cell (n := 2) rfl rfl rfl rfl rfl ((P31.blk.ext (Ext.putObj (S := fun k => k = w23.heap.size) _ rfl _) (by omega)).cells) (.tmp rfl .nil)) ?_
            rw [readD_ok hg8 hlen (hst.ok (by rw [c93]; exact Bool.false_ne_true)) (Decidable.not_not.1 c102) (Decidable.not_not.1 c97)]
            exact ⟨_, Q, B, rfl, OwnO.ext (OwnO.ext D10.own P31.ext (fun k hk _ e => (D10.sB k hk).1 (.inl e)) (fun k hk _ e => (D10.sQ k hk).1 (.inl e))) (Ext.putObj (S := fun k => k = w23.heap.size) _ rfl _) (fun k hk _ e => (D10.sB k hk).1 (.inr (.inr (.inr (.inr e))))) (fun k hk _ e => (D10.sQ k hk).1 (.inr (.inr (.inr (.inr e))))), fun k hk => (hRD.sQ k hk).2.2, fun k hk => ⟨(hRD.sB k hk).2.2.2, (hRD.sB k hk).2.2.1⟩, (D10.ext.then P31.ext (by rintro k rfl _; omega)).then (Ext.putObj (S := fun k => k = w23.heap.size) _ rfl _) (by rintro k rfl _; omega)⟩
end Go.Proofs.YthliepcjfnjnoaaGreatDoor
