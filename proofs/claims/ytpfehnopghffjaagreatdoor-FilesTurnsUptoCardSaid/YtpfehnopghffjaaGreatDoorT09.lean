import Derived.Test.YtpfehnopghffjaaGreatDoorT06
import Derived.Test.YtpfehnopghffjaaGreatDoorT08
import Derived.Test.YtpfehnopghffjaaGreatDoorT03
import Derived.Test.YtpfehnopghffjaaGreatDoorT07
set_option linter.unusedVariables false
set_option linter.unusedSimpArgs false
set_option maxRecDepth 20000
namespace Go.Proofs.YtpfehnopghffjaaGreatDoor
open Go
def tOwnG {α : Type} (t : Ty α) (E : TypeId) : Ty (List α) where
 size := 1
 rep P w v l := OwnO t (fun _ => False) E w v l P
 sz := by rintro P w v l h; obtain ⟨a, cap, rfl, _⟩ := h.val; rfl
 one := by rintro P w v l h u hu; obtain ⟨a, cap, rfl, _⟩ := h.val; simp [Value.cells] at hu; subst hu; rfl
 keep := by
  rintro P w w' v l h hk
  rcases h with h | ⟨b, h1, h2, h3⟩
  ·exact .inl h
  ·have hb := hk b h1 h2
   refine .inr ⟨b, h1, ?_, h3.keep hb (fun _ h _ => h.elim)⟩
   rcases Nat.lt_or_ge b w'.heap.size with h' | h'
   ·exact h'
   ·rw [Array.getElem?_eq_none h'] at hb
    simp [h2] at hb
 mono := fun h hk => OwnO.mono h (fun _ h _ => h) hk
theorem dk_ext {S : Nat → Prop} {w w' : World} {D : Nat} {o : Obj} (h : w.heap[D]? = some o) (hx : Ext S w w') (hs : ¬ S D) : w'.heap[D]? = some o := (hx.block D (Array.getElem?_eq_some_iff.1 h).1 hs).trans h
theorem dk_lt {w : World} {D : Nat} {o : Obj} (h : w.heap[D]? = some o) : D < w.heap.size := (Array.getElem?_eq_some_iff.1 h).1
theorem getTo_take (l : Bs) (n : Nat) : ∀ i, i ≤ n → getTo (l.take n) i = getTo l i
 | 0, _ => rfl
 | i + 1, h => by
  rw [getTo, getTo, getTo_take l n i (by omega), List.getD_eq_getElem?_getD, List.getD_eq_getElem?_getD, List.getElem?_take_of_lt (by omega)]
theorem Get8_fn {w : World} {v : Value} {b : Bs} {n : Nat} (hn : n = getTo b 8) (h : tBytes.rep All w v (b.take 8)) (hl : 8 ≤ b.length) : Fn Tryz.prog 58 [v] w (fun r w2 => r = .tuple #[.int .u64 (n : Nat), i64 0] ∧ Ext (fun _ => False) w w2) :=
 (Get_fn h).mono (fun r w2 ⟨hr, hx⟩ => ⟨by rw [hn, hr, if_pos (by rw [List.length_take]; omega), if_pos (by rw [List.length_take]; omega), getTo_take b 8 8 (by omega)], hx⟩)
theorem G.rangeFuncF {F : Fr} {e : Env} {k : List It} {w : World} {gf : Nat} {lb : List Value} {c : Operand} {ps : Array Tmp} {assign body : Code} {Jn : World → Prop}
  (hg : look e c = some (.func (.func gf) #[] lb.toArray)) (eg : ∀ args w, (callFunc gf args).run F.P w = .ok (.enter gf args) w)
  (hc : ∀ fn tmps, Ag F.z e ⟨tmps, F.z.D⟩ → Fn F.P gf (.func (.yield (w.heap.size + 1)) #[] #[] :: lb) ((w.alloc (.deferred (some []))).alloc (recOf fn tmps ps assign body w.heap.size .ready)) (fun r w3 => Between fn tmps ps assign body w.heap.size Jn w3))
  (next : ∀ fn tmps W, Jn W → W.heap[w.heap.size]? = some (.deferred (some [])) → w.heap.size + 1 < W.heap.size →
   A (F.off ⟨.collected w.heap.size, #[]⟩) e k (W.putObj (w.heap.size + 1) (recOf fn tmps ps assign body w.heap.size .exhausted))) :
  G F e (.rangeFunc c ps assign body) k w :=
 G.rangeFunc hg eg (fun fn tmps hag w' hs => ((hc fn tmps hag).2 w' hs).mono (by
  rintro en w3 ⟨r, w2', hs2, rfl, hb⟩
  exact ⟨⟨r, rfl⟩, hb.same hs2⟩)) next
namespace files
open room page
def tFileO : Ty File := (tStr.pair (tInt.pair (tOwnG tPiece 40))).map (fun x => (x.name, x.size, x.ps))
theorem tFileO.val {P : Nat → Prop} {w : World} {v : Value} {x : File} (h : tFileO.rep P w v x) : ∃ a cap, v = .agg #[str x.name, i64 x.size, .slice a x.ps.length cap] ∧ OwnO tPiece (fun _ => False) 40 w (.slice a x.ps.length cap) x.ps P ∧ x.name.length < Lim ∧ (-9223372036854775808 ≤ x.size ∧ x.size ≤ 9223372036854775807) := by
 obtain ⟨_, _, rfl, ⟨rfl, h1⟩, _, u, rfl, ⟨rfl, h2⟩, h3⟩ := h
 have h3 : OwnO tPiece (fun _ => False) 40 w u x.ps P := h3
 obtain ⟨a, cap, rfl, _⟩ := OwnO.val h3
 exact ⟨a, cap, rfl, h3, h1, h2⟩
theorem tFileO.mk {P : Nat → Prop} {w : World} {x : File} {a : Option Addr} {n cap : Nat} (h : OwnO tPiece (fun _ => False) 40 w (.slice a n cap) x.ps P) (h1 : x.name.length < Lim) (h2 : -9223372036854775808 ≤ x.size ∧ x.size ≤ 9223372036854775807) : tFileO.rep P w (.agg #[str x.name, i64 x.size, .slice a n cap]) x :=
 ⟨str x.name, .agg #[i64 x.size, .slice a n cap], rfl, ⟨rfl, h1⟩, i64 x.size, .slice a n cap, rfl, ⟨rfl, h2⟩, h⟩
theorem tFileO.weak {P : Nat → Prop} {w : World} {v : Value} {x : File} (h : tFileO.rep P w v x) : tFile.rep P w v x := by
 obtain ⟨a, cap, rfl, h3, h1, h2⟩ := tFileO.val h
 exact tFile.mk (OwnO.rep h3 (fun _ h _ => h) (fun _ h _ => h.elim)) h1 h2
theorem own_files {P Q B : Nat → Prop} {w : World} {v : Value} {l : List File} (h : OwnO tFileO Q 28 w v l B) (hb : ∀ k, B k → P k) (hq : ∀ k, Q k → P k) : (Sl tFile).rep P w v l :=
 Sl.imp (OwnO.rep h (fun k h _ => hb k h) (fun k h _ => hq k h)) (fun u x h => tFileO.weak h)
theorem innerD_length (b : Bs) : (innerD b).length ≤ 1024 := by
 unfold innerD
 rw [show List.range 8 = [0, 1, 2, 3, 4, 5, 6, 7] from rfl]
 simp only [List.flatMap_cons, List.flatMap_nil, List.length_append, List.length_drop, List.length_take, List.length_nil]
 omega
theorem filesS_map {B n : Nat} {acc : List File} {s : Bs} : (filesS B (n + 1) acc s).map (·.1) = (cutS s).bind fun t => (numS 524288 t.2).bind fun z => (numS 4096 z.2).bind fun k => (piecesS B k.1 [] k.2).bind fun p => (filesS B n (acc ++ [⟨t.1, (z.1 : Int), p.1⟩]) p.2).map (·.1) := by
 rw [filesS_s]
 simp only [Option.map_bind, Function.comp_def]
theorem piecesS_bind {β : Type} {B n : Nat} {acc : List Piece} {s : Bs} {g : List Piece × Bs → Option β} : (piecesS B (n + 1) acc s).bind g = (numS B s).bind fun f => (numS 4096 f.2).bind fun c => (piecesS B n (acc ++ [⟨(f.1 : Int), (c.1 : Int)⟩]) c.2).bind g := by
 rw [piecesS_s]
 simp only [Option.bind_assoc]
def JC (w : World) (cb cn c4 : Nat) (v : Value) (b : Bs) (i : Nat) (W : World) : Prop :=
 ∃ u, Blk W cb 25 [v] ∧ Blk W cn 3 [i64 128] ∧ Blk W c4 25 [u] ∧ OwnO tByte (fun _ => False) 5 W u ((List.range i).flatMap (fun i => ((b.drop (i * 128)).take 128).drop 9)) (fun k => w.heap.size + 2 ≤ k) ∧ tBytes.rep (fun k => k < c4) W v b ∧ Ext (fun k => k = c4) w W
theorem JC.put {w W : World} {cb cn c4 : Nat} {v : Value} {b : Bs} {i : Nat} (h : JC w cb cn c4 v b i W) (h1 : cb < w.heap.size) (h2 : cn < w.heap.size) (h3 : c4 < w.heap.size) (o : Obj) : JC w cb cn c4 v b i (W.putObj (w.heap.size + 1) o) := by
 obtain ⟨u, Cb, Cn, C4, O4, Rb, X⟩ := h
 have P := Ext.putObj (S := fun k => k = w.heap.size + 1) W rfl o
 exact ⟨u, Cb.ext P (by omega), Cn.ext P (by omega), C4.ext P (by omega), OwnO.ext O4 P (fun k hk _ e => by have hk : w.heap.size + 2 ≤ k := hk; have e : k = w.heap.size + 1 := e; omega) (fun _ h _ => h.elim), tBytes.ext Rb P (fun k hk _ e => by have hk : k < c4 := hk; have e : k = w.heap.size + 1 := e; omega), X.and P (fun k e hk => by have e : k = w.heap.size + 1 := e; omega)⟩
theorem JC.step {b : Bs} {i : Nat} (hl : b.length = 1024) (hi : i < 8) : (List.range (i + 1)).flatMap (fun i => ((b.drop (i * 128)).take 128).drop 9) = (List.range i).flatMap (fun i => ((b.drop (i * 128)).take 128).drop 9) ++ (((b.take (i * 128 + 128)).drop (i * 128)).drop 9) := by
 rw [List.range_succ, List.flatMap_append, List.flatMap_cons, List.flatMap_nil, List.append_nil, show (b.take (i * 128 + 128)).drop (i * 128) = (b.drop (i * 128)).take 128 by rw [List.drop_take]; congr 1; omega]
structure RD (w0 : World) (c2 c4 c6 c10 D : Nat) (g : Int) (R B Q : Nat → Prop) (acc : List File) (vF : Value) (rs : RS) (W : World) : Prop where
 b2 : Blk W c2 24 [i64 0, .slice none 0 0]
 rt : RT W c4 c6 R rs
 b10 : Blk W c10 24 [i64 g, vF]
 dk : W.heap[D]? = some (.deferred (some []))
 own : OwnO tFileO Q 28 W vF acc B
 ext : Ext (fun _ => False) w0 W
 sR : ∀ k, R k → ¬ (k = c2 ∨ k = c4 ∨ k = c6 ∨ k = c10 ∨ k = D) ∧ k < W.heap.size ∧ ¬ B k ∧ ¬ Q k
 sB : ∀ k, B k → ¬ (k = c2 ∨ k = c4 ∨ k = c6 ∨ k = c10 ∨ k = D) ∧ k < W.heap.size ∧ ¬ Q k ∧ w0.heap.size ≤ k
 sQ : ∀ k, Q k → ¬ (k = c2 ∨ k = c4 ∨ k = c6 ∨ k = c10 ∨ k = D) ∧ k < W.heap.size ∧ w0.heap.size ≤ k
section
variable {w0 W W' : World} {c2 c4 c6 c10 D : Nat} {g : Int} {R B Q S : Nat → Prop} {acc : List File} {vF : Value} {rs rs' : RS}
theorem RD.step (h : RD w0 c2 c4 c6 c10 D g R B Q acc vF rs W) (hx : Ext S W W') (hs : ∀ k, S k → k < W.heap.size → ¬ (k = c2 ∨ k = c4 ∨ k = c6 ∨ k = c10 ∨ k = D) ∧ ¬ R k ∧ ¬ B k ∧ ¬ Q k ∧ w0.heap.size ≤ k) : RD w0 c2 c4 c6 c10 D g R B Q acc vF rs W' := by
 have l2 := h.b2.lt
 have l46 := h.rt.lt
 have l10 := h.b10.lt
 have lD := dk_lt h.dk
 have z := hx.size
 exact ⟨h.b2.ext hx (fun e => (hs _ e l2).1 (.inl rfl)), h.rt.ext hx (fun e => (hs _ e l46.1).1 (.inr (.inl rfl))) (fun e => (hs _ e l46.2).1 (.inr (.inr (.inl rfl)))) (fun k hk hl e => (hs k e hl).2.1 hk), h.b10.ext hx (fun e => (hs _ e l10).1 (.inr (.inr (.inr (.inl rfl))))), dk_ext h.dk hx (fun e => (hs _ e lD).1 (.inr (.inr (.inr (.inr rfl))))),
  OwnO.ext h.own hx (fun k hk hl e => (hs k e hl).2.2.1 hk) (fun k hk hl e => (hs k e hl).2.2.2.1 hk), h.ext.then hx (fun k e hl => (hs k e hl).2.2.2.2), fun k hk => by have := h.sR k hk; exact ⟨this.1, by omega, this.2.2⟩, fun k hk => by have := h.sB k hk; exact ⟨this.1, by omega, this.2.2⟩, fun k hk => by have := h.sQ k hk; exact ⟨this.1, by omega, this.2.2⟩⟩
theorem RD.step0 (h : RD w0 c2 c4 c6 c10 D g R B Q acc vF rs W) (hx : Ext (fun _ => False) W W') : RD w0 c2 c4 c6 c10 D g R B Q acc vF rs W' := h.step hx (fun _ h _ => h.elim)
theorem RD.read (h : RD w0 c2 c4 c6 c10 D g R B Q acc vF rs W) (h4 : w0.heap.size ≤ c4) (h6 : w0.heap.size ≤ c6) (h42 : c4 ≠ c2) (h62 : c6 ≠ c2) (h40 : c4 ≠ c10) (h60 : c6 ≠ c10) (h4D : c4 ≠ D) (h6D : c6 ≠ D) (hx : Ext (fun k => k = c4 ∨ k = c6) W W') {R' : Nat → Prop} (hr : RT W' c4 c6 R' rs')
  (hR : ∀ k, R' k → ¬ (k = c2 ∨ k = c4 ∨ k = c6 ∨ k = c10 ∨ k = D) ∧ k < W'.heap.size ∧ ¬ B k ∧ ¬ Q k) : RD w0 c2 c4 c6 c10 D g R' B Q acc vF rs' W' := by
 have z := hx.size
 exact ⟨h.b2.ext hx (fun e => e.elim (fun e => h42 e.symm) (fun e => h62 e.symm)), hr, h.b10.ext hx (fun e => e.elim (fun e => h40 e.symm) (fun e => h60 e.symm)), dk_ext h.dk hx (fun e => e.elim (fun e => h4D e.symm) (fun e => h6D e.symm)),
  OwnO.ext h.own hx (fun k hk hl e => e.elim (fun e => (h.sB k hk).1 (.inr (.inl e))) (fun e => (h.sB k hk).1 (.inr (.inr (.inl e))))) (fun k hk hl e => e.elim (fun e => (h.sQ k hk).1 (.inr (.inl e))) (fun e => (h.sQ k hk).1 (.inr (.inr (.inl e))))), h.ext.then hx (fun k e hl => e.elim (fun e => by omega) (fun e => by omega)), hR, fun k hk => by have := h.sB k hk; exact ⟨this.1, by omega, this.2.2⟩, fun k hk => by have := h.sQ k hk; exact ⟨this.1, by omega, this.2.2⟩⟩
theorem RD.keepR (h : RD w0 c2 c4 c6 c10 D g R B Q acc vF rs W) (hx : Ext S W W') : ∀ k, R k → ¬ (k = c2 ∨ k = c4 ∨ k = c6 ∨ k = c10 ∨ k = D) ∧ k < W'.heap.size ∧ ¬ B k ∧ ¬ Q k := fun k hk => by
 have := h.sR k hk
 have z := hx.size
 exact ⟨this.1, by omega, this.2.2⟩
end
theorem readD_none {b : Bs} (h : b.length = 1024) (hp : parseS 4096 (innerD b) = none) : readD b = (⟨0, []⟩, 8) := freadG_none h hp
theorem readD_len {b : Bs} (h : ¬ b.length = 1024) : readD b = (⟨0, []⟩, 8) := freadG_len h
theorem readD_no {b : Bs} {fs : List File} {g : Int} (hg : min (getTo b 8 : Int) 4611686018427387904 = g) (h : b.length = 1024) (hp : parseS 4096 (innerD b) = some fs) (hw : ¬ writeF ⟨g, fs⟩ = (b, 0)) : readD b = (⟨0, []⟩, 8) := by subst hg; exact freadG_no h hp hw
theorem readD_ok {b : Bs} {fs : List File} {g : Int} (hg : min (getTo b 8 : Int) 4611686018427387904 = g) (h : b.length = 1024) (hp : parseS 4096 (innerD b) = some fs) (h1 : (writeF ⟨g, fs⟩).1 = b) (h2 : (writeF ⟨g, fs⟩).2 = 0) : readD b = (⟨g, fs⟩, 0) := by subst hg; exact freadG_ok h hp (Prod.ext h1 h2)
theorem St.begin (b : Bs) : St (parseS 4096 b) (b, false) (fun s => (numS 32 s).bind fun n => (filesS 4096 n.1 [] n.2).map (·.1)) := by unfold St; rw [if_neg (by exact Bool.false_ne_true)]; rfl
theorem innerTo_length (b : Bs) : ∀ i, ((List.range i).flatMap (fun i => ((b.drop (i * 128)).take 128).drop 9)).length ≤ i * 128
 | 0 => by simp
 | i + 1 => by
  have := innerTo_length b i
  rw [List.range_succ, List.flatMap_append, List.length_append, List.flatMap_cons, List.flatMap_nil, List.append_nil, List.length_drop, List.length_take]
  omega
theorem allP_snoc (l : List File) (f : File) : allP (l ++ [f]) = allP l ++ f.ps := by simp [allP]
end files
open room files
attribute [local irreducible] writeF readD freadG parseS filesS piecesS numS cutS innerD checkD
theorem FGet_fn {w : World} {p q : Nat} {P : Nat → Prop} {s : page.RS} (h : RT w p q P s) (hpq : ¬ p = q) (hp : ¬ P p) (hq : ¬ P q) {m : Nat} (hm : m < 9223372036854775808) : Fn Tryz.prog 56 ([] ++ [i64 m] ++ [.pointer (some ⟨p, 0, none⟩), .pointer (some ⟨q, 0, none⟩)]) w (fun r w2 => r = i64 ((page.numP m s).1 : Nat) ∧ RT w2 p q P (page.numP m s).2 ∧ Ext (fun k => k = p ∨ k = q) w w2) := by
 obtain ⟨v0, B0, R0, Q0⟩ := h
 obtain ⟨a, cap, rfl, hcap⟩ := Sl.val R0
 obtain ⟨hr1, hr2⟩ := readF_bd s.1
 refine Fn.enter (fun w => Tryz.call56 _ w) Tryz.func56 rfl ?_
 refine .seq (.region ?_)
 refine .p rfl rfl (.as rfl) (.nil (.code (.seq (.keep [(0, _), (1, _), (2, _)] ⟨rfl, rfl, rfl, trivial⟩ (.region ?_)))))
 refine .p rfl rfl (.load rfl rfl rfl (B0.cell 0)) (.call (first := []) (captured := []) rfl rfl rfl rfl (Read_fn (allOf R0)) ?_)
 rintro _ w10 ⟨rfl, X10⟩
 have B1 := B0.ext X10 (fun x => x)
 have R1 := tBytes.ext0 R0 X10
 have Q1 := Q0.ext X10 (fun x => x)
 refine .p rfl rfl (.mv rfl) (.p rfl rfl (.extract rfl rfl) (.p rfl rfl (.extract rfl rfl) (.p rfl rfl (.extract rfl rfl) (.p rfl rfl (.as rfl) (.p rfl rfl (.as rfl) (.p rfl rfl (.as rfl) (.nil (.code (.seq (.seq (.keep [(7, _), (6, _), (5, _), (0, _), (1, _), (2, _)] ⟨rfl, rfl, rfl, rfl, rfl, rfl, trivial⟩ (.region ?_))))))))))))
 refine .p rfl rfl (.mv rfl) (.p rfl rfl (.ne rfl rfl) (.p rfl rfl (.mv rfl) ?_))
 refine .caseD 16 rfl (fun c16 => ?_) (fun c16 => ?_)
 ·refine .skip rfl rfl (.skip rfl rfl (.skip rfl rfl (.skip rfl rfl (.p rfl rfl (.pickT rfl rfl) (.nil (.code (.keep [(21, _), (6, _), (5, _), (1, _), (2, _)] ⟨rfl, rfl, rfl, rfl, rfl, trivial⟩ (.condT rfl (.seq (.keep [(2, _)] ⟨rfl, trivial⟩ (.region ?_)))))))))))
  refine .s rfl (.store rfl rfl rfl rfl rfl Q1 (by simp)) ?_
  intro w3 P3
  refine .nil (.code (.seq (.keep [] trivial (.region ?_))))
  refine .p rfl rfl (.as rfl) (.nil (.code ?_))
  refine .ret _ rfl ?_
  have e : page.numP m s = (0, (s.1, true)) := by unfold page.numP; rw [if_pos (by first | exact .inl (by assumption) | exact .inr (by omega))]
  rw [e]
  exact ⟨rfl, ⟨_, B1.ext P3.ext (fun h => hpq h), tBytes.ext R1 P3.ext (fun k hk _ he => hq (by have he : k = q := he; rw [← he]; exact hk)), P3.blk⟩, (X10.mono (fun _ _ h => h.elim)).trans (P3.ext.mono (fun k _ h => .inr h))⟩
 ·refine .p rfl rfl (.mv rfl) (.p rfl rfl (.mv rfl) (.p rfl rfl (.convU rfl rfl rfl (by omega)) (.p rfl rfl (.gt rfl rfl) (.p rfl rfl (.pickF rfl rfl) (.nil (.code (.keep [(21, _), (6, _), (5, _), (1, _), (2, _)] ⟨rfl, rfl, rfl, rfl, rfl, trivial⟩ ?_)))))))
  refine .condD rfl (fun c21 => ?_) (fun c21 => ?_)
  ·refine .seq (.keep [(2, _)] ⟨rfl, trivial⟩ (.region ?_))
   refine .s rfl (.store rfl rfl rfl rfl rfl Q1 (by simp)) ?_
   intro w3 P3
   refine .nil (.code (.seq (.keep [] trivial (.region ?_))))
   refine .p rfl rfl (.as rfl) (.nil (.code ?_))
   refine .ret _ rfl ?_
   have e : page.numP m s = (0, (s.1, true)) := by unfold page.numP; rw [if_pos (by first | exact .inl (by assumption) | exact .inr (by omega))]
   rw [e]
   exact ⟨rfl, ⟨_, B1.ext P3.ext (fun h => hpq h), tBytes.ext R1 P3.ext (fun k hk _ he => hq (by have he : k = q := he; rw [← he]; exact hk)), P3.blk⟩, (X10.mono (fun _ _ h => h.elim)).trans (P3.ext.mono (fun k _ h => .inr h))⟩
  ·obtain ⟨a34, c34, hv34, hc34, R34⟩ := Sl.cutE R1 (readF s.1).2.1 s.1.length (by omega) (by omega)
   rw [List.take_length] at R34
   refine .skip (.code (.seq (.keep [(6, _), (5, _), (1, _)] ⟨rfl, rfl, rfl, trivial⟩ (.region ?_))))
   refine .p rfl rfl (.load rfl rfl rfl (B1.cell 0)) (.p rfl rfl (.mv rfl) (.p rfl rfl (.cast (.cutLo (s := 1) rfl rfl rfl rfl (by omega)) (show cutV 1 a cap ((readF s.1).2.1 : Int).toNat s.1.length = .slice a34 (s.1.length - (readF s.1).2.1) c34 by rw [Int.toNat_natCast]; exact hv34)) (.s rfl (.store rfl rfl rfl rfl rfl B1 (by simp)) ?_)))
   intro w36 P36
   refine .nil (.code (.seq (.keep [(5, _)] ⟨rfl, trivial⟩ (.region ?_))))
   refine .p rfl rfl (.mv rfl) (.p rfl rfl (.convI rfl rfl rfl (by omega)) (.p rfl rfl (.as rfl) (.nil (.code ?_))))
   refine .ret _ rfl ?_
   have e : page.numP m s = ((readF s.1).1, (s.1.drop (readF s.1).2.1, s.2)) := by unfold page.numP; rw [if_neg (fun h => h.elim c16 (by omega))]
   rw [e]
   exact ⟨rfl, ⟨_, P36.blk, tBytes.ext (by simpa using R34) P36.ext (fun k hk _ he => hp (by have he : k = p := he; rw [← he]; exact hk)), Q1.ext P36.ext (fun h => hpq (Eq.symm h))⟩, (X10.mono (fun _ _ h => h.elim)).trans (P36.ext.mono (fun k _ h => .inl h))⟩
set_option maxHeartbeats 4000000 in
theorem FRead_fn {w : World} {v : Value} {b : Bs} (h : tBytes.rep All w v b) (hg : GOK w) : Fn Tryz.prog 14 [v] w (fun r w2 => ∃ v' Q B, r = .tuple #[.agg #[i64 (readD b).1.gen, v'], i64 (readD b).2] ∧ OwnO tFileO Q 28 w2 v' (readD b).1.fs B ∧ (∀ k, Q k → w.heap.size ≤ k) ∧ (∀ k, B k → w.heap.size ≤ k ∧ ¬ Q k) ∧ Ext (fun _ => False) w w2) := by
 obtain ⟨a, cap, rfl, hcap⟩ := Sl.val h
 refine Fn.enterM (fun w => Tryz.call14 _ w) Tryz.func14 rfl ?_
 refine .seq (.region ?_)
 refine .v rfl rfl (.alloc rfl rfl) ?_
 rintro _ w2 ⟨rfl, N2⟩
 have z2 : w2.heap.size = w.heap.size + 1 := N2.size
 refine .p rfl rfl (.as rfl) (.nil (.code (.seq (.seq (.keep [(2, _), (0, _)] ⟨rfl, rfl, trivial⟩ (.region ?_))))))
 refine .p rfl rfl (.mv rfl) (.p rfl rfl (.len rfl rfl) (.p rfl rfl (.ne rfl rfl) (.nil (.code (.keep [(20, _), (2, _), (0, _)] ⟨rfl, rfl, rfl, trivial⟩ ?_)))))
 refine .condD rfl (fun c20 => ?_) (fun c20 => ?_)
 ·refine .seq (.keep [(2, _)] ⟨rfl, trivial⟩ (.region ?_))
  refine .p rfl rfl (.build (cs := [i64 0, .slice none 0 0]) rfl (fun _ => by kernel_rfl)) (.s rfl (.storeAll (n := 2) rfl rfl rfl rfl rfl N2.blk rfl) ?_)
  intro w3 P3
  refine .p rfl rfl (.as rfl) (.nil (.code ?_))
  refine .retM0 (.cell (n := 2) rfl rfl rfl rfl rfl (P3.blk.cells) (.tmp rfl .nil)) ?_
  rw [readD_len (by omega)]
  exact ⟨_, fun _ => False, fun _ => False, rfl, OwnO.nil, fun _ h => h.elim, fun _ h => h.elim, N2.ext.then P3.ext (by rintro k rfl _; exact Nat.le_refl _)⟩
 ·have hlen : b.length = 1024 := by omega
  refine .skip (.code (.seq (.keep [(2, _), (0, _)] ⟨rfl, rfl, trivial⟩ (.region ?_))))
  refine .v rfl rfl (.alloc rfl rfl) ?_
  rintro _ w4 ⟨rfl, N4⟩
  have z4 : w4.heap.size = w2.heap.size + 1 := N4.size
  refine .nil (.code (.seq (.seq (.region ?_))))
  refine .p rfl rfl (.mv rfl) (.call (first := []) (captured := []) rfl rfl rfl rfl (Chunk_fn rfl rfl) ?_)
  rintro _ w23 ⟨rfl, Bb, Bn, z23, X23⟩
  have C4 := N4.blk.ext X23 (fun x => x)
  have Rb : tBytes.rep (fun k => k < w2.heap.size) w23 (.slice a b.length cap) b := tBytes.ext0 (tBytes.mono (P' := fun k => k < w2.heap.size) h (fun k _ hk => by show k < w2.heap.size; omega)) ((N2.ext.trans N4.ext).trans X23)
  refine .nil (.code (.block (.keep [(23, _), (4, _), (2, _), (0, _)] ⟨rfl, rfl, rfl, rfl, trivial⟩ ?_)))
  refine .rangeFuncF (Jn := JC w23 w4.heap.size (w4.heap.size + 1) w2.heap.size (.slice a b.length cap) b 8) rfl (fun args w => Tryz.call116 args w) ?_ ?_
  ·intro fn tmps hag
   have hJ : ∀ i W, JC w23 w4.heap.size (w4.heap.size + 1) w2.heap.size (.slice a b.length cap) b i W → Blk W w4.heap.size 25 [.slice a 1024 cap] ∧ Blk W (w4.heap.size + 1) 3 [i64 128] := by
    rintro i W ⟨u, h1, h2, _⟩
    rw [hlen] at h1
    exact ⟨h1, h2⟩
   have X0 : ∀ o, Ext (fun _ => False) w23 ((w23.alloc (.deferred (some []))).alloc o) := fun o => (Ext.alloc _ _).trans (Ext.alloc _ _)
   refine Chunk1_fn (J := JC w23 w4.heap.size (w4.heap.size + 1) w2.heap.size (.slice a b.length cap) b) (a := a) (cap := cap) (by omega) hJ ?_ ?_
   ·intro i W hi hb
    obtain ⟨a5, c5, hv5, hc5⟩ : ∃ a5 c5, cutV 1 a (i * 128 + 128) (i * 128) (i * 128 + 128) = .slice a5 128 c5 ∧ 128 ≤ c5 := by
     have R := Sl.cutM h (i * 128) (i * 128 + 128) (by omega) (by omega)
     obtain ⟨a5, c5, e, hc⟩ := Sl.val R
     have hl5 : ((b.take (i * 128 + 128)).drop (i * 128)).length = 128 := by simp; omega
     rw [hl5] at e hc
     exact ⟨a5, c5, e, hc⟩
    rw [hv5]
    refine yield_mix (e1 := [(5, .slice a5 128 c5), (4, .pointer (some ⟨w2.heap.size, 0, none⟩))]) hag rfl hb (by kernel_rfl) [3, 4] (by kernel_rfl) (by kernel_rfl) rfl rfl (fun _ k => w23.heap.size + 2 ≤ k) ?_ ?_
    ·intro W0 R hA
     refine .p rfl rfl (.as rfl) (.nil ?_)
     exact hA.of ⟨rfl, rfl, trivial⟩
    ·rintro W0 W1 R hl hk hJ0 hW1 hl1 hk1 next
     have hJ1 : JC w23 w4.heap.size (w4.heap.size + 1) w2.heap.size (.slice a b.length cap) b i W1 := by rw [hW1]; exact hJ0.put (by omega) (by omega) (by omega) _
     obtain ⟨u, Cb, Cn, C4, O4, Rb, X⟩ := hJ1
     have hsz := dk_lt hl1
     have R5 := Sl.cutM Rb (i * 128) (i * 128 + 128) (by omega) (by omega)
     rw [show cutV tByte.size a (i * 128 + 128) (i * 128) (i * 128 + 128) = _ from hv5] at R5
     have hl5 : ((b.take (i * 128 + 128)).drop (i * 128)).length = 128 := by simp; omega
     obtain ⟨a27, c27, hv27, hc27, R27⟩ := Sl.cutE R5 9 128 (by omega) (by omega)
     rw [List.take_of_length_le (by omega)] at R27
     have hlu : ((List.range i).flatMap (fun i => ((b.drop (i * 128)).take 128).drop 9)).length ≤ 2000 := by
      have := innerTo_length b i
      omega
     refine .p rfl rfl rfl (fun wx hx => .load rfl rfl rfl ((C4.ext hx (by omega)).cell 0)) ?_
     refine .p rfl rfl rfl (fun wx hx => .mv rfl) (.p rfl rfl rfl (fun wx hx => .cast (.cutLo (s := 1) rfl rfl rfl rfl (by omega)) (show cutV 1 a5 c5 (9 : Int).toNat 128 = _ from hv27)) (.v rfl rfl rfl (.appendLo (t := tByte) (eb := 1) rfl O4 (fun k hk => by show w23.heap.size + 2 ≤ k; omega) rfl (Gr.holds (P := All) (allOf R27)) rfl rfl rfl rfl rfl rfl rfl (by simp only [List.length_drop, hl5]; omega) (by simp only [List.length_drop, hl5, Lim]; omega) (fun _ h _ => h.elim)) (by rintro _ _ ⟨_, hx⟩; exact hx) ?_))
     rintro r28 w28 ⟨O28, X28⟩
     obtain ⟨a28, c28, rfl, hc28⟩ := OwnO.val O28
     refine .sL rfl rfl (.store rfl rfl rfl rfl rfl (C4.ext X28 (by omega)) (by simp)) (by kernel_rfl) ?_
     intro w29 P29
     refine .nil (next _ w29 (dk_ext (dk_ext hl1 X28 (by omega)) P29.ext (by omega)) (dk_ext (dk_ext hk1 X28 (by omega)) P29.ext (by omega)) ?_)
     refine JC.put ?_ (by omega) (by omega) (by omega) _
     refine ⟨_, (Cb.ext X28 (by omega)).ext P29.ext (by omega), (Cn.ext X28 (by omega)).ext P29.ext (by omega), P29.blk, ?_, tBytes.ext (tBytes.ext Rb X28 (fun k hk _ e => by have hk : k < w2.heap.size := hk; have e : w23.heap.size + 2 ≤ k := e; omega)) P29.ext (fun k hk _ e => ?_), (X.and X28 (fun k e hk => by have e : w23.heap.size + 2 ≤ k := e; omega)).and P29.ext (fun k e _ => e)⟩
     ·rw [JC.step hlen hi]
      exact OwnO.ext O28 P29.ext (fun k hk _ e => by have hk : w23.heap.size + 2 ≤ k := hk; have e : k = w2.heap.size := e; omega) (fun _ h _ => h.elim)
     ·have hk : k < w2.heap.size := hk; have e : k = w2.heap.size := e; omega
   ·refine ⟨_, .refl _, (by show ((w23.heap.push (Obj.deferred (some []))).push _)[w23.heap.size + 1]? = some _; rw [Array.getElem?_push, if_pos (by simp)]), (by show ((w23.heap.push (Obj.deferred (some []))).push _)[w23.heap.size]? = some _; simp [Array.getElem?_push]), .slice none 0 0, Bb.ext (X0 _) (fun x => x), Bn.ext (X0 _) (fun x => x), C4.ext (X0 _) (fun x => x), OwnO.nil, tBytes.ext0 Rb (X0 _), (X0 _).mono (fun _ _ h => h.elim)⟩
  intro fn tmps W hJ hk hszW
  generalize hw7 : W.putObj (w23.heap.size + 1) _ = w7
  have hP7 : Ext (fun k => k = w23.heap.size + 1) W w7 := by rw [← hw7]; exact Ext.putObj (S := fun k => k = w23.heap.size + 1) W rfl _
  have hJ7 : JC w23 w4.heap.size (w4.heap.size + 1) w2.heap.size (.slice a b.length cap) b 8 w7 := by rw [← hw7]; exact hJ.put (by omega) (by omega) (by omega) _
  have hk7 := dk_ext hk hP7 (by omega)
  have hs7 := hP7.size
  obtain ⟨u, _, _, C4, O4, _, X⟩ := hJ7
  have hX7 : Ext (fun _ => False) w w7 := ((N2.ext.trans N4.ext).trans X23).then X (by rintro k rfl _; omega)
  have B27 : Blk w7 w.heap.size 24 [i64 0, .slice none 0 0] := (N2.blk.ext (N4.ext.trans X23) (fun x => x)).ext X (by omega)
  have R4 : tBytes.rep (fun k => w23.heap.size + 2 ≤ k ∧ k < w7.heap.size) w7 u (innerD b) := by
   have := OwnO.rep (R := fun k => w23.heap.size + 2 ≤ k ∧ k < w7.heap.size) O4 (fun k h hl => ⟨h, hl⟩) (fun _ h _ => h.elim)
   unfold innerD
   exact this
  obtain ⟨a32, c32, hv32, hc32, R32⟩ := Sl.cutE h 0 8 (by omega) (by omega)
  rw [List.drop_zero] at R32
  obtain ⟨n8, hn8⟩ : ∃ n, n = getTo b 8 := ⟨_, rfl⟩
  refine .blk (.code (.seq (.keep [(4, _), (2, _), (0, _)] ⟨rfl, rfl, rfl, trivial⟩ (.region ?_))))
  refine .v rfl rfl (.alloc rfl rfl) ?_
  rintro _ w6a ⟨rfl, N6⟩
  refine .s rfl (.store rfl rfl rfl rfl rfl N6.blk (by simp [Value.cells])) ?_
  intro w6 P6
  have X6 : Ext (fun _ => False) w7 w6 := N6.ext.then P6.ext (by rintro k rfl _; exact Nat.le_refl _)
  have z6 : w6.heap.size = w7.heap.size + 1 := by rw [P6.size, N6.size]
  refine .nil (.code (.seq (.region ?_)))
  refine .p rfl rfl (.makeFunc rfl rfl) (.p rfl rfl (.as rfl) (.nil (.code (.seq (.keep [(7, _), (6, _), (4, _), (2, _), (0, _)] ⟨rfl, rfl, rfl, rfl, rfl, trivial⟩ (.region ?_))))))
  refine .p rfl rfl (.mv rfl) (.p rfl rfl (.cast (.cutHi (s := 1) rfl rfl rfl rfl (by omega)) (show cutV 1 a cap 0 (8 : Int).toNat = .slice a32 8 c32 from hv32)) (.call (first := []) (captured := []) rfl rfl rfl rfl (Get8_fn hn8 (tBytes.ext0 R32 (hX7.trans X6)) (by omega)) ?_))
  rintro _ w33 ⟨rfl, X33⟩
  have z33 := X33.size
  have hgb := getTo_bd b (i := 8) (by omega)
  rw [← hn8] at hgb
  refine .p rfl rfl (.mv rfl) (.p rfl rfl (.extract rfl rfl) (.p rfl rfl (.extract rfl rfl) (.p rfl rfl (.as rfl) (.p rfl rfl (.as rfl) (.nil (.code (.seq (.keep [(8, _), (7, _), (6, _), (4, _), (2, _), (0, _)] ⟨rfl, rfl, rfl, rfl, rfl, rfl, trivial⟩ (.region ?_)))))))))
  refine .p rfl rfl (.mv rfl) (.p rfl rfl (.min2 rfl rfl) (.p rfl rfl (.convI rfl rfl rfl (by omega)) (.p rfl rfl (.build (cs := [i64 (min (n8 : Int) 4611686018427387904), .slice none 0 0]) rfl (fun _ => by kernel_rfl)) (.v rfl rfl (.alloc rfl rfl) ?_))))
  rintro _ w10a ⟨rfl, N10⟩
  refine .s rfl (.storeAll (n := 2) rfl rfl rfl rfl rfl N10.blk rfl) ?_
  intro w10 P10
  have X10 : Ext (fun _ => False) w33 w10 := N10.ext.then P10.ext (by rintro k rfl _; exact Nat.le_refl _)
  have z10 : w10.heap.size = w33.heap.size + 1 := by rw [P10.size, N10.size]
  have B10 := P10.blk
  have hgr : 0 ≤ min (n8 : Int) 4611686018427387904 ∧ min (n8 : Int) 4611686018427387904 ≤ 4611686018427387904 := by omega
  generalize hg9 : min (n8 : Int) 4611686018427387904 = g at *
  have hgr2 : -9223372036854775808 ≤ g ∧ g ≤ 9223372036854775807 := ⟨by omega, by omega⟩
  have hg8 : min (getTo b 8 : Int) 4611686018427387904 = g := by rw [← hn8]; exact hg9
  have hY : Ext (fun _ => False) w7 w10 := (X6.trans X33).trans X10
  have D0 : RD w w.heap.size w2.heap.size w7.heap.size w33.heap.size w23.heap.size g (fun k => w23.heap.size + 2 ≤ k ∧ k < w7.heap.size) (fun _ => False) (fun _ => False) [] (.slice none 0 0) (innerD b, false) w10 := ⟨B27.ext hY (fun x => x), ⟨u, C4.ext hY (fun x => x), tBytes.ext0 R4 hY, P6.blk.ext (X33.trans X10) (fun x => x)⟩, B10, dk_ext hk7 hY (fun x => x), OwnO.nil, hX7.trans hY, fun k hk => by have hk : w23.heap.size + 2 ≤ k ∧ k < w7.heap.size := hk; exact ⟨by omega, by omega, fun h => h, fun h => h⟩, fun _ h => h.elim, fun _ h => h.elim⟩
  have rd : ∀ {R B Q R' : Nat → Prop} {acc : List File} {vF : Value} {rs rs' : page.RS} {W W' : World}, RD w w.heap.size w2.heap.size w7.heap.size w33.heap.size w23.heap.size g R B Q acc vF rs W → Ext (fun k => k = w2.heap.size ∨ k = w7.heap.size) W W' → RT W' w2.heap.size w7.heap.size R' rs' → (∀ k, R' k → ¬ (k = w.heap.size ∨ k = w2.heap.size ∨ k = w7.heap.size ∨ k = w33.heap.size ∨ k = w23.heap.size) ∧ k < W'.heap.size ∧ ¬ B k ∧ ¬ Q k) → RD w w.heap.size w2.heap.size w7.heap.size w33.heap.size w23.heap.size g R' B Q acc vF rs' W' := fun h hx hr hR => h.read (by omega) (by omega) (by omega) (by omega) (by omega) (by omega) (by omega) (by omega) hx hr hR
  have st0 := St.begin (innerD b)
  have hil := innerD_length b
  refine .nil (.code (.seq (.seq (.keep [(10, _), (7, _), (6, _), (4, _), (2, _), (0, _)] ⟨rfl, rfl, rfl, rfl, rfl, rfl, trivial⟩ (.region ?_)))))
  refine .p rfl rfl (.mv rfl) (.call (first := []) (captured := [.pointer (some ⟨w2.heap.size, 0, none⟩), .pointer (some ⟨w7.heap.size, 0, none⟩)]) rfl rfl rfl rfl (FGet_fn (m := 32) D0.rt (by omega) (fun h => (D0.sR _ h).1 (.inr (.inl rfl))) (fun h => (D0.sR _ h).1 (.inr (.inr (.inl rfl)))) (by decide)) ?_)
  rintro _ w41 ⟨rfl, R41, X41⟩
  have z41 := X41.size
  have D1 := rd D0 X41 R41 (D0.keepR X41)
  have st1 := St.num st0
  obtain ⟨hb41, hl41⟩ := page.numP_le 32 (innerD b, false)
  generalize page.numP 32 (innerD b, false) = q41 at *
  obtain ⟨n, t41⟩ := q41
  simp only at hb41 hl41 st1 D1 R41
  refine .p rfl rfl (.mv rfl) (.nil (.code (.block (.keep [(42, _), (41, _), (10, _), (7, _), (6, _), (4, _), (2, _), (0, _)] ⟨rfl, rfl, rfl, rfl, rfl, rfl, rfl, rfl, trivial⟩ ?_))))
  refine .loop (S := Nat × List File × page.RS × Value × (Nat → Prop) × (Nat → Prop) × (Nat → Prop) × World) (fun s => [(0, .slice a b.length cap), (2, .pointer (some ⟨w.heap.size, 0, none⟩)), (4, .pointer (some ⟨w2.heap.size, 0, none⟩)), (6, .pointer (some ⟨w7.heap.size, 0, none⟩)), (7, .func (.func 56) #[] ([.pointer (some ⟨w2.heap.size, 0, none⟩), .pointer (some ⟨w7.heap.size, 0, none⟩)] : List Value).toArray), (10, .pointer (some ⟨w33.heap.size, 0, none⟩)), (41, i64 (n : Nat)), (42, i64 s.1)]) (fun s => s.2.2.2.2.2.2.2) (fun s => s.1 ≤ n ∧ RD w w.heap.size w2.heap.size w7.heap.size w33.heap.size w23.heap.size g s.2.2.2.2.1 s.2.2.2.2.2.1 s.2.2.2.2.2.2.1 s.2.1 s.2.2.2.1 s.2.2.1 s.2.2.2.2.2.2.2 ∧ St (parseS 4096 (innerD b)) s.2.2.1 (fun q => (filesS 4096 (n - s.1) s.2.1 q).map (·.1)) ∧ s.2.2.1.1.length ≤ 1024 ∧ s.2.1.length = s.1 ∧ (allP s.2.1).length ≤ 4096 * s.1 ∧ w10.heap.size ≤ s.2.2.2.2.2.2.2.heap.size) (fun s => n - s.1) (0, [], _, _, _, _, _, w41) ⟨rfl, rfl, rfl, rfl, rfl, rfl, rfl, rfl, trivial⟩ rfl ⟨Nat.zero_le _, D1, st1, by show t41.1.length ≤ 1024; omega, rfl, Nat.zero_le _, z41⟩ ?_
  rintro ⟨i, acc, rs, vF, R, B, Q, wi⟩ J ⟨hi', hRD, hst, hlr, hacc, hall, zwi⟩ again
  simp only at hi' hRD hst hlr hacc hall zwi
  change G _ [(0, .slice a b.length cap), (2, .pointer (some ⟨w.heap.size, 0, none⟩)), (4, .pointer (some ⟨w2.heap.size, 0, none⟩)), (6, .pointer (some ⟨w7.heap.size, 0, none⟩)), (7, .func (.func 56) #[] ([.pointer (some ⟨w2.heap.size, 0, none⟩), .pointer (some ⟨w7.heap.size, 0, none⟩)] : List Value).toArray), (10, .pointer (some ⟨w33.heap.size, 0, none⟩)), (41, i64 (n : Nat)), (42, i64 i)] _ _ wi
  refine .seq (.region ?_)
  refine .p rfl rfl (.lt rfl rfl) (.nil (.code (.seq ?_)))
  refine .condD rfl (fun c43 => ?_) (fun c43 => ?_)
  ·have hi : i < n := by omega
   obtain ⟨v4, B4, R4i, Q4⟩ := hRD.rt
   have l4 := B4.lt
   have l6 := Q4.lt
   have l2 := hRD.b2.lt
   have l10 := hRD.b10.lt
   have lD := dk_lt hRD.dk
   obtain ⟨a4i, k4i, rfl, hk4i⟩ := Sl.val R4i
   have st2 : St (parseS 4096 (innerD b)) rs (fun s => (cutS s).bind fun t => (numS 524288 t.2).bind fun z => (numS 4096 z.2).bind fun k => (piecesS 4096 k.1 [] k.2).bind fun p => (filesS 4096 (n - (i + 1)) (acc ++ [⟨t.1, (z.1 : Int), p.1⟩]) p.2).map (·.1)) := hst.to (by rw [show n - i = (n - (i + 1)) + 1 by omega, filesS_map])
   refine .skip (.code (.seq (.block (.seq (.keep [(0, _), (2, _), (4, _), (6, _), (7, _), (10, _), (41, _), (42, _)] ⟨rfl, rfl, rfl, rfl, rfl, rfl, rfl, rfl, trivial⟩ (.region ?_))))))
   refine .p rfl rfl (.load rfl rfl rfl (B4.cell 0)) (.call (first := []) (captured := []) rfl rfl rfl rfl (Cut_fn (allOf R4i)) ?_)
   rintro _ w46 ⟨v46, rfl, G46, X46⟩
   have z46 := X46.size
   have D2 := hRD.step0 X46
   obtain ⟨v4b, B4b, R4b, Q4b⟩ := D2.rt
   obtain ⟨a46, k46, rfl, hk46⟩ := OwnO.val G46
   have hcl := page.cutF_le rs.1
   refine .p rfl rfl (.mv rfl) (.p rfl rfl (.extract rfl rfl) (.p rfl rfl (.extract rfl rfl) (.p rfl rfl (.extract rfl rfl) (.p rfl rfl (.as rfl) (.p rfl rfl (.as rfl) (.p rfl rfl (.as rfl) (.nil (.code (.seq (.seq (.keep [(13, _), (12, _), (11, _), (0, _), (2, _), (4, _), (6, _), (7, _), (10, _), (41, _), (42, _)] ⟨rfl, rfl, rfl, rfl, rfl, rfl, rfl, rfl, rfl, rfl, rfl, trivial⟩ (.region ?_))))))))))))
   refine .p rfl rfl (.mv rfl) (.p rfl rfl (.ne rfl rfl) (.p rfl rfl (.mv rfl) ?_))
   refine .caseD 52 rfl (fun c52 => ?_) (fun c52 => ?_)
   ·refine .skip rfl rfl (.p rfl rfl (.pickT rfl rfl) (.nil (.code (.keep [(54, _), (12, _), (11, _), (0, _), (2, _), (4, _), (6, _), (7, _), (10, _), (41, _), (42, _)] ⟨rfl, rfl, rfl, rfl, rfl, rfl, rfl, rfl, rfl, rfl, rfl, trivial⟩ (.condT rfl (.seq (.keep [(2, _)] ⟨rfl, trivial⟩ (.region ?_))))))))
    refine .p rfl rfl (.build (cs := [i64 0, .slice none 0 0]) rfl (fun _ => by kernel_rfl)) (.s rfl (.storeAll (n := 2) rfl rfl rfl rfl rfl D2.b2 rfl) ?_)
    intro w15 P15
    refine .p rfl rfl (.as rfl) (.nil (.code ?_))
    refine .retM (D := w23.heap.size) (dk_ext D2.dk P15.ext (by omega)) (.cell (n := 2) rfl rfl rfl rfl rfl ((P15.blk.ext (Ext.putObj (S := fun k => k = w23.heap.size) _ rfl _) (by omega)).cells) (.tmp rfl .nil)) ?_
    rw [readD_none hlen (St.cutN st2 c52)]
    exact ⟨_, fun _ => False, fun _ => False, rfl, OwnO.nil, fun _ h => h.elim, fun _ h => h.elim, (D2.ext.then P15.ext (by rintro k rfl _; omega)).then (Ext.putObj (S := fun k => k = w23.heap.size) _ rfl _) (by rintro k rfl _; omega)⟩
   ·have hcc : (cutF rs.1).2.2 = 0 := Decidable.not_not.1 c52
    refine .p rfl rfl (.load rfl rfl rfl (Q4b.cell 0)) (.p rfl rfl (.pickF rfl rfl) (.nil (.code (.keep [(54, _), (12, _), (11, _), (0, _), (2, _), (4, _), (6, _), (7, _), (10, _), (41, _), (42, _)] ⟨rfl, rfl, rfl, rfl, rfl, rfl, rfl, rfl, rfl, rfl, rfl, trivial⟩ ?_))))
    refine .cond rfl (fun c54 => ?_) (fun c54 => ?_)
    ·refine .seq (.keep [(2, _)] ⟨rfl, trivial⟩ (.region ?_))
     refine .p rfl rfl (.build (cs := [i64 0, .slice none 0 0]) rfl (fun _ => by kernel_rfl)) (.s rfl (.storeAll (n := 2) rfl rfl rfl rfl rfl D2.b2 rfl) ?_)
     intro w15 P15
     refine .p rfl rfl (.as rfl) (.nil (.code ?_))
     refine .retM (D := w23.heap.size) (dk_ext D2.dk P15.ext (by omega)) (.cell (n := 2) rfl rfl rfl rfl rfl ((P15.blk.ext (Ext.putObj (S := fun k => k = w23.heap.size) _ rfl _) (by omega)).cells) (.tmp rfl .nil)) ?_
     rw [readD_none hlen (St.bad hst c54)]
     exact ⟨_, fun _ => False, fun _ => False, rfl, OwnO.nil, fun _ h => h.elim, fun _ h => h.elim, (D2.ext.then P15.ext (by rintro k rfl _; omega)).then (Ext.putObj (S := fun k => k = w23.heap.size) _ rfl _) (by rintro k rfl _; omega)⟩
    ·refine .skip (.code (.seq (.keep [(12, _), (11, _), (0, _), (2, _), (4, _), (6, _), (7, _), (10, _), (41, _), (42, _)] ⟨rfl, rfl, rfl, rfl, rfl, rfl, rfl, rfl, rfl, rfl, trivial⟩ (.region ?_))))
     refine .p rfl rfl (.mv rfl) (.s rfl (.store rfl rfl rfl rfl rfl B4b (by simp)) ?_)
     intro w16 P16
     have z16 : w16.heap.size = w46.heap.size := P16.size
     have R16 : RT w16 w2.heap.size w7.heap.size (fun k => wi.heap.size ≤ k ∧ k < w46.heap.size) ((cutF rs.1).2.1, rs.2) := ⟨_, P16.blk, tBytes.ext (Gr.rep' G46) P16.ext (fun k hk _ e => by have hk : wi.heap.size ≤ k ∧ _ := hk; have e : k = w2.heap.size := e; omega), Q4b.ext P16.ext (by omega)⟩
     have D3 := rd D2 (P16.ext.mono (fun k _ h => .inl h)) R16 (fun k hk => by have hk : wi.heap.size ≤ k ∧ k < w46.heap.size := hk; exact ⟨by omega, by omega, fun hb => by have := (hRD.sB k hb).2.1; omega, fun hb => by have := (hRD.sQ k hb).2.1; omega⟩)
     have st3 := St.cut st2 hcc
     refine .nil (.code (.seq (.keep [(11, _), (0, _), (2, _), (4, _), (6, _), (7, _), (10, _), (41, _), (42, _)] ⟨rfl, rfl, rfl, rfl, rfl, rfl, rfl, rfl, rfl, trivial⟩ (.region ?_))))
     refine .p rfl rfl (.mv rfl) (.p rfl rfl (.mv rfl) (.call (first := []) (captured := [.pointer (some ⟨w2.heap.size, 0, none⟩), .pointer (some ⟨w7.heap.size, 0, none⟩)]) rfl rfl rfl rfl (FGet_fn (m := 524288) D3.rt (by omega) (fun h => (D3.sR _ h).1 (.inr (.inl rfl))) (fun h => (D3.sR _ h).1 (.inr (.inr (.inl rfl)))) (by decide)) ?_))
     rintro _ w59 ⟨rfl, R59, X59⟩
     have z59 := X59.size
     have D4 := rd D3 X59 R59 (D3.keepR X59)
     have st4 := St.num st3
     obtain ⟨hb59, hl59⟩ := page.numP_le 524288 ((cutF rs.1).2.1, rs.2)
     generalize page.numP 524288 ((cutF rs.1).2.1, rs.2) = q59 at *
     obtain ⟨zz, t59⟩ := q59
     simp only at hb59 hl59 st4 D4 R59
     refine .p rfl rfl (.build (cs := [str (cutF rs.1).1, i64 (zz : Nat), .slice none 0 0]) rfl (fun _ => by kernel_rfl)) (.v rfl rfl (.alloc rfl rfl) ?_)
     rintro _ w14a ⟨rfl, N14⟩
     refine .s rfl (.storeAll (n := 3) rfl rfl rfl rfl rfl N14.blk rfl) ?_
     intro w14 P14
     have X14 : Ext (fun _ => False) w59 w14 := N14.ext.then P14.ext (by rintro k rfl _; exact Nat.le_refl _)
     have z14 : w14.heap.size = w59.heap.size + 1 := by rw [P14.size, N14.size]
     have B14 := P14.blk
     have D5 := D4.step0 X14
     refine .nil (.code (.seq (.seq (.keep [(14, _), (0, _), (2, _), (4, _), (6, _), (7, _), (10, _), (41, _), (42, _)] ⟨rfl, rfl, rfl, rfl, rfl, rfl, rfl, rfl, rfl, trivial⟩ (.region ?_)))))
     refine .p rfl rfl (.mv rfl) (.call (first := []) (captured := [.pointer (some ⟨w2.heap.size, 0, none⟩), .pointer (some ⟨w7.heap.size, 0, none⟩)]) rfl rfl rfl rfl (FGet_fn (m := 4096) D5.rt (by omega) (fun h => (D5.sR _ h).1 (.inr (.inl rfl))) (fun h => (D5.sR _ h).1 (.inr (.inr (.inl rfl)))) (by decide)) ?_)
     rintro _ w62 ⟨rfl, R62, X62⟩
     have z62 := X62.size
     have D6 := rd D5 X62 R62 (D5.keepR X62)
     have st6 := St.num st4
     obtain ⟨hb62, hl62⟩ := page.numP_le 4096 t59
     generalize page.numP 4096 t59 = q62 at *
     obtain ⟨kk, t62⟩ := q62
     simp only at hb62 hl62 st6 D6 R62
     have B14 := B14.ext X62 (by omega)
     refine .p rfl rfl (.mv rfl) (.nil (.code (.block (.keep [(63, _), (62, _), (14, _), (0, _), (2, _), (4, _), (6, _), (7, _), (10, _), (41, _), (42, _)] ⟨rfl, rfl, rfl, rfl, rfl, rfl, rfl, rfl, rfl, rfl, rfl, trivial⟩ ?_))))
     refine .loop (S := Nat × List Piece × page.RS × Value × (Nat → Prop) × World) (fun s => [(0, .slice a b.length cap), (2, .pointer (some ⟨w.heap.size, 0, none⟩)), (4, .pointer (some ⟨w2.heap.size, 0, none⟩)), (6, .pointer (some ⟨w7.heap.size, 0, none⟩)), (7, .func (.func 56) #[] ([.pointer (some ⟨w2.heap.size, 0, none⟩), .pointer (some ⟨w7.heap.size, 0, none⟩)] : List Value).toArray), (10, .pointer (some ⟨w33.heap.size, 0, none⟩)), (41, i64 (n : Nat)), (42, i64 i), (14, .pointer (some ⟨w59.heap.size, 0, none⟩)), (62, i64 (kk : Nat)), (63, i64 s.1)]) (fun s => s.2.2.2.2.2) (fun s => s.1 ≤ kk ∧ RD w w.heap.size w2.heap.size w7.heap.size w33.heap.size w23.heap.size g (fun k => wi.heap.size ≤ k ∧ k < w46.heap.size) B Q acc vF s.2.2.1 s.2.2.2.2.2 ∧ Blk s.2.2.2.2.2 w59.heap.size 28 [str (cutF rs.1).1, i64 (zz : Nat), s.2.2.2.1] ∧ OwnO tPiece (fun _ => False) 40 s.2.2.2.2.2 s.2.2.2.1 s.2.1 s.2.2.2.2.1 ∧ (∀ k, s.2.2.2.2.1 k → w59.heap.size < k ∧ k < s.2.2.2.2.2.heap.size) ∧ St (parseS 4096 (innerD b)) s.2.2.1 (fun q => (piecesS 4096 (kk - s.1) s.2.1 q).bind fun p => (filesS 4096 (n - (i + 1)) (acc ++ [⟨(cutF rs.1).1, (zz : Int), p.1⟩]) p.2).map (·.1)) ∧ s.2.1.length = s.1 ∧ s.2.2.1.1.length ≤ 1024 ∧ w62.heap.size ≤ s.2.2.2.2.2.heap.size) (fun s => kk - s.1) (0, [], _, .slice none 0 0, fun _ => False, w62) ⟨rfl, rfl, rfl, rfl, rfl, rfl, rfl, rfl, rfl, rfl, rfl, trivial⟩ rfl ⟨Nat.zero_le _, D6, B14, OwnO.nil, fun _ h => h.elim, st6, rfl, by show t62.1.length ≤ 1024; omega, Nat.le_refl _⟩ ?_
     rintro ⟨j, accp, rj, vP, Bp, wj⟩ J2 ⟨hj', hRDj, B14j, hOP, hBp, stj, haccp, hlj, zwj⟩ againj
     simp only at hj' hRDj B14j hOP hBp stj haccp hlj zwj
     obtain ⟨v4j, B4j, R4j, Qj⟩ := hRDj.rt
     change G _ [(0, .slice a b.length cap), (2, .pointer (some ⟨w.heap.size, 0, none⟩)), (4, .pointer (some ⟨w2.heap.size, 0, none⟩)), (6, .pointer (some ⟨w7.heap.size, 0, none⟩)), (7, .func (.func 56) #[] ([.pointer (some ⟨w2.heap.size, 0, none⟩), .pointer (some ⟨w7.heap.size, 0, none⟩)] : List Value).toArray), (10, .pointer (some ⟨w33.heap.size, 0, none⟩)), (41, i64 (n : Nat)), (42, i64 i), (14, .pointer (some ⟨w59.heap.size, 0, none⟩)), (62, i64 (kk : Nat)), (63, i64 j)] _ _ wj
     refine .seq (.region ?_)
     refine .p rfl rfl (.lt rfl rfl) (.nil (.code (.seq ?_)))
     refine .condD rfl (fun c64 => ?_) (fun c64 => ?_)
     ·have hj : j < kk := by omega
      have stj1 := stj.to (g := fun s => (numS 4096 s).bind fun f => (numS 4096 f.2).bind fun c => (piecesS 4096 (kk - (j + 1)) (accp ++ [⟨(f.1 : Int), (c.1 : Int)⟩]) c.2).bind fun p => (filesS 4096 (n - (i + 1)) (acc ++ [⟨(cutF rs.1).1, (zz : Int), p.1⟩]) p.2).map (·.1)) (by rw [show kk - j = (kk - (j + 1)) + 1 by omega, piecesS_bind])
      refine .skip (.code (.seq (.block (.seq (.seq (.keep [(0, _), (2, _), (4, _), (6, _), (7, _), (10, _), (41, _), (42, _), (14, _), (62, _), (63, _)] ⟨rfl, rfl, rfl, rfl, rfl, rfl, rfl, rfl, rfl, rfl, rfl, trivial⟩ (.region ?_)))))))
      refine .p rfl rfl (.load rfl rfl rfl (Qj.cell 0)) (.nil (.code ?_))
      refine .cond rfl (fun c65 => ?_) (fun c65 => ?_)
      ·refine .seq (.keep [(2, _)] ⟨rfl, trivial⟩ (.region ?_))
       refine .p rfl rfl (.build (cs := [i64 0, .slice none 0 0]) rfl (fun _ => by kernel_rfl)) (.s rfl (.storeAll (n := 2) rfl rfl rfl rfl rfl hRDj.b2 rfl) ?_)
       intro w21 P21
       refine .p rfl rfl (.as rfl) (.nil (.code ?_))
       refine .retM (D := w23.heap.size) (dk_ext hRDj.dk P21.ext (by omega)) (.cell (n := 2) rfl rfl rfl rfl rfl ((P21.blk.ext (Ext.putObj (S := fun k => k = w23.heap.size) _ rfl _) (by omega)).cells) (.tmp rfl .nil)) ?_
       rw [readD_none hlen (St.bad stj c65)]
       exact ⟨_, fun _ => False, fun _ => False, rfl, OwnO.nil, fun _ h => h.elim, fun _ h => h.elim, (hRDj.ext.then P21.ext (by rintro k rfl _; omega)).then (Ext.putObj (S := fun k => k = w23.heap.size) _ rfl _) (by rintro k rfl _; omega)⟩
      ·refine .skip (.code (.seq (.keep [(0, _), (2, _), (4, _), (6, _), (7, _), (10, _), (41, _), (42, _), (14, _), (62, _), (63, _)] ⟨rfl, rfl, rfl, rfl, rfl, rfl, rfl, rfl, rfl, rfl, rfl, trivial⟩ (.region ?_))))
       refine .p rfl rfl (.mv rfl) (.call (first := []) (captured := [.pointer (some ⟨w2.heap.size, 0, none⟩), .pointer (some ⟨w7.heap.size, 0, none⟩)]) rfl rfl rfl rfl (FGet_fn (m := 4096) hRDj.rt (by omega) (fun h => (hRDj.sR _ h).1 (.inr (.inl rfl))) (fun h => (hRDj.sR _ h).1 (.inr (.inr (.inl rfl)))) (by decide)) ?_)
       rintro _ w68 ⟨rfl, R68, X68⟩
       have z68 := X68.size
       have Dj1 := rd hRDj X68 R68 (hRDj.keepR X68)
       have stj2 := St.num stj1
       obtain ⟨hb68, hl68⟩ := page.numP_le 4096 rj
       generalize page.numP 4096 rj = q68 at *
       obtain ⟨fr, t68⟩ := q68
       simp only at hb68 hl68 stj2 Dj1 R68
       refine .p rfl rfl (.build (cs := [i64 (fr : Nat), i64 0]) rfl (fun _ => by kernel_rfl)) (.v rfl rfl (.alloc rfl rfl) ?_)
       rintro _ w15a ⟨rfl, N15⟩
       refine .s rfl (.storeAll (n := 2) rfl rfl rfl rfl rfl N15.blk rfl) ?_
       intro w15 P15
       have X15 : Ext (fun _ => False) w68 w15 := N15.ext.then P15.ext (by rintro k rfl _; exact Nat.le_refl _)
       have z15 : w15.heap.size = w68.heap.size + 1 := by rw [P15.size, N15.size]
       have B15 := P15.blk
       have Dj2 := Dj1.step0 X15
       refine .nil (.code (.seq (.keep [(15, _), (0, _), (2, _), (4, _), (6, _), (7, _), (10, _), (41, _), (42, _), (14, _), (62, _), (63, _)] ⟨rfl, rfl, rfl, rfl, rfl, rfl, rfl, rfl, rfl, rfl, rfl, rfl, trivial⟩ (.region ?_))))
       refine .p rfl rfl (.mv rfl) (.call (first := []) (captured := [.pointer (some ⟨w2.heap.size, 0, none⟩), .pointer (some ⟨w7.heap.size, 0, none⟩)]) rfl rfl rfl rfl (FGet_fn (m := 4096) Dj2.rt (by omega) (fun h => (Dj2.sR _ h).1 (.inr (.inl rfl))) (fun h => (Dj2.sR _ h).1 (.inr (.inr (.inl rfl)))) (by decide)) ?_)
       rintro _ w71 ⟨rfl, R71, X71⟩
       have z71 := X71.size
       have Dj3 := rd Dj2 X71 R71 (Dj2.keepR X71)
       have stj3 := St.num stj2
       obtain ⟨hb71, hl71⟩ := page.numP_le 4096 t68
       generalize page.numP 4096 t68 = q71 at *
       obtain ⟨ct, t71⟩ := q71
       simp only at hb71 hl71 stj3 Dj3 R71
       refine .p rfl rfl (.fieldAddr rfl rfl rfl rfl) (.s rfl (.store rfl rfl rfl rfl rfl (B15.ext X71 (by omega)) (by simp)) ?_)
       intro w24 P24
       have z24 : w24.heap.size = w71.heap.size := P24.size
       have B24 : Blk w24 w68.heap.size 40 [i64 (fr : Nat), i64 (ct : Nat)] := P24.blk
       have Dj4 := Dj3.step P24.ext (fun k e _ => by have e : k = w68.heap.size := e; exact ⟨by omega, fun hk => by have hk : wi.heap.size ≤ k ∧ k < w46.heap.size := hk; omega, fun hk => by have := (hRD.sB k hk).2.1; omega, fun hk => by have := (hRD.sQ k hk).2.1; omega, by omega⟩)
       have B14k := (((B14j.ext X68 (by omega)).ext X15 (fun x => x)).ext X71 (by omega)).ext P24.ext (by omega)
       have OPk := OwnO.ext (OwnO.ext (OwnO.ext0 (OwnO.ext hOP X68 (fun k hk _ e => by have := hBp k hk; omega) (fun _ h _ => h.elim)) X15) X71 (fun k hk _ e => by have := hBp k hk; omega) (fun _ h _ => h.elim)) P24.ext (fun k hk _ e => by have := hBp k hk; have e : k = w68.heap.size := e; omega) (fun _ h _ => h.elim)
       refine .nil (.code (.keep [(15, _), (0, _), (2, _), (4, _), (6, _), (7, _), (10, _), (41, _), (42, _), (14, _), (62, _), (63, _)] ⟨rfl, rfl, rfl, rfl, rfl, rfl, rfl, rfl, rfl, rfl, rfl, rfl, trivial⟩ (.region ?_)))
       refine .p rfl rfl (.fieldAddr rfl rfl rfl rfl) (.p rfl rfl (.load rfl rfl rfl (B14k.cell 2)) (.p rfl rfl (.loadA (n := 2) rfl rfl rfl rfl rfl B24.cells) (.v rfl rfl (.lits rfl rfl (fun _ => by kernel_rfl)) ?_)))
       rintro _ w76 ⟨rfl, N76⟩
       have z76 : w76.heap.size = w24.heap.size + 1 := N76.size
       refine .v rfl rfl (.appendLo (t := tPiece) (Q := fun _ => False) (xs := accp) (ys := [⟨(fr : Nat), (ct : Nat)⟩]) (B := fun k => Bp k ∨ w76.heap.size ≤ k) (eb := 16) rfl (OwnO.mono (OwnO.ext0 OPk N76.ext) (fun _ h _ => h) (fun k h _ => .inl h)) (fun k hk => .inr hk) rfl (.inr (New.holds (t := tPiece) (us := [_]) (xs := [⟨(fr : Nat), (ct : Nat)⟩]) N76 (.cons (tPiece.mk (p := ⟨(fr : Nat), (ct : Nat)⟩) ⟨by show _ ≤ ((fr : Nat) : Int); omega, by show ((fr : Nat) : Int) ≤ _; omega⟩ ⟨by show _ ≤ ((ct : Nat) : Int); omega, by show ((ct : Nat) : Int) ≤ _; omega⟩) .nil) rfl)) rfl rfl rfl rfl rfl rfl rfl (by simp; omega) (by simp [Lim]; omega) (fun _ h _ => h.elim)) ?_
       rintro r77 w77 ⟨O77, X77⟩
       have z77 := X77.size
       obtain ⟨a77, k77, rfl, hk77⟩ := OwnO.val O77
       refine .p rfl rfl (.fieldAddr rfl rfl rfl rfl) (.s rfl (.store rfl rfl rfl rfl rfl ((B14k.ext N76.ext (fun x => x)).ext X77 (fun h => by rcases h with h | h; (have := hBp _ h; omega); omega)) (by simp)) ?_)
       intro w25 P25
       have z25 : w25.heap.size = w77.heap.size := P25.size
       refine .nil (.blk (.code (.keep [(0, _), (2, _), (4, _), (6, _), (7, _), (10, _), (41, _), (42, _), (14, _), (62, _), (63, _)] ⟨rfl, rfl, rfl, rfl, rfl, rfl, rfl, rfl, rfl, rfl, rfl, trivial⟩ (.region ?_))))
       refine .p rfl rfl (.add rfl rfl (by omega)) (.p rfl rfl (.mv rfl) (.nil ?_))
       refine (againj (j + 1, accp ++ [⟨(fr : Nat), (ct : Nat)⟩], t71, _, (fun k => (Bp k ∨ w76.heap.size ≤ k) ∧ k < w77.heap.size), w25) ⟨by show j + 1 ≤ kk; omega, ?_, P25.blk, OwnO.mono (OwnO.ext O77 P25.ext (fun k hk _ e => by have e : k = w59.heap.size := e; rcases hk with hk | hk; (have := hBp k hk; omega); omega) (fun _ h _ => h.elim)) (fun _ h _ => h) (fun k h hl => ⟨h, by have hl : k < w25.heap.size := hl; omega⟩), fun k hk => by show w59.heap.size < k ∧ k < w25.heap.size; rcases hk.1 with h | h; (have := hBp k h; exact ⟨by omega, by omega⟩); exact ⟨by omega, by omega⟩, stj3, by simp [haccp], by show t71.1.length ≤ 1024; omega, by show w62.heap.size ≤ w25.heap.size; omega⟩ (by show kk - (j + 1) < kk - j; omega)).of ⟨rfl, rfl, rfl, rfl, rfl, rfl, rfl, rfl, rfl, rfl, rfl, trivial⟩
       have far : ∀ k, w59.heap.size ≤ k → ¬ (k = w.heap.size ∨ k = w2.heap.size ∨ k = w7.heap.size ∨ k = w33.heap.size ∨ k = w23.heap.size) ∧ ¬ (wi.heap.size ≤ k ∧ k < w46.heap.size) ∧ ¬ B k ∧ ¬ Q k ∧ w.heap.size ≤ k := fun k hk => ⟨by omega, by omega, fun h => by have := (hRD.sB k h).2.1; omega, fun h => by have := (hRD.sQ k h).2.1; omega, by omega⟩
       exact ((Dj4.step0 N76.ext).step X77 (fun k h _ => far k (by rcases h with h | h; (have := hBp k h; omega); omega))).step P25.ext (fun k e _ => far k (by have e : k = w59.heap.size := e; omega))
     ·obtain rfl : j = kk := by omega
      rw [Nat.sub_self] at stj
      have stj : St (parseS 4096 (innerD b)) rj (fun s => (filesS 4096 (n - (i + 1)) (acc ++ [⟨(cutF rs.1).1, (zz : Int), accp⟩]) s).map (·.1)) := stj.to (by rw [piecesS_0]; rfl)
      refine .exit rfl (.code (.keep [(0, _), (2, _), (4, _), (6, _), (7, _), (10, _), (41, _), (42, _), (14, _)] ⟨rfl, rfl, rfl, rfl, rfl, rfl, rfl, rfl, rfl, trivial⟩ (.region ?_)))
      refine .p rfl rfl (.fieldAddr rfl rfl rfl rfl) (.p rfl rfl (.load rfl rfl rfl (hRDj.b10.cell 1)) (.p rfl rfl (.loadA (n := 3) rfl rfl rfl rfl rfl B14j.cells) (.v rfl rfl (.lits rfl rfl (fun _ => by kernel_rfl)) ?_)))
      rintro _ w83 ⟨rfl, N83⟩
      have z83 : w83.heap.size = wj.heap.size + 1 := N83.size
      obtain ⟨aP, kP, rfl, hkP⟩ := OwnO.val hOP
      refine .v rfl rfl (.appendLo (t := tFileO) (Q := fun k => Q k ∨ Bp k) (xs := acc) (ys := [⟨(cutF rs.1).1, (zz : Nat), accp⟩]) (B := fun k => B k ∨ w83.heap.size ≤ k) (eb := 48) rfl (OwnO.mono (OwnO.ext0 hRDj.own N83.ext) (fun k h _ => .inl h) (fun k h _ => .inl h)) (fun k hk => .inr hk) rfl (.inr (New.holds (t := tFileO) (us := [_]) (xs := [⟨(cutF rs.1).1, (zz : Nat), accp⟩]) N83 (.cons (tFileO.mk (x := ⟨(cutF rs.1).1, (zz : Nat), accp⟩) (OwnO.mono hOP (fun _ h _ => h) (fun k h _ => .inr h)) (by show List.length _ < Lim; simp only [Lim]; omega) ⟨by show _ ≤ ((zz : Nat) : Int); omega, by show ((zz : Nat) : Int) ≤ _; omega⟩) .nil) rfl)) rfl rfl rfl rfl rfl rfl rfl (by simp; omega) (by simp [Lim]; omega) (fun k hk hl hb => by rcases hk with hk | hk; (have := hRDj.sQ k hk; rcases hb with hb | hb; (exact (hRDj.sB k hb).2.2.1 hk); omega); (have := hBp k hk; rcases hb with hb | hb; (have := (hRD.sB k hb).2.1; omega); omega))) ?_
      rintro r84 w84 ⟨O84, X84⟩
      have z84 := X84.size
      obtain ⟨a84, k84, rfl, hk84⟩ := OwnO.val O84
      have b10x := (hRDj.b10.ext N83.ext (fun x => x)).ext X84 (fun h => by rcases h with h | h; (exact (hRDj.sB _ h).1 (.inr (.inr (.inr (.inl rfl))))); omega)
      refine .p rfl rfl (.fieldAddr rfl rfl rfl rfl) (.s rfl (.store rfl rfl rfl rfl rfl b10x (by simp)) ?_)
      intro w26 P26
      have z26 : w26.heap.size = w84.heap.size := P26.size
      refine .nil (.blk (.code (.keep [(0, _), (2, _), (4, _), (6, _), (7, _), (10, _), (41, _), (42, _)] ⟨rfl, rfl, rfl, rfl, rfl, rfl, rfl, rfl, trivial⟩ (.region ?_))))
      refine .p rfl rfl (.add rfl rfl (by omega)) (.p rfl rfl (.mv rfl) (.nil ?_))
      refine (again (i + 1, acc ++ [⟨(cutF rs.1).1, (zz : Nat), accp⟩], rj, .slice a84 (acc ++ [(⟨(cutF rs.1).1, (zz : Nat), accp⟩ : File)]).length k84, (fun k => wi.heap.size ≤ k ∧ k < w46.heap.size), (fun k => (B k ∨ w83.heap.size ≤ k) ∧ k < w84.heap.size), (fun k => Q k ∨ Bp k), w26) ⟨by show i + 1 ≤ n; omega, ?_, stj, hlj, by simp [hacc], ?_, by show w10.heap.size ≤ w26.heap.size; omega⟩ (by show n - (i + 1) < n - i; omega)).of ⟨rfl, rfl, rfl, rfl, rfl, rfl, rfl, rfl, trivial⟩
      ·have hBX : ∀ k, k = w.heap.size ∨ k = w2.heap.size ∨ k = w7.heap.size ∨ k = w33.heap.size ∨ k = w23.heap.size → ¬ (B k ∨ w83.heap.size ≤ k) := fun k hk h => by rcases h with h | h; exact (hRDj.sB k h).1 hk; omega
       show RD w w.heap.size w2.heap.size w7.heap.size w33.heap.size w23.heap.size g (fun k => wi.heap.size ≤ k ∧ k < w46.heap.size) (fun k => (B k ∨ w83.heap.size ≤ k) ∧ k < w84.heap.size) (fun k => Q k ∨ Bp k) (acc ++ [(⟨(cutF rs.1).1, (zz : Nat), accp⟩ : File)]) (.slice a84 (acc ++ [(⟨(cutF rs.1).1, (zz : Nat), accp⟩ : File)]).length k84) rj w26
       exact ⟨((hRDj.b2.ext N83.ext (fun x => x)).ext X84 (hBX _ (.inl rfl))).ext P26.ext (by omega), RT.ext (RT.ext (hRDj.rt.ext0 N83.ext) X84 (hBX _ (.inr (.inl rfl))) (hBX _ (.inr (.inr (.inl rfl)))) (fun k hk _ h => by have := hRDj.sR k hk; rcases h with h | h; exact this.2.2.1 h; omega)) P26.ext (by omega) (by omega) (fun k hk _ e => (hRDj.sR k hk).1 (.inr (.inr (.inr (.inl e))))), P26.blk, dk_ext (dk_ext (dk_ext hRDj.dk N83.ext (fun x => x)) X84 (hBX _ (.inr (.inr (.inr (.inr rfl)))))) P26.ext (by omega),
        OwnO.mono (OwnO.ext O84 P26.ext (fun k hk _ e => hBX k (.inr (.inr (.inr (.inl e)))) hk) (fun k hk _ e => by have e : k = w33.heap.size := e; rcases hk with hk | hk; exact (hRDj.sQ k hk).1 (.inr (.inr (.inr (.inl e)))); (have := hBp k hk; omega))) (fun _ h _ => h) (fun k h hl => ⟨h, by omega⟩),
        ((hRDj.ext.trans N83.ext).then X84 (fun k h _ => by rcases h with h | h; exact (hRDj.sB k h).2.2.2; omega)).then P26.ext (by rintro k rfl _; omega),
        fun k hk => ⟨(hRDj.sR k hk).1, by have hk : wi.heap.size ≤ k ∧ k < w46.heap.size := hk; omega, fun h => by have := hRDj.sR k hk; rcases h.1 with h | h; exact this.2.2.1 h; omega, fun h => by have := hRDj.sR k hk; rcases h with h | h; exact this.2.2.2 h; (have := hBp k h; have hk : wi.heap.size ≤ k ∧ k < w46.heap.size := hk; omega)⟩,
        fun k hk => ⟨fun h => hBX k h hk.1, by omega, fun h => by rcases h with h | h; (have := hRDj.sQ k h; rcases hk.1 with hb | hb; exact (hRDj.sB k hb).2.2.1 h; omega); (have := hBp k h; rcases hk.1 with hb | hb; (have := (hRD.sB k hb).2.1; omega); omega), by rcases hk.1 with hb | hb; exact (hRDj.sB k hb).2.2.2; omega⟩,
        fun k hk => by rcases hk with hk | hk; (have := hRDj.sQ k hk; exact ⟨this.1, by omega, this.2.2⟩); (have := hBp k hk; exact ⟨by omega, by omega, by omega⟩)⟩
      ·show (allP (acc ++ [_])).length ≤ 4096 * (i + 1)
       rw [allP_snoc, List.length_append]
       show (allP acc).length + accp.length ≤ _
       omega
  ·obtain rfl : i = n := by omega
   obtain ⟨aF, kF, rfl, hkF⟩ := OwnO.val hRD.own
   have l2 := hRD.b2.lt
   have l10 := hRD.b10.lt
   have lD := dk_lt hRD.dk
   rw [Nat.sub_self] at hst
   have hst : St (parseS 4096 (innerD b)) rs (fun _ => some acc) := hst.to (by rw [filesS_0]; rfl)
   refine .exit rfl (.code (.seq (.keep [(0, _), (2, _), (6, _), (10, _)] ⟨rfl, rfl, rfl, rfl, trivial⟩ (.region ?_))))
   refine .p rfl rfl (.loadA (n := 2) rfl rfl rfl rfl rfl hRD.b10.cells) (.call (first := []) (captured := []) rfl rfl rfl rfl (FWrite_fn (x := ⟨g, acc⟩) (tDir.mk (x := ⟨g, acc⟩) (own_files hRD.own (fun _ _ => trivial) (fun _ _ => trivial)) hgr2) (by show (allP acc).length ≤ _; omega) (hg.ext0 hRD.ext)) ?_)
   rintro _ w89 ⟨v89, rfl, G89, X89⟩
   have z89 := X89.size
   have D9 := hRD.step0 X89
   obtain ⟨v4e, B4e, R4e, Qe⟩ := D9.rt
   refine .p rfl rfl (.mv rfl) (.p rfl rfl (.extract rfl rfl) (.p rfl rfl (.extract rfl rfl) (.p rfl rfl (.as rfl) (.p rfl rfl (.as rfl) (.nil (.code (.seq (.seq (.keep [(17, _), (16, _), (0, _), (2, _), (6, _), (10, _)] ⟨rfl, rfl, rfl, rfl, rfl, rfl, trivial⟩ (.region ?_))))))))))
   refine .p rfl rfl (.load rfl rfl rfl (Qe.cell 0)) (.p rfl rfl (.mv rfl) ?_)
   refine .case 93 rfl (fun c93 => ?_) (fun c93 => ?_)
   ·refine .skip rfl rfl (.skip rfl rfl (.p rfl rfl (.pickT rfl rfl) (.p rfl rfl (.mv rfl) (.skip rfl rfl (.skip rfl rfl (.skip rfl rfl (.skip rfl rfl (.p rfl rfl (.pickT rfl rfl) (.nil (.code (.keep [(102, _), (2, _), (10, _)] ⟨rfl, rfl, rfl, trivial⟩ (.condT rfl (.seq (.keep [(2, _)] ⟨rfl, trivial⟩ (.region ?_)))))))))))))))
    refine .p rfl rfl (.build (cs := [i64 0, .slice none 0 0]) rfl (fun _ => by kernel_rfl)) (.s rfl (.storeAll (n := 2) rfl rfl rfl rfl rfl (by first | exact D10.b2 | exact D9.b2) rfl) ?_)
    intro w30 P30
    refine .p rfl rfl (.as rfl) (.nil (.code ?_))
    refine .retM (D := w23.heap.size) (dk_ext D9.dk P30.ext (by omega)) (.cell (n := 2) rfl rfl rfl rfl rfl ((P30.blk.ext (Ext.putObj (S := fun k => k = w23.heap.size) _ rfl _) (by omega)).cells) (.tmp rfl .nil)) ?_
    rw [readD_none hlen (St.bad hst c93)]
    exact ⟨_, fun _ => False, fun _ => False, rfl, OwnO.nil, fun _ h => h.elim, fun _ h => h.elim, (D9.ext.then P30.ext (by rintro k rfl _; omega)).then (Ext.putObj (S := fun k => k = w23.heap.size) _ rfl _) (by rintro k rfl _; omega)⟩
   ·refine .p rfl rfl (.mv rfl) (.p rfl rfl (.ne rfl rfl) (.p rfl rfl (.pickF rfl rfl) (.p rfl rfl (.mv rfl) ?_)))
    refine .caseD 97 rfl (fun c97 => ?_) (fun c97 => ?_)
    ·refine .skip rfl rfl (.skip rfl rfl (.skip rfl rfl (.skip rfl rfl (.p rfl rfl (.pickT rfl rfl) (.nil (.code (.keep [(102, _), (2, _), (10, _)] ⟨rfl, rfl, rfl, trivial⟩ (.condT rfl (.seq (.keep [(2, _)] ⟨rfl, trivial⟩ (.region ?_)))))))))))
     refine .p rfl rfl (.build (cs := [i64 0, .slice none 0 0]) rfl (fun _ => by kernel_rfl)) (.s rfl (.storeAll (n := 2) rfl rfl rfl rfl rfl (by first | exact D10.b2 | exact D9.b2) rfl) ?_)
     intro w30 P30
     refine .p rfl rfl (.as rfl) (.nil (.code ?_))
     refine .retM (D := w23.heap.size) (dk_ext D9.dk P30.ext (by omega)) (.cell (n := 2) rfl rfl rfl rfl rfl ((P30.blk.ext (Ext.putObj (S := fun k => k = w23.heap.size) _ rfl _) (by omega)).cells) (.tmp rfl .nil)) ?_
     rw [readD_no hg8 hlen (hst.ok (by rw [c93]; exact Bool.false_ne_true)) (fun h => c97 (congrArg Prod.snd h))]
     exact ⟨_, fun _ => False, fun _ => False, rfl, OwnO.nil, fun _ h => h.elim, fun _ h => h.elim, (D9.ext.then P30.ext (by rintro k rfl _; omega)).then (Ext.putObj (S := fun k => k = w23.heap.size) _ rfl _) (by rintro k rfl _; omega)⟩
    ·refine .p rfl rfl (.mv rfl) (.p rfl rfl (.mv rfl) (.call (first := []) (captured := []) rfl rfl rfl rfl (slicesEqual_fn (Gr.rep G89) (tBytes.ext0 h D9.ext)) ?_))
     rintro _ w100 ⟨rfl, X100⟩
     have z100 := X100.size
     have D10 := D9.step0 X100
     refine .p rfl rfl (.notD rfl) (.p rfl rfl (.pickF rfl rfl) (.nil (.code (.keep [(102, _), (2, _), (10, _)] ⟨rfl, rfl, rfl, trivial⟩ ?_))))
     refine .condD rfl (fun c102 => ?_) (fun c102 => ?_)
     ·refine .seq (.keep [(2, _)] ⟨rfl, trivial⟩ (.region ?_))
      refine .p rfl rfl (.build (cs := [i64 0, .slice none 0 0]) rfl (fun _ => by kernel_rfl)) (.s rfl (.storeAll (n := 2) rfl rfl rfl rfl rfl (by first | exact D10.b2 | exact D9.b2) rfl) ?_)
      intro w30 P30
      refine .p rfl rfl (.as rfl) (.nil (.code ?_))
      refine .retM (D := w23.heap.size) (dk_ext D10.dk P30.ext (by omega)) (.cell (n := 2) rfl rfl rfl rfl rfl ((P30.blk.ext (Ext.putObj (S := fun k => k = w23.heap.size) _ rfl _) (by omega)).cells) (.tmp rfl .nil)) ?_
      rw [readD_no hg8 hlen (hst.ok (by rw [c93]; exact Bool.false_ne_true)) (fun h => c102 (congrArg Prod.fst h))]
      exact ⟨_, fun _ => False, fun _ => False, rfl, OwnO.nil, fun _ h => h.elim, fun _ h => h.elim, (D10.ext.then P30.ext (by rintro k rfl _; omega)).then (Ext.putObj (S := fun k => k = w23.heap.size) _ rfl _) (by rintro k rfl _; omega)⟩
     ·refine .skip (.code (.seq (.keep [(2, _), (10, _)] ⟨rfl, rfl, trivial⟩ (.region ?_))))
      refine .p rfl rfl (.loadA (n := 2) rfl rfl rfl rfl rfl D10.b10.cells) (.s rfl (.storeAll (n := 2) rfl rfl rfl rfl rfl D10.b2 rfl) ?_)
      intro w31 P31
      refine .p rfl rfl (.as rfl) (.nil (.code ?_))
      refine .retM (D := w23.heap.size) (dk_ext D10.dk P31.ext (by omega)) (.cell (n := 2) rfl rfl rfl rfl rfl ((P31.blk.ext (Ext.putObj (S := fun k => k = w23.heap.size) _ rfl _) (by omega)).cells) (.tmp rfl .nil)) ?_
      rw [readD_ok hg8 hlen (hst.ok (by rw [c93]; exact Bool.false_ne_true)) (Decidable.not_not.1 c102) (Decidable.not_not.1 c97)]
      exact ⟨_, Q, B, rfl, OwnO.ext (OwnO.ext D10.own P31.ext (fun k hk _ e => (D10.sB k hk).1 (.inl e)) (fun k hk _ e => (D10.sQ k hk).1 (.inl e))) (Ext.putObj (S := fun k => k = w23.heap.size) _ rfl _) (fun k hk _ e => (D10.sB k hk).1 (.inr (.inr (.inr (.inr e))))) (fun k hk _ e => (D10.sQ k hk).1 (.inr (.inr (.inr (.inr e))))), fun k hk => (hRD.sQ k hk).2.2, fun k hk => ⟨(hRD.sB k hk).2.2.2, (hRD.sB k hk).2.2.1⟩, (D10.ext.then P31.ext (by rintro k rfl _; omega)).then (Ext.putObj (S := fun k => k = w23.heap.size) _ rfl _) (by rintro k rfl _; omega)⟩
end Go.Proofs.YtpfehnopghffjaaGreatDoor
namespace Go.Proofs.YtpfehnopghffjaaGreatDoor
open Go
namespace files
open room
theorem flat_length {α : Type} {f : Nat → List α} {k : Nat} : ∀ n, (∀ i, i < n → (f i).length = k) → ((List.range n).flatMap f).length = n * k
 | 0, _ => by simp
 | n + 1, h => by
  rw [List.range_succ, List.flatMap_append, List.length_append, flat_length n (fun i hi => h i (by omega)), List.flatMap_cons, List.flatMap_nil, List.append_nil, h n (by omega), Nat.succ_mul]
theorem flat_block {α : Type} {f : Nat → List α} {k : Nat} : ∀ n, (∀ i, i < n → (f i).length = k) → ∀ i, i < n → (((List.range n).flatMap f).drop (i * k)).take k = f i
 | 0, _, i, hi => by omega
 | n + 1, h, i, hi => by
  have hl := flat_length (f := f) n (fun i hi => h i (by omega))
  rw [List.range_succ, List.flatMap_append, List.flatMap_cons, List.flatMap_nil, List.append_nil]
  by_cases he : i = n
  ·subst he
   rw [List.drop_left' hl, List.take_of_length_le (by rw [h i hi]; exact Nat.le_refl _)]
  ·have h1 : i * k + k ≤ n * k := by rw [← Nat.succ_mul]; exact Nat.mul_le_mul_right _ (by omega)
   rw [List.drop_append_of_le_length (by omega), List.take_append_of_le_length (by rw [List.length_drop, hl]; omega)]
   exact flat_block n (fun i hi => h i (by omega)) i (by omega)
theorem take_blocks {α : Type} (b : List α) (k : Nat) : ∀ n, (List.range n).flatMap (fun i => (b.drop (i * k)).take k) = b.take (n * k)
 | 0 => by simp
 | n + 1 => by
  rw [List.range_succ, List.flatMap_append, List.flatMap_cons, List.flatMap_nil, List.append_nil, take_blocks b k n, Nat.succ_mul, List.take_add]
theorem flat_congr {α : Type} {f g : Nat → List α} (n : Nat) (h : ∀ i, i < n → f i = g i) : (List.range n).flatMap f = (List.range n).flatMap g := by
 rw [List.flatMap_def, List.flatMap_def]
 congr 1
 exact List.map_congr_left (fun i hi => h i (List.mem_range.1 hi))
def secD (g : Nat) (b : Bs) (i : Nat) : Bs := put8 g ++ [UInt8.ofNat i] ++ (b.drop (i * 119)).take 119
theorem secD_length {g : Nat} {b : Bs} (hb : b.length = 952) {i : Nat} (hi : i < 8) : (secD g b i).length = 128 := by
 unfold secD
 simp only [List.length_append, put8_length, List.length_cons, List.length_nil, List.length_take, List.length_drop]
 omega
theorem slotsD_length {g : Nat} {b : Bs} (hb : b.length = 952) : (slotsD g b).length = 1024 := flat_length (f := secD g b) 8 (fun i hi => secD_length hb hi)
theorem slotsD_sec {g : Nat} {b : Bs} (hb : b.length = 952) {i : Nat} (hi : i < 8) : ((slotsD g b).drop (i * 128)).take 128 = secD g b i := flat_block (f := secD g b) 8 (fun i hi => secD_length hb hi) i hi
theorem inner_slots {g : Nat} {b : Bs} (hb : b.length = 952) : innerD (slotsD g b) = b := by
 unfold innerD
 rw [flat_congr 8 (g := fun i => (b.drop (i * 119)).take 119) (fun i hi => ?_), take_blocks, List.take_of_length_le (by omega)]
 rw [slotsD_sec hb hi]
 unfold secD
 rw [List.drop_left' (by simp [put8_length])]
theorem getTo_putA (n : Nat) (r : Bs) : ∀ i, i ≤ 8 → getTo (put8 n ++ r) i = n % 2 ^ (8 * i)
 | 0, _ => by simp [getTo, Nat.mod_one]
 | i + 1, h => by
  have e : (put8 n ++ r).getD i 0 = byteOf n i := by
   rw [List.getD_eq_getElem?_getD, List.getElem?_append_left (by rw [put8_length]; omega)]
   unfold put8
   rw [List.getElem?_map, List.getElem?_range (by omega)]
   rfl
  have e2 : (byteOf n i).toNat = n / 2 ^ (8 * i) % 256 := by unfold byteOf; simp
  rw [getTo, getTo_putA n r i (by omega), e, e2, show 8 * (i + 1) = 8 * i + 8 by omega, Nat.pow_add, Nat.mod_mul, Nat.mul_comm (n / 2 ^ (8 * i) % 256)]
theorem getTo_put8 {n : Nat} (r : Bs) (h : n < 18446744073709551616) : getTo (put8 n ++ r) 8 = n := by
 rw [getTo_putA n r 8 (by omega)]
 exact Nat.mod_eq_of_lt h
theorem slotsD_gen {g : Nat} {b : Bs} (h : g < 18446744073709551616) : getTo (slotsD g b) 8 = g := by
 have e : slotsD g b = put8 g ++ ([UInt8.ofNat 0] ++ (b.drop (0 * 119)).take 119 ++ (List.range' 1 7).flatMap (secD g b)) := by
  unfold slotsD
  rw [show List.range 8 = 0 :: List.range' 1 7 from rfl, List.flatMap_cons]
  simp only [List.append_assoc]
  rfl
 rw [e, getTo_put8 _ h]
theorem numS_small {n m : Nat} (r : Bs) (h : n < 18446744073709551616) (hm : n ≤ m) : numS m (smallF n ++ r) = some (n, r) := by
 rw [numS_eq, read_small r h, if_neg (fun hx => hx.elim (fun h => h rfl) (fun h => by simp only at h; omega))]
 simp only [List.drop_left]
theorem cutS_text {s : Bs} (r : Bs) (h : s.length < 18446744073709551616) : cutS (textF s ++ r) = some (s, r) := by
 unfold cutS
 rw [cut_text r h, if_neg (fun h => h rfl)]
theorem pieces_back : ∀ (l acc : List Piece) (r : Bs), (∀ p ∈ l, 0 ≤ p.fr ∧ p.fr < 4096 ∧ 1 ≤ p.ct ∧ p.ct ≤ 4096) → piecesS 4096 l.length acc (l.flatMap pieceB ++ r) = some (acc ++ l, r)
 | [], acc, r, _ => by simp [piecesS_0]
 | p :: l, acc, r, h => by
  obtain ⟨h1, h2, h3, h4⟩ := h p (by simp)
  have e : (p :: l).flatMap pieceB ++ r = smallF p.fr.toNat ++ (smallF p.ct.toNat ++ (l.flatMap pieceB ++ r)) := by
   simp only [List.flatMap_cons, pieceB, List.append_assoc]
  rw [List.length_cons, piecesS_s, e, numS_small _ (by omega) (by omega)]
  simp only [Option.bind_some]
  rw [numS_small _ (by omega) (by omega)]
  simp only [Option.bind_some]
  rw [pieces_back l _ r (fun q hq => h q (by simp [hq]))]
  have e2 : (⟨((p.fr.toNat : Nat) : Int), ((p.ct.toNat : Nat) : Int)⟩ : Piece) = p := by
   rw [Int.toNat_of_nonneg h1, Int.toNat_of_nonneg (by omega)]
  rw [e2, List.append_assoc]
  rfl
theorem files_back : ∀ (l acc : List File) (r : Bs), (∀ f ∈ l, f.name.length ≤ 32 ∧ (0 ≤ f.size ∧ f.size ≤ 524288) ∧ f.ps.length ≤ 4096 ∧ ∀ p ∈ f.ps, 0 ≤ p.fr ∧ p.fr < 4096 ∧ 1 ≤ p.ct ∧ p.ct ≤ 4096) → filesS 4096 l.length acc (l.flatMap fileB ++ r) = some (acc ++ l, r)
 | [], acc, r, _ => by simp [filesS_0]
 | f :: l, acc, r, h => by
  obtain ⟨h1, ⟨h2, h3⟩, h4, h5⟩ := h f (by simp)
  have e : (f :: l).flatMap fileB ++ r = textF f.name ++ (smallF f.size.toNat ++ (smallF f.ps.length ++ (f.ps.flatMap pieceB ++ (l.flatMap fileB ++ r)))) := by
   simp only [List.flatMap_cons, fileB, List.append_assoc]
  rw [List.length_cons, filesS_s, e, cutS_text _ (by omega)]
  simp only [Option.bind_some]
  rw [numS_small _ (by omega) (by omega)]
  simp only [Option.bind_some]
  rw [numS_small _ (by omega) (by omega)]
  simp only [Option.bind_some]
  rw [pieces_back _ _ _ h5]
  simp only [Option.bind_some]
  rw [files_back l _ r (fun q hq => h q (by simp [hq]))]
  have e2 : (⟨f.name, ((f.size.toNat : Nat) : Int), [] ++ f.ps⟩ : File) = f := by
   rw [Int.toNat_of_nonneg h2, List.nil_append]
  rw [e2, List.append_assoc]
  rfl
theorem body_back {x : Dir} (hl : x.fs.length ≤ 32) (h : mayD x) (r : Bs) : parseS 4096 (bodyD x.fs ++ r) = some x.fs := by
 unfold parseS
 have e : bodyD x.fs ++ r = smallF x.fs.length ++ (x.fs.flatMap fileB ++ r) := by rw [bodyD, List.append_assoc]
 rw [e, numS_small _ (by omega) hl]
 simp only [Option.bind_some]
 rw [files_back _ _ _ (fun f hf => ?_)]
 ·rfl
 ·obtain ⟨i, hi, rfl⟩ := List.getElem_of_mem hf
  obtain ⟨h1, h2, h3⟩ := file_ok h hi
  exact ⟨h1, h2, h3, fun p hp => piece_ok h hf hp⟩
theorem writeF_len {x : Dir} {b : Bs} (h : writeF x = (b, 0)) : b.length = 1024 := by
 obtain ⟨_, h1, rfl⟩ := writeF_ok h
 exact slotsD_length (by rw [List.length_append, List.length_replicate]; omega)
theorem read_write {x : Dir} {b : Bs} (h : writeF x = (b, 0)) : readD b = (x, 0) := by
 have hl := writeF_len h
 obtain ⟨hc, hb, he⟩ := writeF_ok h
 obtain ⟨h32, hm⟩ := checkD_ok hc
 obtain ⟨hg1, hg2⟩ := hm.1
 have hlen : (bodyD x.fs ++ List.replicate (952 - (bodyD x.fs).length) (0 : UInt8)).length = 952 := by rw [List.length_append, List.length_replicate]; omega
 have hp : parseS 4096 (innerD b) = some x.fs := by
  rw [he, inner_slots hlen]
  exact body_back h32 hm _
 have hg : (getTo b 8 : Int) = x.gen := by
  rw [he, slotsD_gen (by omega), Int.toNat_of_nonneg (by omega)]
 have e : (⟨min (getTo b 8 : Int) 4611686018427387904, x.fs⟩ : Dir) = x := by
  rw [hg, Int.min_eq_left (by omega)]
 unfold readD
 rw [freadG_ok hl hp (by rw [e]; exact h), e]
theorem write_read {b : Bs} (h : (readD b).2 = 0) : writeF (readD b).1 = (b, 0) := by
 unfold readD at h ⊢
 by_cases hl : b.length = 1024
 ·cases hp : parseS 4096 (innerD b) with
  | none => rw [freadG_none hl hp] at h; cases h
  | some l =>
   by_cases hw : writeF ⟨min (getTo b 8 : Int) 4611686018427387904, l⟩ = (b, 0)
   ·rw [freadG_ok hl hp hw]; exact hw
   ·rw [freadG_no hl hp hw] at h; cases h
 ·rw [freadG_len hl] at h; cases h
theorem read_bad {b : Bs} (h : ¬ (readD b).2 = 0) : readD b = (⟨0, []⟩, 8) := by
 unfold readD at h ⊢
 by_cases hl : b.length = 1024
 ·cases hp : parseS 4096 (innerD b) with
  | none => rw [freadG_none hl hp]
  | some l =>
   by_cases hw : writeF ⟨min (getTo b 8 : Int) 4611686018427387904, l⟩ = (b, 0)
   ·rw [freadG_ok hl hp hw] at h; exact absurd rfl h
   ·rw [freadG_no hl hp hw]
 ·rw [freadG_len hl]
end files
end Go.Proofs.YtpfehnopghffjaaGreatDoor
namespace Go.Proofs.YtpfehnopghffjaaGreatDoor
open Go
namespace files
open room
abbrev Change := tree.Change
abbrev Disk := disk.Disk
def nodir : Dir := ⟨0, []⟩
def slotB (d : Disk) (n : Nat) : Bs := (List.range 8).flatMap (fun i => disk.readF d ((n + i : Nat) : Int))
noncomputable def slotF (d : Disk) (n : Nat) : Dir := (readD (slotB d n)).1
def slotOK (d : Disk) (n : Nat) : Prop := (readD (slotB d n)).2 = 0 ∧ checkR d.count (allP (slotF d n).fs) = 0
open Classical in
noncomputable def mountF (d : Disk) : Dir × Nat × Int :=
 if ¬ disk.checkF d = 0 then (nodir, 0, disk.checkF d) else if d.count < 96 then (nodir, 0, 40) else
 if slotOK d 0 ∧ ¬ (slotOK d 8 ∧ (slotF d 0).gen < (slotF d 8).gen) then (slotF d 0, 0, 0) else if slotOK d 8 then (slotF d 8, 8, 0) else (nodir, 0, 40)
theorem mountF_e {d : Disk} (h : ¬ disk.checkF d = 0) : mountF d = (nodir, 0, disk.checkF d) := by unfold mountF; rw [if_pos h]
theorem mountF_96 {d : Disk} (h : disk.checkF d = 0) (h2 : d.count < 96) : mountF d = (nodir, 0, 40) := by unfold mountF; rw [if_neg (fun x => x h), if_pos h2]
theorem mountF_0 {d : Disk} (h : disk.checkF d = 0) (h2 : ¬ d.count < 96) (h3 : slotOK d 0) (h4 : ¬ (slotOK d 8 ∧ (slotF d 0).gen < (slotF d 8).gen)) : mountF d = (slotF d 0, 0, 0) := by unfold mountF; rw [if_neg (fun x => x h), if_neg h2, if_pos ⟨h3, h4⟩]
theorem mountF_8 {d : Disk} (h : disk.checkF d = 0) (h2 : ¬ d.count < 96) (h3 : ¬ (slotOK d 0 ∧ ¬ (slotOK d 8 ∧ (slotF d 0).gen < (slotF d 8).gen))) (h4 : slotOK d 8) : mountF d = (slotF d 8, 8, 0) := by unfold mountF; rw [if_neg (fun x => x h), if_neg h2, if_neg h3, if_pos h4]
theorem mountF_40 {d : Disk} (h : disk.checkF d = 0) (h2 : ¬ d.count < 96) (h3 : ¬ slotOK d 0) (h4 : ¬ slotOK d 8) : mountF d = (nodir, 0, 40) := by unfold mountF; rw [if_neg (fun x => x h), if_neg h2, if_neg (fun h => h3 h.1), if_neg h4]
theorem mountF_ok {d : Disk} (h : (mountF d).2.2 = 0) : disk.checkF d = 0 ∧ 96 ≤ d.count ∧ ((mountF d).2.1 = 0 ∨ (mountF d).2.1 = 8) ∧ slotOK d (mountF d).2.1 ∧ (mountF d).1 = slotF d (mountF d).2.1 := by
 by_cases h1 : disk.checkF d = 0
 ·by_cases h2 : d.count < 96
  ·rw [mountF_96 h1 h2] at h; cases h
  ·by_cases h3 : slotOK d 0 ∧ ¬ (slotOK d 8 ∧ (slotF d 0).gen < (slotF d 8).gen)
   ·rw [mountF_0 h1 h2 h3.1 h3.2]; exact ⟨h1, by omega, .inl rfl, h3.1, rfl⟩
   ·by_cases h4 : slotOK d 8
    ·rw [mountF_8 h1 h2 h3 h4]; exact ⟨h1, by omega, .inr rfl, h4, rfl⟩
    ·rw [mountF_40 h1 h2 (fun h => h3 ⟨h, fun x => h4 x.1⟩) h4] at h; cases h
 ·rw [mountF_e h1] at h; exact absurd h h1
theorem mountF_bad {d : Disk} (h : ¬ (mountF d).2.2 = 0) : (mountF d).1 = nodir ∧ (mountF d).2.1 = 0 := by
 by_cases h1 : disk.checkF d = 0
 ·by_cases h2 : d.count < 96
  ·rw [mountF_96 h1 h2]; exact ⟨rfl, rfl⟩
  ·by_cases h3 : slotOK d 0 ∧ ¬ (slotOK d 8 ∧ (slotF d 0).gen < (slotF d 8).gen)
   ·rw [mountF_0 h1 h2 h3.1 h3.2] at h; exact absurd rfl h
   ·by_cases h4 : slotOK d 8
    ·rw [mountF_8 h1 h2 h3 h4] at h; exact absurd rfl h
    ·rw [mountF_40 h1 h2 (fun h => h3 ⟨h, fun x => h4 x.1⟩) h4]; exact ⟨rfl, rfl⟩
 ·rw [mountF_e h1]; exact ⟨rfl, rfl⟩
def findTo (s : Bs) : List File → Int → Int
 | [], _ => -1
 | f :: l, i => if f.name = s then i else findTo s l (i + 1)
def findF (x : Dir) (s : Bs) : Int := findTo s x.fs 0
theorem findTo_no {s : Bs} : ∀ {l : List File} {i : Int}, (∀ f ∈ l, ¬ f.name = s) → findTo s l i = -1
 | [], _, _ => rfl
 | f :: l, i, h => by rw [findTo, if_neg (h f (by simp))]; exact findTo_no (fun g hg => h g (by simp [hg]))
theorem findTo_at {s : Bs} : ∀ {l : List File} {i : Int} {k : Nat} (hk : k < l.length), (∀ j (h : j < k), ¬ (l[j]'(by omega)).name = s) → l[k].name = s → findTo s l i = i + k
 | f :: l, i, 0, _, _, h => by
  have h : f.name = s := h
  rw [findTo, if_pos h]; simp
 | f :: l, i, k + 1, hk, hn, h => by
  have h0 : ¬ f.name = s := hn 0 (by omega)
  rw [findTo, if_neg h0]
  rw [findTo_at (l := l) (k := k) (by simpa using hk) (fun j hj => by have := hn (j + 1) (by omega); simpa using this) (by simpa using h)]
  push_cast
  omega
theorem findF_no {x : Dir} {s : Bs} (h : ∀ f ∈ x.fs, ¬ f.name = s) : findF x s = -1 := findTo_no h
theorem findF_at {x : Dir} {s : Bs} {k : Nat} (hk : k < x.fs.length) (hn : ∀ j (h : j < k), ¬ (x.fs[j]'(by omega)).name = s) (h : x.fs[k].name = s) : findF x s = (k : Int) := by
 unfold findF; rw [findTo_at hk hn h]; omega
def oneW (x : Dir) (seen : List Bs) (c : Change) : Int := if ¬ nameF c.key = true then 5 else if c.key ∈ seen then 8 else if c.gone = true ∧ findF x c.key < 0 then 6 else 0
def chgW (x : Dir) : List Bs → List Change → Int
 | _, [] => 0
 | seen, c :: r => if ¬ oneW x seen c = 0 then oneW x seen c else chgW x (seen ++ [c.key]) r
def wrongF (x : Dir) (l : List Change) : Int := if 64 < l.length then 4 else chgW x [] l
theorem chgW_step {x : Dir} {l : List Change} {seen : List Bs} {i : Nat} (h : i < l.length) : chgW x seen (l.drop i) = if ¬ oneW x seen l[i] = 0 then oneW x seen l[i] else chgW x (seen ++ [l[i].key]) (l.drop (i + 1)) := by
 rw [List.drop_eq_getElem_cons h, chgW]
theorem chgW_err {x : Dir} {l : List Change} {seen : List Bs} {i : Nat} {e : Int} (h : i < l.length) (hchg : chgW x [] l = chgW x seen (l.drop i)) (he : oneW x seen l[i] = e) (h0 : ¬ e = 0) : chgW x [] l = e := by
 rw [hchg, chgW_step h, if_pos (by rw [he]; exact h0), he]
theorem chgW_ok {x : Dir} {l : List Change} {seen : List Bs} {i : Nat} (h : i < l.length) (hchg : chgW x [] l = chgW x seen (l.drop i)) (he : oneW x seen l[i] = 0) : chgW x [] l = chgW x (seen ++ [l[i].key]) (l.drop (i + 1)) := by
 rw [hchg, chgW_step h, if_neg (by rw [he]; exact fun x => x rfl)]
theorem keysC_step {l : List Change} {i : Nat} (h : i < l.length) : (l.take (i + 1)).map (·.key) = (l.take i).map (·.key) ++ [l[i].key] := by
 rw [List.take_succ_eq_append_getElem h, List.map_append]
 rfl
def keepN (x : Dir) (l : List Change) : List File := x.fs.filter (fun f => !decide (f.name ∈ l.map (·.key)))
def freshN (l : List Change) : List Change := l.filter (fun c => !c.gone)
def insF : List File → File → List File
 | [], f => [f]
 | g :: l, f => if Op.bytesLess f.name g.name = true then f :: g :: l else g :: insF l f
def sortN (l : List File) : List File := l.foldl insF []
def secV (v : Bs) (i : Nat) : Bs := (v.drop (i * 128)).take 128 ++ List.replicate (128 - ((v.drop (i * 128)).take 128).length) 0
def sectE (p : List Piece) : List Int := if checkR 4096 p = 0 then sectF p else []
def putsV (p : List Piece) (v : Bs) : List disk.Put := (List.range (sectE p).length).map (fun i => ⟨(sectE p).getD i 0, secV v i⟩)
def putA (l : List disk.Put) : List disk.Act := l.map (fun p => ⟨false, p⟩)
def actsV (p : List Piece) (v : Bs) : List disk.Act := putA (putsV p v)
def putsF (count : Int) : List Change → List File → List disk.Act → List Piece → List File × List disk.Act × Int
 | [], fs, zs, used => (fs, zs, 0)
 | c :: l, fs, zs, used =>
  if 4096 < needF c.value.length then ([], [], 30) else if ¬ takeE 80 count used (needF c.value.length) = 0 then ([], [], takeE 80 count used (needF c.value.length)) else
  putsF count l (fs ++ [⟨c.key, c.value.length, takeL 80 count used (needF c.value.length)⟩]) (zs ++ actsV (takeL 80 count used (needF c.value.length)) c.value) (used ++ takeL 80 count used (needF c.value.length))
def genTo (d : Disk) (other : Nat) (g : Int) : Nat → Int
 | 0 => g
 | i + 1 => if getTo ((disk.readF d ((other + i : Nat) : Int)).take 8) 8 < 4611686018427387904 then max (genTo d other g i) (getTo ((disk.readF d ((other + i : Nat) : Int)).take 8) 8 : Nat) else genTo d other g i
def genN (d : Disk) (other : Nat) (g : Int) : Int := genTo d other g 8 + 1
def flushA : disk.Act := ⟨true, 0, []⟩
def dirP (b : Bs) (other : Nat) : List disk.Put := (List.range 8).map (fun i => ⟨((other + i : Nat) : Int), (b.drop (i * 128)).take 128⟩)
def dirA (b : Bs) (other : Nat) : List disk.Act := putA (dirP b other)
def actsN (zs : List disk.Act) (b : Bs) (other : Nat) : List disk.Act := zs ++ (if zs = [] then [] else [flushA]) ++ dirA b other ++ [flushA]
def turnD (d : Disk) (x : Dir) (at_ : Nat) (fs : List File) : Dir := ⟨genN d (8 - at_) x.gen, sortN fs⟩
noncomputable def turnF (d : Disk) (l : List Change) : List disk.Act × Int :=
 if ¬ (mountF d).2.2 = 0 then ([], (mountF d).2.2) else if ¬ wrongF (mountF d).1 l = 0 then ([], wrongF (mountF d).1 l) else
 if 32 < (keepN (mountF d).1 l).length + (freshN l).length then ([], 42) else
 if ¬ (putsF d.count (freshN l) (keepN (mountF d).1 l) [] (allP (mountF d).1.fs)).2.2 = 0 then ([], (putsF d.count (freshN l) (keepN (mountF d).1 l) [] (allP (mountF d).1.fs)).2.2) else
 if ¬ (writeF (turnD d (mountF d).1 (mountF d).2.1 (putsF d.count (freshN l) (keepN (mountF d).1 l) [] (allP (mountF d).1.fs)).1)).2 = 0 then ([], 42) else
 (actsN (putsF d.count (freshN l) (keepN (mountF d).1 l) [] (allP (mountF d).1.fs)).2.1 (writeF (turnD d (mountF d).1 (mountF d).2.1 (putsF d.count (freshN l) (keepN (mountF d).1 l) [] (allP (mountF d).1.fs)).1)).1 (8 - (mountF d).2.1), 0)
noncomputable def formatF (n : Int) : Disk × Int := if n < 96 ∨ 4096 < n then (disk.nodisk, 20) else (⟨n, (writeF ⟨1, []⟩).1 ++ List.replicate (n.toNat * 128 - 1024) 0, []⟩, 0)
def bytesF (d : Disk) (f : File) : Bs := ((sectE f.ps).flatMap (fun n => disk.readF d n)).take f.size.toNat
end files
end Go.Proofs.YtpfehnopghffjaaGreatDoor
