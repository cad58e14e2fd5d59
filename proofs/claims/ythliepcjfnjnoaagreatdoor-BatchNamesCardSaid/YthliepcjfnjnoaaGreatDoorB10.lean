import Derived.Test.YthliepcjfnjnoaaGreatDoorB04
import Derived.Lib.AppendZerosOnto
import Derived.Test.YthliepcjfnjnoaaGreatDoorB09
import Derived.Test.YthliepcjfnjnoaaGreatDoorB07
import Derived.Test.YthliepcjfnjnoaaGreatDoorB05
set_option linter.unusedVariables false
set_option linter.unusedSimpArgs false
set_option maxRecDepth 20000
namespace Go.Proofs.YthliepcjfnjnoaaGreatDoor
open Go Go.Lib
theorem zeroCells_zero (z : Array Value) : Builtin.zeroCells z 0 = #[] := by simp [Builtin.zeroCells]
theorem run_append_room_zeros {P : Program} (w w2 : World) (t tn ty e : TypeId) (i : TypeInfo) (z : Value) (kq kn : IntKind) (ht : P.underlying t = some (.slice e)) (htn : P.underlying tn = some (.int kn)) (hi : P.info? e = some i) (hz : i.zero = some z)
    (b off : Nat) (sLen sCap : Nat) (k : Nat) (hs : 0 < i.size) (hroom : sLen + k ≤ sCap) (h63 : (k : Int) ≤ 9223372036854775807) (h48 : k * i.bytes ≤ 281474976710656)
    (hst : (storeCells ⟨b, off + sLen * i.size, none⟩ (Builtin.zeroCells z.cells k).toList).run P w = Result.ok () w2) :
    (Builtin.append_ #[t, tn] ty #[.slice (some ⟨b, off, none⟩) sLen sCap, .int kq k]).run P w = .ok (.slice (some ⟨b, off, none⟩) (sLen + k) sCap) w2 := by
  have hw : IntKind.i64.wrap (k : Int) = k := by rw [IntKind.wrap_i64]; omega
  have h48i : ¬ (281474976710656 < (k : Int) * (i.bytes : Int)) := by
    rw [← Int.natCast_mul]
    omega
  have hneg : ¬ ((k : Int) < 0) := by omega
  by_cases hk : k = 0
  · subst hk
    rw [zeroCells_zero] at hst
    simp [storeCells] at hst
    simp [Builtin.append_, run_underlying ht, run_underlying htn, sizeOf, typeInfo, zeroValue, hi, hz, asInt, asIntOf, IntKind.wrap_i64, hroom, storeCells, hst]
    omega
  · have hns : ¬ (k * i.size = 0) := Nat.mul_ne_zero hk (by omega)
    simp [Builtin.append_, run_underlying ht, run_underlying htn, sizeOf, typeInfo, zeroValue, hi, hz, asInt, asIntOf, hw, hneg, hns, h48i, hroom, Addr.add_lit, hst]
theorem run_append_none_zeros {P : Program} (w : World) (t tn ty e : TypeId) (i : TypeInfo) (kq kn : IntKind) (ht : P.underlying t = some (.slice e)) (htn : P.underlying tn = some (.int kn)) (hi : P.info? e = some i) :
    (Builtin.append_ #[t, tn] ty #[.slice none 0 0, .int kq 0]).run P w = .ok (.slice none 0 0) w := by
  simp [Builtin.append_, run_underlying ht, run_underlying htn, sizeOf, typeInfo, hi, asInt, asIntOf, IntKind.wrap_i64]
theorem zeroCells_u8 (n : Nat) : (Builtin.zeroCells (u8 0).cells n).toList = flat ((List.replicate n (0 : UInt8)).map u8) := by
  rw [flat_u8, List.map_replicate]
  unfold Builtin.zeroCells
  refine List.eq_replicate_iff.2 ⟨by simp [Value.cells], fun b hb => ?_⟩
  simp [Value.cells, Nat.mod_one] at hb
  exact hb.2.symm
section
variable {P : Program} {e : Env} {w : World} {x y : Operand} {T Tn E : TypeId} {v : Value} {B : Nat → Prop}
theorem DoV.appendZ {i : TypeInfo} {n b : Nat} {xs : Bs} {kn : IntKind} (hx : look e x = some v) (hv : Own tByte (fun _ => False) E w v xs b) (hy : look e y = some (i64 (n : Int)))
    (hT : P.underlying T = some (.slice E)) (hTn : P.underlying Tn = some (.int kn)) (hi : P.info? E = some i) (hz : i.zero = some (u8 0)) (hs : i.size = 1) (hby : i.bytes = 1) (hlen : xs.length + n ≤ 140000000000) :
    DoV P e (.call { callee := .builtin .append, args := #[x, y], argTypes := #[T, Tn] }) w (fun r w2 => ∃ b', Own tByte (fun _ => False) E w2 r (xs ++ List.replicate n 0) b' ∧ Ext (· = b) w w2 ∧ (b' = b ∨ b' = w.heap.size)) := by
  intro w' hw ρ hρ o ho
  obtain ⟨hl, hown⟩ := hv
  have hlim : (xs ++ List.replicate n (0 : UInt8)).length < Lim := by rw [List.length_append, List.length_replicate]; simp only [Lim]; omega
  have hlz : (xs ++ List.replicate n (0 : UInt8)).length = xs.length + n := by rw [List.length_append, List.length_replicate]
  have hgrow : ∀ (base : Option Addr) (sCap : Nat), v = .slice base xs.length sCap → (Builtin.firstCells i.size xs.length (.slice base xs.length sCap)).run P w'.drew = .ok (xs.map u8).toArray w'.drew → sCap < xs.length + n → 0 < n →
      ∃ r w2 w3, (execOp ρ o).run P w' = .ok (.value r) w3 ∧ Same w2 w3 ∧ ∃ b', Own tByte (fun _ => False) E w2 r (xs ++ List.replicate n 0) b' ∧ Ext (· = b) w w2 ∧ (b' = b ∨ b' = w.heap.size) := by
    intro base sCap hvv hfc hg hn0
    have hge := grownCap_ge w' (xs.length + n) sCap E
    generalize hcap : grownCap w' (xs.length + n) sCap E = cap at hge
    have hr := run_append_grow_zeros (P := P) w' T Tn o.type E i (u8 0) .i64 kn hT hTn hi hz base xs.length sCap (xs.map u8) hfc n hn0 (by omega) hg (by omega) (by rw [hby]; omega) (growslice_fits hg (by rw [hby]; omega))
    rw [hcap] at hr
    have hcs : (xs.map u8).toArray ++ Builtin.zeroCells (u8 0).cells n ++ Builtin.zeroCells (u8 0).cells (cap - (xs.length + n)) = (flat ((xs ++ List.replicate n (0 : UInt8)).map u8) ++ (Builtin.zeroCells (u8 0).cells (cap - (xs.length + n))).toList).toArray := by
      apply Array.ext'
      simp only [Array.toList_append, List.map_append, flat_append, zeroCells_u8, flat_u8]
    rw [hcs] at hr
    have hext : Ext (fun _ => False) w (w.alloc (.cells (flat ((xs ++ List.replicate n (0 : UInt8)).map u8) ++ (Builtin.zeroCells (u8 0).cells (cap - (xs.length + n))).toList).toArray E)) := Ext.alloc w _
    refine ⟨.slice (some ⟨w.heap.size, 0, none⟩) (xs.length + n) cap, w.alloc (.cells (flat ((xs ++ List.replicate n (0 : UInt8)).map u8) ++ (Builtin.zeroCells (u8 0).cells (cap - (xs.length + n))).toList).toArray E), w'.drew.alloc (.cells (flat ((xs ++ List.replicate n (0 : UInt8)).map u8) ++ (Builtin.zeroCells (u8 0).cells (cap - (xs.length + n))).toList).toArray E), ?_, (hw.trans (same_draw w')).alloc _, w.heap.size, ?_, hext.mono (fun _ _ hf => hf.elim), .inr rfl⟩
    · rw [hw.heap] at hr
      refine run_append_call ho ?_
      rw [hρ _ _ hx, hρ _ _ hy, hvv]
      exact hr
    · refine ⟨hlim, .inr ⟨cap, (xs ++ List.replicate n (0 : UInt8)).map u8, (Builtin.zeroCells (u8 0).cells (cap - (xs.length + n))).toList, by rw [hlz], by rw [hlz]; exact hge, each_u8 _, Blk.alloc _ _ _, ?_⟩⟩
      rw [flat_u8, List.length_append, List.length_map, hlz, zeroCells_u8, flat_u8, List.length_map, List.length_replicate]
      show xs.length + n + (cap - (xs.length + n)) = cap * 1
      omega
  rcases hown with ⟨rfl, rfl⟩ | ⟨cap, us0, sp, rfl, hc0, he0, hB, hn0⟩
  · by_cases h0 : n = 0
    · subst h0
      refine ⟨.slice none 0 0, w, w', run_append_call ho ?_, hw, b, Own.nil, .refl w, .inl rfl⟩
      rw [hρ _ _ hx, hρ _ _ hy]
      exact run_append_none_zeros (P := P) w' T Tn o.type E i .i64 kn hT hTn hi
    · exact hgrow none 0 rfl (by exact run_firstCells_none w'.drew i.size 0 0 0) (by simp; omega) (by omega)
  · obtain rfl : us0 = xs.map u8 := Each.eq_map u8 he0
    rw [flat_u8] at hB hn0
    by_cases hroom : xs.length + n ≤ cap
    · have hfit : xs.length + (List.replicate n (u8 0)).length ≤ (xs.map u8 ++ sp).length := by
        rw [hn0, List.length_replicate]
        show _ ≤ cap * 1
        omega
      have hB' : Blk w' b E (xs.map u8 ++ sp) := hB.keep (by rw [hw.heap])
      have hzl : (Builtin.zeroCells (u8 0).cells n).toList = List.replicate n (u8 0) := by rw [zeroCells_u8, flat_u8, List.map_replicate]
      have hst := run_storeCells_cells (P := P) b (0 + xs.length * i.size) (List.replicate n (u8 0)) 0 w'
        (fun j hj => by rw [hB'.cell, hs, List.getElem?_eq_getElem (by omega)]; rfl) (fun j hj => hB'.thawed _ (by rw [hs]; omega)) (fun u hu => by rw [List.eq_of_mem_replicate hu]; rfl)
      have hr := run_append_room_zeros (P := P) w' _ T Tn o.type E i (u8 0) .i64 kn hT hTn hi hz b 0 xs.length cap n (by omega) hroom (by omega) (by rw [hby]; omega) (by rw [hzl]; exact hst)
      rw [← putCells_setCells, hs, Nat.zero_add, Nat.mul_one, Nat.add_zero] at hr
      refine ⟨.slice (some ⟨b, 0, none⟩) (xs.length + n) cap, putCells w b xs.length (List.replicate n (u8 0)), putCells w' b xs.length (List.replicate n (u8 0)), run_append_call ho ?_, hw.putCells b _ _, b, ?_, putCells_ext _ _ _ _, .inl rfl⟩
      · rw [hρ _ _ hx, hρ _ _ hy]
        exact hr
      · have hb2 := hB.put (List.replicate n (u8 0)) xs.length
        rw [splice_eq _ _ _ hfit] at hb2
        have e1 : (xs.map u8 ++ sp).take xs.length ++ List.replicate n (u8 0) ++ (xs.map u8 ++ sp).drop (xs.length + (List.replicate n (u8 0)).length) = flat ((xs ++ List.replicate n (0 : UInt8)).map u8) ++ sp.drop n := by
          rw [List.take_left' (by simp), ← List.drop_drop, List.drop_left' (by simp), flat_u8, List.map_append, List.map_replicate, List.length_replicate]
        rw [e1] at hb2
        refine ⟨hlim, .inr ⟨cap, (xs ++ List.replicate n (0 : UInt8)).map u8, sp.drop n, by rw [hlz], by rw [hlz]; exact hroom, each_u8 _, hb2, ?_⟩⟩
        rw [List.length_append, List.length_map] at hn0
        rw [List.length_append, List.length_drop, flat_u8, List.length_map, hlz, ← hn0]
        have : cap * tByte.size = cap * 1 := rfl
        omega
    · refine hgrow _ cap rfl ?_ (by omega) (by omega)
      refine run_firstCells_some (P := P) w'.drew i.size xs.length _ _ _ (xs.map u8) (by rw [List.length_map, hs, Nat.mul_one]) (fun j u hj => ?_)
      rw [add_none]
      have hb' : Blk w' b E (xs.map u8 ++ sp) := hB.keep (by rw [hw.heap])
      have := hb'.cells.left j u hj
      simpa using this
theorem DoV.appendZLo {i : TypeInfo} {n : Nat} {xs : Bs} {kn : IntKind} (hx : look e x = some v) (hv : OwnO tByte (fun _ => False) E w v xs B) (hlo : ∀ k, w.heap.size ≤ k → B k) (hy : look e y = some (i64 (n : Int)))
    (hT : P.underlying T = some (.slice E)) (hTn : P.underlying Tn = some (.int kn)) (hi : P.info? E = some i) (hz : i.zero = some (u8 0)) (hs : i.size = 1) (hby : i.bytes = 1) (hlen : xs.length + n ≤ 140000000000) :
    DoV P e (.call { callee := .builtin .append, args := #[x, y], argTypes := #[T, Tn] }) w (fun r w2 => OwnO tByte (fun _ => False) E w2 r (xs ++ List.replicate n 0) B ∧ Ext B w w2) := by
  have key : ∀ b, B b → Own tByte (fun _ => False) E w v xs b → DoV P e (.call { callee := .builtin .append, args := #[x, y], argTypes := #[T, Tn] }) w (fun r w2 => OwnO tByte (fun _ => False) E w2 r (xs ++ List.replicate n 0) B ∧ Ext B w w2) := by
    intro b hb hO w' hw ρ hρ o ho
    obtain ⟨r, w2, w3, h1, h2, b', h3, h4, h5⟩ := DoV.appendZ (P := P) hx hO hy hT hTn hi hz hs hby hlen w' hw ρ hρ o ho
    exact ⟨r, w2, w3, h1, h2, OwnO.ofOwn h3 (fun _ => h5.elim (fun e => by rw [e]; exact hb) (fun e => by rw [e]; exact hlo _ (Nat.le_refl _))), h4.mono (fun k _ hk => by rw [hk]; exact hb)⟩
  rcases hv with ⟨rfl, rfl⟩ | ⟨b, hb, _, hO⟩
  · exact key w.heap.size (hlo _ (Nat.le_refl _)) Own.nil
  · exact key b hb hO
end
end Go.Proofs.YthliepcjfnjnoaaGreatDoor
namespace Go.Proofs.YthliepcjfnjnoaaGreatDoor
open Go
open room files
namespace files
theorem textF_lenF (l : Bs) : (textF l).length ≤ 10 + l.length := by
  unfold textF
  rw [List.length_append]
  have := smallF_length l.length
  omega
theorem file_ok {x : Dir} (h : mayD x) {i : Nat} (hi : i < x.fs.length) : x.fs[i].name.length ≤ 32 ∧ (0 ≤ x.fs[i].size ∧ x.fs[i].size ≤ 524288) ∧ x.fs[i].ps.length ≤ 4096 := by
  have ho := h.2.2.2 i hi
  have h1 := ho.1
  unfold nameF at h1
  rw [Bool.and_eq_true, decide_eq_true_iff] at h1
  refine ⟨h1.1.2, ⟨ho.2.2.1, ho.2.2.2.1⟩, ?_⟩
  have h2 := (check_ok h.2.1).2.2.1
  have := allP_step hi
  omega
def fileH (f : File) : Bs := textF f.name ++ [f.size, (f.ps.length : Int)].flatMap numB
theorem pieceB_num (p : Piece) : [p.fr, p.ct].flatMap numB = pieceB p := by simp [pieceB, numB]
theorem fileB_eq (f : File) : fileB f = fileH f ++ f.ps.flatMap pieceB := by
  unfold fileB fileH
  simp [numB, List.append_assoc]
theorem bodyD_eq (l : List File) : bodyD l = smallF l.length ++ l.flatMap fileB := rfl
theorem slots_step (g : Nat) (b : Bs) (i : Nat) : (List.range (i + 1)).flatMap (fun i => put8 g ++ [UInt8.ofNat i] ++ (b.drop (i * 119)).take 119) = (List.range i).flatMap (fun i => put8 g ++ [UInt8.ofNat i] ++ (b.drop (i * 119)).take 119) ++ put8 g ++ [UInt8.ofNat i] ++ (b.drop (i * 119)).take 119 := by
  rw [List.range_succ, List.flatMap_append, List.flatMap_cons, List.flatMap_nil, List.append_nil, List.append_assoc, List.append_assoc, List.append_assoc]
theorem ErrV.zero {lo : Nat} {w : World} {v : Value} {e : Int} (h : ErrV lo w v e) (he : e = 0) : v = .nilIface := by
  rcases h with ⟨_, h⟩ | ⟨h, _⟩
  · exact h
  · exact absurd he h
theorem ErrV.one {lo : Nat} {w : World} {v : Value} {e : Int} (h : ErrV lo w v e) : v.oneCell' = true := by
  rcases h with ⟨_, rfl⟩ | ⟨_, b, u, rfl, _⟩ <;> rfl
theorem lit_byte {w w' : World} {E : TypeId} {cs : List Value} {x : UInt8} (N : New w w' E cs) (hcs : cs = [u8 x]) : tBytes.rep (fun k => k = w.heap.size) w' (.slice (some ⟨w.heap.size, 0, none⟩) 1 1) [x] := by
  subst hcs
  exact Sl.mkBytesB N.blk rfl rfl (Nat.le_refl _) (by show 1 < Lim; decide) rfl
end files
attribute [local irreducible] checkD writeF smallF textF put8 fileB pieceB fileH
theorem writeD_fn {lo : Nat} {w : World} {p q r : Nat} {v u vb : Value} {e : Int} (hg : GOK w) (hE : ErrV lo w v e) (hp : Blk w p 113 [v]) (hq : Blk w q 25 [u]) (hr : Blk w r 43 [vb]) (hqr : ¬ q = r) : FnD Tryz.prog 74 ([] ++ [.pointer (some ⟨p, 0, none⟩), .pointer (some ⟨q, 0, none⟩), .pointer (some ⟨r, 0, none⟩)]) w (fun x w2 => x = .tuple #[] ∧ Blk w2 q 25 [i64 e] ∧ Blk w2 r 43 [if e = 0 then vb else .slice none 0 0] ∧ Ext (fun k => k = q ∨ k = r) w w2) := by
  refine FnD.enter (fun w => Tryz.call74 _ w) Tryz.func74 rfl ?_
  refine .seq (.region ?_)
  refine .p rfl rfl (.load rfl rfl rfl (hp.cell 0)) ?_
  refine .call (first := []) (captured := []) rfl rfl rfl rfl (number_fn hg hE) ?_
  rintro _ w4 ⟨rfl, X4⟩
  have Q4 := hq.ext X4 (fun x => x)
  have R4 := hr.ext X4 (fun x => x)
  refine .s rfl (.store rfl rfl rfl rfl rfl Q4 (by simp)) ?_
  intro w5 P5
  have Q5 : Blk w5 q 25 [i64 e] := P5.blk
  have R5 := R4.ext P5.ext (fun h => hqr (Eq.symm h))
  have X5 : Ext (fun k => k = q ∨ k = r) w w5 := (X4.mono (fun _ _ h => h.elim)).trans (P5.ext.mono (fun k _ h => .inl h))
  refine .nil (.code (.seq (.keep [(1, _), (2, _)] ⟨rfl, rfl, trivial⟩ (.region ?_))))
  refine .p rfl rfl (.load rfl rfl rfl (Q5.cell 0)) ?_
  refine .p rfl rfl (.ne rfl rfl) ?_
  refine .nil (.code (.keep [(6, _), (2, _)] ⟨rfl, rfl, trivial⟩ ?_))
  refine .condD rfl (fun c6 => ?_) (fun c6 => ?_)
  · refine .keep [(2, _)] ⟨rfl, trivial⟩ (.region ?_)
    refine .s rfl (.store rfl rfl rfl rfl rfl R5 (by simp)) ?_
    intro w6 P6
    refine .nil ?_
    refine .fin [] rfl ?_
    first | (rw [if_neg c6]; exact ⟨rfl, Q5.ext P6.ext hqr, P6.blk, X5.trans (P6.ext.mono (fun k _ h => .inr h))⟩) | (rw [if_pos (Decidable.not_not.1 c6)]; exact ⟨rfl, Q5, R5, X5⟩)
  · refine .skip ?_
    refine .fin [] rfl ?_
    first | (rw [if_neg c6]; exact ⟨rfl, Q5.ext P6.ext hqr, P6.blk, X5.trans (P6.ext.mono (fun k _ h => .inr h))⟩) | (rw [if_pos (Decidable.not_not.1 c6)]; exact ⟨rfl, Q5, R5, X5⟩)
theorem FWrite_fn {w : World} {v : Value} {x : Dir} (h : tDir.rep All w v x) (hp : (allP x.fs).length ≤ 1000000) (hg : GOK w) : Fn Tryz.prog 48 [v] w (fun r w2 => ∃ v', r = .tuple #[v', i64 (writeF x).2] ∧ Gr w2 v' (writeF x).1 w.heap.size ∧ Ext (fun _ => False) w w2) := by
  obtain ⟨a, cap, rfl, hf, hgen⟩ := tDir.val h
  have hlim := Sl.lim hf
  simp only [Lim] at hlim
  refine Fn.enterD (fun w => Tryz.call48 _ w) Tryz.func48 rfl ?_
  refine .seq (.region ?_)
  refine .v rfl rfl (.box rfl) ?_
  rintro _ w1 ⟨rfl, N1⟩
  refine .v rfl rfl (.alloc rfl rfl) ?_
  rintro _ w2 ⟨rfl, N2⟩
  refine .v rfl rfl (.alloc rfl rfl) ?_
  rintro _ w3 ⟨rfl, N3⟩
  refine .nil (.code (.seq (.keep [(3, _), (2, _), (1, _)] ⟨rfl, rfl, rfl, trivial⟩ (.region ?_))))
  refine .v rfl rfl (.alloc rfl rfl) ?_
  rintro _ w4 ⟨rfl, N4⟩
  have z1 := N1.size
  have z2 := N2.size
  have z3 := N3.size
  have z4 := N4.size
  have X4 : Ext (fun _ => False) w w4 := N1.ext.trans (N2.ext.trans (N3.ext.trans N4.ext))
  have D4 := N1.blk.ext (N2.ext.trans (N3.ext.trans N4.ext)) (fun x => x)
  have B4 := N2.blk.ext (N3.ext.trans N4.ext) (fun x => x)
  have C4 := N3.blk.ext N4.ext (fun x => x)
  refine .nil (.code (.seq (.region ?_)))
  refine .p rfl rfl (.makeFunc rfl rfl) ?_
  refine .defer rfl rfl rfl ?_
  refine .nil (.code (.seq (.seq (.keep [(4, _), (3, _), (2, _), (1, _)] ⟨rfl, rfl, rfl, rfl, trivial⟩ (.region ?_)))))
  refine .p rfl rfl (.loadA (n := 2) rfl rfl rfl rfl rfl D4.cells) ?_
  refine .call (first := []) (captured := []) rfl rfl rfl rfl (check_fn (tDir.ext0 h X4) hp) ?_
  rintro r14 w14 ⟨G14, X14⟩
  have z14 := X14.size
  refine .s rfl (.store rfl rfl rfl rfl G14.one (N4.blk.ext X14 (fun x => x)) (by decide)) ?_
  intro ws Ps
  have zs := Ps.size
  have Es : Blk ws w3.heap.size 113 [r14] := Ps.blk
  have hX : Ext (fun _ => False) w ws := (X4.trans X14).then Ps.ext (by rintro k rfl _; omega)
  have Ds := (D4.ext X14 (fun x => x)).ext Ps.ext (fun h => by have h : w.heap.size = w3.heap.size := h; omega)
  have Bq := (B4.ext X14 (fun x => x)).ext Ps.ext (fun h => by have h : w1.heap.size = w3.heap.size := h; omega)
  have Cs := (C4.ext X14 (fun x => x)).ext Ps.ext (fun h => by have h : w2.heap.size = w3.heap.size := h; omega)
  have Gs := G14.ext Ps.ext (fun k hk _ h => by have h : k = w3.heap.size := h; omega)
  have gs := hg.ext0 hX
  refine .nil (.code (.seq (.keep [(4, _), (3, _), (2, _), (1, _)] ⟨rfl, rfl, rfl, rfl, trivial⟩ (.region ?_))))
  refine .p rfl rfl (.load rfl rfl rfl (Es.cell 0)) ?_
  refine .p rfl rfl (.neErr Gs rfl rfl) ?_
  refine .nil (.code (.keep [(16, _), (4, _), (3, _), (2, _), (1, _)] ⟨rfl, rfl, rfl, rfl, rfl, trivial⟩ ?_))
  refine .condD rfl (fun c16 => ?_) (fun c16 => ?_)
  · refine .retD (args := []) (writeD_fn gs Gs Es Cs Bq (by omega)) ?_
    rintro r wd ⟨rfl, Q, R, X⟩
    rw [if_neg c16] at R
    refine ⟨[.slice none 0 0, i64 (checkD x)], .cell rfl rfl rfl (R.cell 0) (.cell rfl rfl rfl (Q.cell 0) .nil), .slice none 0 0, ?_, ?_, hX.then X (fun k h _ => by omega)⟩
    · rw [writeF_e c16]; rfl
    · rw [writeF_e c16]; exact OwnO.nil
  · have hc0 : checkD x = 0 := Decidable.not_not.1 c16
    obtain rfl := Gs.zero hc0
    obtain ⟨hm0, hm⟩ := checkD_ok hc0
    refine .skip (.code (.seq (.keep [(4, _), (3, _), (2, _), (1, _)] ⟨rfl, rfl, rfl, rfl, trivial⟩ (.region ?_))))
    refine .v rfl rfl (.alloc rfl rfl) ?_
    rintro _ w5 ⟨rfl, N5⟩
    have z5 := N5.size
    have D5 := Ds.ext N5.ext (fun x => x)
    refine .nil (.code (.seq (.region ?_)))
    refine .p rfl rfl (.makeFunc rfl rfl) ?_
    refine .p rfl rfl (.as rfl) ?_
    refine .nil (.code (.seq (.keep [(6, _), (5, _), (4, _), (3, _), (2, _), (1, _)] ⟨rfl, rfl, rfl, rfl, rfl, rfl, trivial⟩ (.region ?_))))
    refine .p rfl rfl (.mv rfl) ?_
    refine .p rfl rfl (.fieldAddr rfl rfl rfl rfl) ?_
    refine .p rfl rfl (.load rfl rfl rfl (D5.cell 1)) ?_
    refine .p rfl rfl (.len rfl rfl) ?_
    refine .v rfl rfl (.lits rfl rfl (fun _ => by kernel_rfl)) ?_
    rintro _ w22 ⟨rfl, N22⟩
    have z22 := N22.size
    refine .call (first := []) (captured := [.pointer (some ⟨ws.heap.size, 0, none⟩)]) rfl rfl rfl rfl (put_fn (l := [(x.fs.length : Int)]) (acc := []) (B := fun _ => False) (Sl.mkInts N22.blk rfl (by intro n hn; simp at hn; omega) (fun h => h.elim (fun h => by omega) (fun h => h)) (Nat.le_refl _) (by simp [Lim]) rfl) (by intro n hn; simp at hn; omega) (by simp) (by first | (simp; done) | (simp; omega) | omega) (((N5.blk.ext N22.ext (fun x => x)))) (OwnO.nil) (fun h => h)) ?_
    rintro _ w23 ⟨v23, rfl, C23, O23, X23⟩
    have z23 := X23.size
    have Y23 : Ext (fun k => k = ws.heap.size) w5 w23 := (N22.ext.mono (fun _ _ h => h.elim)).trans (X23.mono (fun k _ h => h.elim id (fun h => h.elim)))
    refine .nil (.code (.seq (.seq (.keep [(6, _), (5, _), (4, _), (3, _), (2, _), (1, _)] ⟨rfl, rfl, rfl, rfl, rfl, rfl, trivial⟩ (.region ?_)))))
    refine .p rfl rfl (.fieldAddr rfl rfl rfl rfl) ?_
    refine .p rfl rfl (.load rfl rfl rfl ((D5.ext Y23 (fun h => by have h : w.heap.size = ws.heap.size := h; omega)).cell 1)) ?_
    refine .p rfl rfl (.len rfl rfl) ?_
    refine .p rfl rfl (.mv rfl) ?_
    refine .nil (.code (.block (.keep [(27, _), (26, _), (25, _), (6, _), (5, _), (4, _), (3, _), (2, _), (1, _)] ⟨rfl, rfl, rfl, rfl, rfl, rfl, rfl, rfl, rfl, trivial⟩ ?_)))
    refine .loop (S := Nat × Bs × Value × (Nat → Prop) × World) (fun s => [(1, .pointer (some ⟨w.heap.size, 0, none⟩)), (2, .pointer (some ⟨w1.heap.size, 0, none⟩)), (3, .pointer (some ⟨w2.heap.size, 0, none⟩)), (4, .pointer (some ⟨w3.heap.size, 0, none⟩)), (5, .pointer (some ⟨ws.heap.size, 0, none⟩)), (6, .func (.func 77) #[] ([.pointer (some ⟨ws.heap.size, 0, none⟩)] : List Value).toArray), (25, .slice a x.fs.length cap), (26, i64 x.fs.length), (27, i64 s.1)]) (fun s => s.2.2.2.2) (fun s => s.1 ≤ x.fs.length ∧ s.2.1 = smallF x.fs.length ++ (x.fs.take s.1).flatMap fileB ∧ s.2.1.length ≤ 10 + 100000 * s.1 ∧ Blk s.2.2.2.2 ws.heap.size 43 [s.2.2.1] ∧ OwnO tByte (fun _ => False) 5 s.2.2.2.2 s.2.2.1 s.2.1 s.2.2.2.1 ∧ (∀ k, s.2.2.2.1 k → ws.heap.size < k ∧ k < s.2.2.2.2.heap.size) ∧ Ext (fun k => k = ws.heap.size) w5 s.2.2.2.2) (fun s => x.fs.length - s.1) (0, [] ++ [(x.fs.length : Int)].flatMap numB, v23, fun k => w22.heap.size ≤ k ∧ k < w23.heap.size, w23) ⟨rfl, rfl, rfl, rfl, rfl, rfl, rfl, rfl, rfl, trivial⟩ rfl ⟨Nat.zero_le _, by simp [numB], by have := smallF_length x.fs.length; simp [numB]; omega, C23, OwnO.mono O23 (fun _ h _ => h) (fun k h hl => ⟨h.elim (fun h => h.elim) id, hl⟩), fun k h => ⟨by have := h.1; omega, h.2⟩, Y23⟩ ?_
    rintro ⟨i, acc, vi, B, wi⟩ J ⟨hi', ha, hal, hC, hO, hB, hXi⟩ again
    simp only at hi' ha hal hC hO hB hXi
    have zi := hXi.size
    have hY : Ext (fun _ => False) w wi := (hX.trans N5.ext).then hXi (by rintro k rfl _; omega)
    change G _ [(1, .pointer (some ⟨w.heap.size, 0, none⟩)), (2, .pointer (some ⟨w1.heap.size, 0, none⟩)), (3, .pointer (some ⟨w2.heap.size, 0, none⟩)), (4, .pointer (some ⟨w3.heap.size, 0, none⟩)), (5, .pointer (some ⟨ws.heap.size, 0, none⟩)), (6, .func (.func 77) #[] ([.pointer (some ⟨ws.heap.size, 0, none⟩)] : List Value).toArray), (25, .slice a x.fs.length cap), (26, i64 x.fs.length), (27, i64 i)] _ _ wi
    refine .seq (.region ?_)
    refine .p rfl rfl (.lt rfl rfl) ?_
    refine .nil (.code (.seq ?_))
    refine .condD rfl (fun c28 => ?_) (fun c28 => ?_)
    · have hi : i < x.fs.length := by omega
      obtain ⟨b1, o1, q1, ue1, e1, _, hcs1, hre1⟩ := Sl.at hf (List.getElem?_eq_getElem hi)
      cases e1
      obtain ⟨fa1, fc1, rfl, hps1, hnm1, hsz1⟩ := tFile.val hre1
      refine .skip (.code (.seq (.block (.seq (.keep [(1, _), (2, _), (3, _), (4, _), (5, _), (6, _), (25, _), (26, _), (27, _)] ⟨rfl, rfl, rfl, rfl, rfl, rfl, rfl, rfl, rfl, trivial⟩ (.region ?_))))))
      refine .p rfl rfl (.indexAddr (s := 3) rfl rfl rfl rfl (by omega)) ?_
      refine .p rfl rfl (.loadA (n := 3) rfl rfl rfl rfl rfl (hcs1.ext hY (fun x => x))) ?_
      refine .v rfl rfl (.alloc rfl rfl) ?_
      rintro _ w8 ⟨rfl, N8⟩
      refine .s rfl (.storeAll (n := 3) rfl rfl rfl rfl rfl N8.blk rfl) ?_
      intro w10 P10
      have z10 : w10.heap.size = wi.heap.size + 1 := by rw [P10.size, N8.size]
      have y10 := N8.ext.then P10.ext (by rintro k rfl _; exact Nat.le_refl _)
      have B10 := P10.blk
      have C10 := hC.ext y10 (fun x => x)
      have O10 := OwnO.mono (OwnO.ext0 hO y10) (fun _ h _ => h) (B' := fun k => B k ∨ w10.heap.size ≤ k) (fun k h _ => .inl h)
      have hn5 : ¬ (B ws.heap.size ∨ w10.heap.size ≤ ws.heap.size) := fun h => h.elim (fun h => by have := hB _ h; omega) (fun h => by omega)
      have hn8 : ¬ (B wi.heap.size ∨ w10.heap.size ≤ wi.heap.size) := fun h => h.elim (fun h => by have := hB _ h; omega) (fun h => by omega)
      obtain ⟨hnl, hsl, hpl⟩ := file_ok hm hi
      have htl := textF_lenF x.fs[i].name
      refine .nil (.code (.seq (.keep [(8, _), (1, _), (2, _), (3, _), (4, _), (5, _), (6, _), (25, _), (26, _), (27, _)] ⟨rfl, rfl, rfl, rfl, rfl, rfl, rfl, rfl, rfl, rfl, trivial⟩ (.mix ((fun k => B k ∨ w10.heap.size ≤ k)) [3, 4, 5] (by kernel_rfl) (by kernel_rfl) (by kernel_rfl) ?_))))
      refine .p rfl rfl rfl (fun wx hx => .load rfl rfl rfl ((C10.ext hx hn5).cell 0)) ?_
      refine .p rfl rfl rfl (fun wx hx => .fieldAddr rfl rfl rfl rfl) ?_
      refine .p rfl rfl rfl (fun wx hx => .load rfl rfl rfl ((B10.ext hx hn8).cell 0)) ?_
      refine .call (first := []) (captured := []) rfl rfl rfl rfl rfl (Text_fn (by simp only [Lim]; omega) (by simp only [Lim]; omega)) (by rintro _ _ ⟨_, hx⟩; exact hx.mono (fun _ _ h => h.elim)) ?_
      rintro r34 w34 ⟨G34, X34⟩
      have z34 : w10.heap.size ≤ w34.heap.size := X34.size
      refine .v rfl rfl rfl (.appendLo (t := tByte) (eb := 1) rfl (OwnO.ext0 O10 X34) (fun k hk => .inr (by omega)) rfl (Gr.holds (Gr.rep G34)) rfl rfl rfl rfl rfl rfl rfl (by simp; omega) (by simp [Lim]; omega) (fun _ h _ => h.elim)) (by rintro _ _ ⟨_, hx⟩; exact (X34.mono (fun _ _ h => h.elim)).trans hx) ?_
      rintro r35 w35 ⟨G35, Y35⟩
      have z35 : w34.heap.size ≤ w35.heap.size := Y35.size
      have C35 := ((C10.ext X34 (fun h => h)).ext Y35 hn5)
      have B35 := ((B10.ext X34 (fun h => h)).ext Y35 hn8)
      obtain ⟨a35, cap35, rfl, hc35⟩ := OwnO.val G35
      refine .sL rfl rfl (.store rfl rfl rfl rfl rfl C35 (by simp)) (by kernel_rfl) ?_
      intro w11 P11
      have z11 := P11.size
      have C11 : Blk w11 ws.heap.size 43 [.slice a35 (acc ++ textF x.fs[i].name).length cap35] := P11.blk
      have B11 := B35.ext P11.ext (fun h => by have h : wi.heap.size = ws.heap.size := h; omega)
      have O11 := OwnO.mono (OwnO.ext G35 P11.ext (fun k hk _ (he : k = ws.heap.size) => hn5 (he ▸ hk)) (fun _ h _ => h.elim)) (fun _ h _ => h) (B' := fun k => (B k ∨ w10.heap.size ≤ k) ∧ k < w11.heap.size) (fun k h hl => ⟨h, hl⟩)
      have hB11 : ∀ k, (B k ∨ w10.heap.size ≤ k) ∧ k < w11.heap.size → ws.heap.size < k ∧ k < w11.heap.size := fun k h => ⟨h.1.elim (fun h => (hB k h).1) (fun h => by omega), h.2⟩
      have hX11 : Ext (fun k => k = ws.heap.size) w5 w11 := (((hXi.trans (y10.mono (fun _ _ h => h.elim))).trans (X34.mono (fun _ _ h => h.elim))).and Y35 (fun k h hk => h.elim (fun h => by have := hB k h; omega) (fun h => by omega))).and P11.ext (fun k h _ => h)
      refine .nil (.code (.seq (.keep [(8, _), (1, _), (2, _), (3, _), (4, _), (5, _), (6, _), (25, _), (26, _), (27, _)] ⟨rfl, rfl, rfl, rfl, rfl, rfl, rfl, rfl, rfl, rfl, trivial⟩ (.region ?_))))
      refine .p rfl rfl (.mv rfl) ?_
      refine .p rfl rfl (.fieldAddr rfl rfl rfl rfl) ?_
      refine .p rfl rfl (.load rfl rfl rfl (B11.cell 1)) ?_
      refine .p rfl rfl (.fieldAddr rfl rfl rfl rfl) ?_
      refine .p rfl rfl (.load rfl rfl rfl (B11.cell 2)) ?_
      refine .p rfl rfl (.len rfl rfl) ?_
      refine .v rfl rfl (.lits rfl rfl (fun _ => by kernel_rfl)) ?_
      rintro _ w42 ⟨rfl, N42⟩
      have z42 := N42.size
      refine .call (first := []) (captured := [.pointer (some ⟨ws.heap.size, 0, none⟩)]) rfl rfl rfl rfl (put_fn (l := [x.fs[i].size, (x.fs[i].ps.length : Int)]) (acc := acc ++ textF x.fs[i].name) (B := fun k => (B k ∨ w10.heap.size ≤ k) ∧ k < w11.heap.size) (Sl.mkInts N42.blk rfl (by intro n hn; simp at hn; omega) (fun h => h.elim (fun h => by omega) (fun h => by have := hB11 _ h; omega)) (Nat.le_refl _) (by simp [Lim]) rfl) (by intro n hn; simp at hn; omega) (by simp) (by first | (simp; done) | (simp; omega) | omega) ((C11.ext N42.ext (fun x => x))) (OwnO.ext0 O11 N42.ext) (fun h => by have := hB11 _ h; omega)) ?_
      rintro _ w43 ⟨v43, rfl, C43, O43, X43⟩
      have z43 := X43.size
      have hn43 : ¬ (wi.heap.size = ws.heap.size ∨ (B wi.heap.size ∨ w10.heap.size ≤ wi.heap.size) ∧ wi.heap.size < w11.heap.size) := fun h => h.elim (fun h => by omega) (fun h => hn8 h.1)
      refine .nil (.code (.seq (.keep [(8, _), (1, _), (2, _), (3, _), (4, _), (5, _), (6, _), (25, _), (26, _), (27, _)] ⟨rfl, rfl, rfl, rfl, rfl, rfl, rfl, rfl, rfl, rfl, trivial⟩ (.region ?_))))
      refine .p rfl rfl (.fieldAddr rfl rfl rfl rfl) ?_
      refine .p rfl rfl (.load rfl rfl rfl (((B11.ext N42.ext (fun x => x)).ext X43 hn43).cell 2)) ?_
      refine .p rfl rfl (.len rfl rfl) ?_
      refine .p rfl rfl (.mv rfl) ?_
      refine .nil (.code (.block (.keep [(47, _), (46, _), (45, _), (1, _), (2, _), (3, _), (4, _), (5, _), (6, _), (25, _), (26, _), (27, _)] ⟨rfl, rfl, rfl, rfl, rfl, rfl, rfl, rfl, rfl, rfl, rfl, rfl, trivial⟩ ?_)))
      refine .loop (S := Nat × Bs × Value × (Nat → Prop) × World) (fun s => [(1, .pointer (some ⟨w.heap.size, 0, none⟩)), (2, .pointer (some ⟨w1.heap.size, 0, none⟩)), (3, .pointer (some ⟨w2.heap.size, 0, none⟩)), (4, .pointer (some ⟨w3.heap.size, 0, none⟩)), (5, .pointer (some ⟨ws.heap.size, 0, none⟩)), (6, .func (.func 77) #[] ([.pointer (some ⟨ws.heap.size, 0, none⟩)] : List Value).toArray), (25, .slice (some ⟨b1, o1, none⟩) x.fs.length cap), (26, i64 x.fs.length), (27, i64 i), (45, .slice fa1 x.fs[i].ps.length fc1), (46, i64 x.fs[i].ps.length), (47, i64 s.1)]) (fun s => s.2.2.2.2) (fun s => s.1 ≤ x.fs[i].ps.length ∧ s.2.1 = (acc ++ textF x.fs[i].name ++ [x.fs[i].size, (x.fs[i].ps.length : Int)].flatMap numB) ++ (x.fs[i].ps.take s.1).flatMap pieceB ∧ s.2.1.length ≤ acc.length + 80 + 20 * s.1 ∧ Blk s.2.2.2.2 ws.heap.size 43 [s.2.2.1] ∧ OwnO tByte (fun _ => False) 5 s.2.2.2.2 s.2.2.1 s.2.1 s.2.2.2.1 ∧ (∀ k, s.2.2.2.1 k → ws.heap.size < k ∧ k < s.2.2.2.2.heap.size) ∧ Ext (fun k => k = ws.heap.size) w5 s.2.2.2.2) (fun s => x.fs[i].ps.length - s.1) (0, _, v43, fun k => ((((B k ∨ w10.heap.size ≤ k) ∧ k < w11.heap.size) ∨ w42.heap.size ≤ k)) ∧ k < w43.heap.size, w43) ⟨rfl, rfl, rfl, rfl, rfl, rfl, rfl, rfl, rfl, rfl, rfl, rfl, trivial⟩ rfl ⟨Nat.zero_le _, (List.append_nil _).symm, by have h1 := smallF_length x.fs[i].size.toNat; have h2 := smallF_length x.fs[i].ps.length; simp [numB]; omega, C43, OwnO.mono O43 (fun _ h _ => h) (fun k h hl => ⟨h, hl⟩), fun k h => ⟨h.1.elim (fun h => (hB11 k h).1) (fun h => by omega), h.2⟩, (hX11.trans (N42.ext.mono (fun _ _ h => h.elim))).and X43 (fun k h hk => h.elim id (fun h => by have := hB11 k h; omega))⟩ ?_
      rintro ⟨j, accj, vj, Bj, wj⟩ J ⟨hj', haj, halj, hCj, hOj, hBj, hXj⟩ againj
      simp only at hj' haj halj hCj hOj hBj hXj
      have zj := hXj.size
      have hYj : Ext (fun _ => False) w wj := (hX.trans N5.ext).then hXj (by rintro k rfl _; omega)
      change G _ [(1, .pointer (some ⟨w.heap.size, 0, none⟩)), (2, .pointer (some ⟨w1.heap.size, 0, none⟩)), (3, .pointer (some ⟨w2.heap.size, 0, none⟩)), (4, .pointer (some ⟨w3.heap.size, 0, none⟩)), (5, .pointer (some ⟨ws.heap.size, 0, none⟩)), (6, .func (.func 77) #[] ([.pointer (some ⟨ws.heap.size, 0, none⟩)] : List Value).toArray), (25, .slice (some ⟨b1, o1, none⟩) x.fs.length cap), (26, i64 x.fs.length), (27, i64 i), (45, .slice fa1 x.fs[i].ps.length fc1), (46, i64 x.fs[i].ps.length), (47, i64 j)] _ _ wj
      refine .seq (.region ?_)
      refine .p rfl rfl (.lt rfl rfl) ?_
      refine .nil (.code (.seq ?_))
      refine .condD rfl (fun c48 => ?_) (fun c48 => ?_)
      · have hj : j < x.fs[i].ps.length := by omega
        obtain ⟨b3, o3, q3, ue3, e3, _, hcs3, hre3⟩ := Sl.at hps1 (List.getElem?_eq_getElem hj)
        cases e3
        obtain ⟨rfl, hp1, hp2⟩ := tPiece.val hre3
        refine .skip (.code (.seq (.block (.seq (.keep [(1, _), (2, _), (3, _), (4, _), (5, _), (6, _), (25, _), (26, _), (27, _), (45, _), (46, _), (47, _)] ⟨rfl, rfl, rfl, rfl, rfl, rfl, rfl, rfl, rfl, rfl, rfl, rfl, trivial⟩ (.region ?_))))))
        refine .p rfl rfl (.indexAddr (s := 2) rfl rfl rfl rfl (by omega)) ?_
        refine .p rfl rfl (.loadA (n := 2) rfl rfl rfl rfl rfl (hcs3.ext hYj (fun x => x))) ?_
        refine .v rfl rfl (.alloc rfl rfl) ?_
        rintro _ w10p ⟨rfl, N10⟩
        refine .s rfl (.storeAll (n := 2) rfl rfl rfl rfl rfl N10.blk rfl) ?_
        intro w15 P15
        have z15 : w15.heap.size = wj.heap.size + 1 := by rw [P15.size, N10.size]
        have y15 := N10.ext.then P15.ext (by rintro k rfl _; exact Nat.le_refl _)
        have B15 := P15.blk
        have C15 := hCj.ext y15 (fun x => x)
        have O15 := OwnO.ext0 hOj y15
        obtain ⟨hq1, hq2, hq3, hq4⟩ := piece_ok hm (List.getElem_mem hi) (List.getElem_mem hj)
        refine .nil (.code (.keep [(10, _), (1, _), (2, _), (3, _), (4, _), (5, _), (6, _), (25, _), (26, _), (27, _), (45, _), (46, _), (47, _)] ⟨rfl, rfl, rfl, rfl, rfl, rfl, rfl, rfl, rfl, rfl, rfl, rfl, rfl, trivial⟩ (.region ?_)))
        refine .p rfl rfl (.mv rfl) ?_
        refine .p rfl rfl (.fieldAddr rfl rfl rfl rfl) ?_
        refine .p rfl rfl (.load rfl rfl rfl (B15.cell 0)) ?_
        refine .p rfl rfl (.fieldAddr rfl rfl rfl rfl) ?_
        refine .p rfl rfl (.load rfl rfl rfl (B15.cell 1)) ?_
        refine .v rfl rfl (.lits rfl rfl (fun _ => by kernel_rfl)) ?_
        rintro _ w56 ⟨rfl, N56⟩
        have z56 := N56.size
        refine .call (first := []) (captured := [.pointer (some ⟨ws.heap.size, 0, none⟩)]) rfl rfl rfl rfl (put_fn (l := [x.fs[i].ps[j].fr, x.fs[i].ps[j].ct]) (acc := accj) (B := Bj) (Sl.mkInts N56.blk rfl (by intro n hn; simp at hn; omega) (fun h => h.elim (fun h => by omega) (fun h => by have := hBj _ h; omega)) (Nat.le_refl _) (by simp [Lim]) rfl) (by intro n hn; simp at hn; omega) (by simp) (by first | (simp; done) | (simp; omega) | omega) ((C15.ext N56.ext (fun x => x))) (OwnO.ext0 O15 N56.ext) (fun h => by have := hBj _ h; omega)) ?_
        rintro _ w57 ⟨v57, rfl, C57, O57, X57⟩
        have z57 := X57.size
        refine .nil (.blk (.code (.keep [(1, _), (2, _), (3, _), (4, _), (5, _), (6, _), (25, _), (26, _), (27, _), (45, _), (46, _), (47, _)] ⟨rfl, rfl, rfl, rfl, rfl, rfl, rfl, rfl, rfl, rfl, rfl, rfl, trivial⟩ (.region ?_))))
        refine .p rfl rfl (.add rfl rfl (by omega)) ?_
        refine .p rfl rfl (.mv rfl) ?_
        refine .nil ?_
        have hXn : Ext (fun k => k = ws.heap.size) w5 w57 := (hXj.trans ((y15.trans N56.ext).mono (fun _ _ h => h.elim))).and X57 (fun k h hk => h.elim id (fun h => by have := hBj k h; omega))
        refine (againj (j + 1, accj ++ [x.fs[i].ps[j].fr, x.fs[i].ps[j].ct].flatMap numB, v57, fun k => (Bj k ∨ w56.heap.size ≤ k) ∧ k < w57.heap.size, w57) ⟨by show j + 1 ≤ _; omega, ?_, ?_, C57, OwnO.mono O57 (fun _ h _ => h) (fun k h hl => ⟨h, hl⟩), fun k h => ⟨h.1.elim (fun h => (hBj k h).1) (fun h => by omega), h.2⟩, hXn⟩ (by show _ - (j + 1) < _ - j; omega)).of ⟨rfl, rfl, rfl, rfl, rfl, rfl, rfl, rfl, rfl, rfl, rfl, rfl, trivial⟩
        · show accj ++ _ = _
          rw [haj, pieces_step hj, pieceB_num, List.append_assoc]
        · have h1 := smallF_length x.fs[i].ps[j].fr.toNat
          have h2 := smallF_length x.fs[i].ps[j].ct.toNat
          show (accj ++ _).length ≤ acc.length + 80 + 20 * (j + 1)
          simp [numB]
          omega
      · obtain rfl : j = x.fs[i].ps.length := by omega
        rw [List.take_length] at haj
        refine .exit rfl (.blk (.code (.keep [(1, _), (2, _), (3, _), (4, _), (5, _), (6, _), (25, _), (26, _), (27, _)] ⟨rfl, rfl, rfl, rfl, rfl, rfl, rfl, rfl, rfl, trivial⟩ (.region ?_))))
        refine .p rfl rfl (.add rfl rfl (by omega)) ?_
        refine .p rfl rfl (.mv rfl) ?_
        refine .nil ?_
        refine (again (i + 1, accj, vj, Bj, wj) ⟨by show i + 1 ≤ _; omega, ?_, by show accj.length ≤ 10 + 100000 * (i + 1); omega, hCj, hOj, hBj, hXj⟩ (by show _ - (i + 1) < _ - i; omega)).of ⟨rfl, rfl, rfl, rfl, rfl, rfl, rfl, rfl, rfl, trivial⟩
        show accj = _
        rw [haj, ha, files_step hi, fileB_eq x.fs[i]]
        simp [fileH, List.append_assoc]
    · obtain rfl : i = x.fs.length := by omega
      rw [List.take_length, ← bodyD_eq] at ha
      have E6 := (Es.ext N5.ext (fun x => x)).ext hXi (fun h => by have h : w3.heap.size = ws.heap.size := h; omega)
      obtain ⟨a60, c60, rfl, hc60⟩ := OwnO.val hO
      have hn68 : ¬ (B ws.heap.size ∨ wi.heap.size ≤ ws.heap.size) := fun h => h.elim (fun h => by have := hB _ h; omega) (fun h => by omega)
      refine .exit rfl (.code (.seq (.seq (.keep [(1, _), (2, _), (3, _), (4, _), (5, _)] ⟨rfl, rfl, rfl, rfl, rfl, trivial⟩ (.region ?_)))))
      refine .p rfl rfl (.load rfl rfl rfl (hC.cell 0)) ?_
      refine .p rfl rfl (.len rfl rfl) ?_
      refine .p rfl rfl (.gt rfl rfl) ?_
      refine .nil (.code (.keep [(62, _), (1, _), (2, _), (3, _), (4, _), (5, _)] ⟨rfl, rfl, rfl, rfl, rfl, rfl, trivial⟩ ?_))
      refine .condD rfl (fun c62 => ?_) (fun c62 => ?_)
      · refine .seq (.keep [(2, _), (3, _), (4, _)] ⟨rfl, rfl, rfl, trivial⟩ (.region ?_))
        refine .call (first := []) (captured := []) rfl rfl rfl rfl (fail_fn (e := 42) (by decide)) ?_
        rintro r63 w63 ⟨G63, X63⟩
        refine .s rfl (.store rfl rfl rfl rfl G63.one (E6.ext X63 (fun x => x)) (by decide)) ?_
        intro w20 P20
        have E20 : Blk w20 w3.heap.size 113 [r63] := P20.blk
        have n63 : ∀ k, wi.heap.size ≤ k → ¬ k = w3.heap.size := fun k hk => by omega
        refine .nil (.code ?_)
        have h42 : writeF x = ([], 42) := writeF_42 hc0 (by rw [← ha]; omega)
        have YY : Ext (fun _ => False) w w20 := (hY.trans X63).then P20.ext (by rintro k rfl _; omega)
        have Cz := (((Cs.ext N5.ext (fun x => x)).ext hXi (fun h => by have h : w2.heap.size = ws.heap.size := h; omega)).ext X63 (fun x => x)).ext P20.ext (fun h => by have h : w2.heap.size = w3.heap.size := h; omega)
        have Bz := (((Bq.ext N5.ext (fun x => x)).ext hXi (fun h => by have h : w1.heap.size = ws.heap.size := h; omega)).ext X63 (fun x => x)).ext P20.ext (fun h => by have h : w1.heap.size = w3.heap.size := h; omega)
        refine .retD (args := []) (writeD_fn (hg.ext0 YY) (G63.ext P20.ext (fun k hk _ => n63 k hk)) E20 Cz Bz (by omega)) ?_
        rintro r wd ⟨rfl, Q, R, X⟩
        rw [if_neg (by decide)] at R
        refine ⟨[.slice none 0 0, i64 42], .cell rfl rfl rfl (R.cell 0) (.cell rfl rfl rfl (Q.cell 0) .nil), .slice none 0 0, ?_, ?_, YY.then X (fun k h _ => by omega)⟩
        · rw [h42]; rfl
        · rw [h42]; exact OwnO.nil
      · refine .skip (.code (.seq (.keep [(1, _), (2, _), (3, _), (5, _)] ⟨rfl, rfl, rfl, rfl, trivial⟩ (.region ?_))))
        refine .p rfl rfl (.load rfl rfl rfl (hC.cell 0)) ?_
        refine .p rfl rfl (.load rfl rfl rfl (hC.cell 0)) ?_
        refine .p rfl rfl (.len rfl rfl) ?_
        refine .p rfl rfl (.cast (.sub rfl rfl (by omega)) (show _ = i64 ((952 - acc.length : Nat) : Int) by congr 1; omega)) ?_
        refine .v rfl rfl (.appendZLo rfl (OwnO.mono hO (fun _ h _ => h) (B' := fun k => B k ∨ wi.heap.size ≤ k) (fun k h _ => .inl h)) (fun k hk => .inr hk) rfl rfl rfl rfl rfl rfl rfl (by omega)) ?_
        rintro r68 w68 ⟨G68, X68⟩
        obtain ⟨a68, c68, rfl, hc68⟩ := OwnO.val G68
        have z68 := X68.size
        refine .s rfl (.store rfl rfl rfl rfl rfl (hC.ext X68 hn68) (by simp)) ?_
        intro w21 P21
        have z21 := P21.size
        have F21 : Blk w21 ws.heap.size 43 [.slice a68 (acc ++ List.replicate (952 - acc.length) 0).length c68] := P21.blk
        have hin : (acc ++ List.replicate (952 - acc.length) (0 : UInt8)).length = 952 := by rw [List.length_append, List.length_replicate]; omega
        have R21 : tBytes.rep (fun k => ws.heap.size < k ∧ k < w21.heap.size) w21 (.slice a68 (acc ++ List.replicate (952 - acc.length) 0).length c68) (acc ++ List.replicate (952 - acc.length) 0) := OwnO.rep (OwnO.ext G68 P21.ext (fun k hk _ (he : k = ws.heap.size) => hn68 (he ▸ hk)) (fun _ h _ => h.elim)) (fun k h hl => ⟨h.elim (fun h => (hB k h).1) (fun h => by omega), hl⟩) (fun _ h _ => h.elim)
        generalize hI : acc ++ List.replicate (952 - acc.length) (0 : UInt8) = inn at *
        have X21 : Ext (fun k => k = ws.heap.size) w5 w21 := (hXi.and X68 (fun k h hk => h.elim (fun h => by have := hB k h; omega) (fun h => by omega))).and P21.ext (fun k h _ => h)
        have D21 := D5.ext X21 (fun h => by have h : w.heap.size = ws.heap.size := h; omega)
        have E21 := (Es.ext N5.ext (fun x => x)).ext X21 (fun h => by have h : w3.heap.size = ws.heap.size := h; omega)
        have B21 := (Bq.ext N5.ext (fun x => x)).ext X21 (fun h => by have h : w1.heap.size = ws.heap.size := h; omega)
        have C21 := (Cs.ext N5.ext (fun x => x)).ext X21 (fun h => by have h : w2.heap.size = ws.heap.size := h; omega)
        have Y21 : Ext (fun _ => False) w w21 := (hX.trans N5.ext).then X21 (by rintro k rfl _; omega)
        have z21' := X21.size
        refine .nil (.code (.seq (.seq (.keep [(1, _), (2, _), (3, _), (5, _)] ⟨rfl, rfl, rfl, rfl, trivial⟩ (.region ?_)))))
        refine .p rfl rfl (.mv rfl) ?_
        refine .nil (.code (.block ?_))
        refine .loop (S := Nat × Bs × Value × (Nat → Prop) × World) (fun s => [(1, .pointer (some ⟨w.heap.size, 0, none⟩)), (2, .pointer (some ⟨w1.heap.size, 0, none⟩)), (3, .pointer (some ⟨w2.heap.size, 0, none⟩)), (5, .pointer (some ⟨ws.heap.size, 0, none⟩)), (69, i64 s.1)]) (fun s => s.2.2.2.2) (fun s => s.1 ≤ 8 ∧ s.2.1 = (List.range s.1).flatMap (fun i => put8 x.gen.toNat ++ [UInt8.ofNat i] ++ (inn.drop (i * 119)).take 119) ∧ s.2.1.length ≤ 200 * s.1 ∧ Blk s.2.2.2.2 w1.heap.size 43 [s.2.2.1] ∧ OwnO tByte (fun _ => False) 5 s.2.2.2.2 s.2.2.1 s.2.1 s.2.2.2.1 ∧ (∀ k, s.2.2.2.1 k → w21.heap.size ≤ k ∧ k < s.2.2.2.2.heap.size) ∧ Ext (fun k => k = w1.heap.size) w21 s.2.2.2.2) (fun s => 8 - s.1) (0, [], .slice none 0 0, fun _ => False, w21) ⟨rfl, rfl, rfl, rfl, rfl, trivial⟩ rfl ⟨Nat.zero_le _, rfl, Nat.le_refl _, B21, OwnO.nil, fun _ h => h.elim, .refl _⟩ ?_
        rintro ⟨i, accb, vb, Bb, wi⟩ J ⟨hi', hab, hlb, hC2, hOb, hBb, hXb⟩ again
        simp only at hi' hab hlb hC2 hOb hBb hXb
        have zb := hXb.size
        have hYb : Ext (fun _ => False) w wi := Y21.then hXb (by rintro k rfl _; omega)
        have Di := D21.ext hXb (fun h => by have h : w.heap.size = w1.heap.size := h; omega)
        have Ei := E21.ext hXb (fun h => by have h : w3.heap.size = w1.heap.size := h; omega)
        have Ci := C21.ext hXb (fun h => by have h : w2.heap.size = w1.heap.size := h; omega)
        have Fi := F21.ext hXb (fun h => by have h : ws.heap.size = w1.heap.size := h; omega)
        have Ri := tBytes.ext R21 hXb (fun k hk _ h => by have h : k = w1.heap.size := h; have := hk.1; omega)
        have hn2 : ¬ (Bb w1.heap.size ∨ wi.heap.size ≤ w1.heap.size) := fun h => h.elim (fun h => by have := hBb _ h; omega) (fun h => by omega)
        have hnD : ¬ (Bb w.heap.size ∨ wi.heap.size ≤ w.heap.size) := fun h => h.elim (fun h => by have := hBb _ h; omega) (fun h => by omega)
        have hn5 : ¬ (Bb ws.heap.size ∨ wi.heap.size ≤ ws.heap.size) := fun h => h.elim (fun h => by have := hBb _ h; omega) (fun h => by omega)
        have hB := hBb
        change G _ [(1, .pointer (some ⟨w.heap.size, 0, none⟩)), (2, .pointer (some ⟨w1.heap.size, 0, none⟩)), (3, .pointer (some ⟨w2.heap.size, 0, none⟩)), (5, .pointer (some ⟨ws.heap.size, 0, none⟩)), (69, i64 i)] _ _ wi
        refine .seq (.region ?_)
        refine .p rfl rfl (.lt rfl rfl) ?_
        refine .nil (.code (.seq ?_))
        refine .condD rfl (fun c70 => ?_) (fun c70 => ?_)
        · have hi : i < 8 := by omega
          obtain ⟨hgb1, hgb2⟩ := hm.1
          obtain ⟨a85, c85, hv85, hc85, R85⟩ := Sl.cutE Ri (i * 119) inn.length (by omega) (Nat.le_refl _)
          obtain ⟨a86, c86, hv86, hc86, R86⟩ := Sl.cutE R85 0 119 (by omega) (by omega)
          rw [List.take_length, List.drop_zero] at R86
          have h8 := put8_length x.gen.toNat
          have hpl : ((inn.drop (i * 119)).take 119).length ≤ 119 := by rw [List.length_take]; omega
          refine .skip (.code (.seq (.block (.seq (.keep [(1, _), (2, _), (3, _), (5, _), (69, _)] ⟨rfl, rfl, rfl, rfl, rfl, trivial⟩ (.region ?_))))))
          refine .p rfl rfl (.mv rfl) ?_
          refine .p rfl rfl (.as rfl) ?_
          refine .nil (.code (.keep [(11, _), (1, _), (2, _), (3, _), (5, _), (69, _)] ⟨rfl, rfl, rfl, rfl, rfl, rfl, trivial⟩ ?_))
          refine .tree ((fun k => Bb k ∨ wi.heap.size ≤ k)) [4, 5, 8, 9, 15, 16] (.op 0 (.op 1 (.op 2 (.op 3 (.op 6 (.op 7 (.op 10 (.op 11 (.op 12 (.op 13 (.op 14 (.alt 4 (.op 4 (.alt 5 (.op 5 (.alt 8 (.op 8 (.alt 9 (.op 9 (.alt 15 (.op 15 (.alt 16 (.op 16 (.nil)) (.stop))) (.stop))) (.stop))) (.stop))) (.alt 8 (.op 8 (.alt 5 (.op 5 (.alt 9 (.op 9 (.alt 15 (.op 15 (.alt 16 (.op 16 (.nil)) (.stop))) (.stop))) (.stop))) (.stop))) (.stop)))) (.alt 8 (.op 8 (.alt 4 (.op 4 (.alt 5 (.op 5 (.alt 9 (.op 9 (.alt 15 (.op 15 (.alt 16 (.op 16 (.nil)) (.stop))) (.stop))) (.stop))) (.stop))) (.stop))) (.stop)))))))))))))) (by kernel_rfl) (by kernel_rfl) (by kernel_rfl) ?_
          refine .p rfl rfl rfl rfl (fun wx hx => .load rfl rfl rfl ((hC2.ext hx hn2).cell 0)) ?_
          refine .p rfl rfl rfl rfl (fun wx hx => .fieldAddr rfl rfl rfl rfl) ?_
          refine .p rfl rfl rfl rfl (fun wx hx => .load rfl rfl rfl ((Di.ext hx hnD).cell 0)) ?_
          refine .p rfl rfl rfl rfl (fun wx hx => .cast (.convU rfl rfl rfl (by omega)) (show _ = Value.int .u64 ((x.gen.toNat : Nat) : Int) by rw [Int.toNat_of_nonneg (by omega)])) ?_
          refine .p rfl rfl rfl rfl (fun wx hx => .mv rfl) ?_
          refine .p rfl rfl rfl rfl (fun wx hx => .cast (.convB rfl rfl rfl (by omega)) (show _ = u8 (UInt8.ofNat i) by rw [Int.toNat_natCast])) ?_
          refine .p rfl rfl rfl rfl (fun wx hx => .load rfl rfl rfl ((Fi.ext hx hn5).cell 0)) ?_
          refine .p rfl rfl rfl rfl (fun wx hx => .mv rfl) ?_
          refine .p rfl rfl rfl rfl (fun wx hx => .cast (.mul rfl rfl (by omega)) (show _ = i64 ((i * 119 : Nat) : Int) by congr 1)) ?_
          refine .p rfl rfl rfl rfl (fun wx hx => .cast (.cutLo (s := 1) rfl rfl rfl rfl (by omega)) (show cutV 1 a68 c68 ((i * 119 : Nat) : Int).toNat inn.length = .slice a85 (inn.length - i * 119) c85 by rw [Int.toNat_natCast]; exact hv85)) ?_
          refine .p rfl rfl rfl rfl (fun wx hx => .cast (.cutHi (s := 1) rfl rfl rfl rfl (by omega)) (show cutV 1 a85 c85 0 (119 : Int).toNat = .slice a86 119 c86 from hv86)) ?_
          refine .alt ?_ ?_
          · refine .call (first := []) (captured := []) rfl rfl rfl rfl rfl rfl (Put_fn (n := x.gen.toNat) (by omega)) (by rintro _ _ ⟨_, hx⟩; exact ((Ext.refl _)).trans (hx.mono (fun _ _ h => h.elim))) ?_
            rintro r76 w76 ⟨R76, X76⟩
            have z76 := X76.size
            have hX76 : Ext ((fun k => Bb k ∨ wi.heap.size ≤ k)) _ _ := (Ext.refl _).trans (X76.mono (fun _ _ h => h.elim))
            refine .alt ?_ ?_
            · refine .v rfl rfl rfl rfl (.appendLo (B := fun k => Bb k ∨ w76.heap.size ≤ k) (t := tByte) (eb := 1) rfl (OwnO.mono (by first | exact OwnO.ext0 (OwnO.ext0 hOb X76) N80.ext | exact OwnO.ext0 (OwnO.ext0 hOb N80.ext) X76 | exact OwnO.ext0 hOb X76) (fun _ h _ => h) (fun k h _ => .inl h)) (fun k hk => .inr hk) rfl (Gr.holds (P := All) (by first | exact allOf (tBytes.ext0 R76 N80.ext) | exact allOf R76)) rfl rfl rfl rfl rfl rfl rfl (by simp; omega) (by simp [Lim]; omega) (fun _ h _ => h.elim)) (by rintro _ _ ⟨_, hx⟩; exact (hX76).trans (hx.mono (fun k _ h => by first | exact h.imp id (fun h => by omega) | (rcases h with ⟨h | h, _⟩ | h <;> first | exact .inl h | exact .inr (by omega))))) ?_
              rintro r77 w77 ⟨G77, X77⟩
              have z77 := X77.size
              have G77 := OwnO.mono G77 (fun _ h _ => h) (B' := fun k => (Bb k ∨ w76.heap.size ≤ k) ∧ k < w77.heap.size) (fun k h hl => ⟨h, hl⟩)
              have hX77 : Ext ((fun k => Bb k ∨ wi.heap.size ≤ k)) _ _ := hX76.trans (X77.mono (fun k _ h => by first | exact h.imp id (fun h => by omega) | (rcases h with ⟨h | h, _⟩ | h <;> first | exact .inl h | exact .inr (by omega))))
              refine .alt ?_ ?_
              · refine .v rfl rfl rfl rfl (.lits rfl rfl (fun _ => by kernel_rfl)) (by rintro _ _ ⟨_, hN⟩; exact hX77.trans hN.ext0) ?_
                rintro _ w80 ⟨rfl, N80⟩
                have hX80 : Ext ((fun k => Bb k ∨ wi.heap.size ≤ k)) _ _ := hX77.trans (N80.ext0)
                have z80 := N80.size
                have L80 := lit_byte (x := UInt8.ofNat i) N80 rfl
                refine .alt ?_ ?_
                · refine .v rfl rfl rfl rfl (.appendLo (B := fun k => (Bb k ∨ w76.heap.size ≤ k) ∧ k < w77.heap.size ∨ w80.heap.size ≤ k) (t := tByte) (eb := 1) rfl (OwnO.mono (by first | exact OwnO.ext0 G77 N80.ext | exact G77) (fun _ h _ => h) (fun k h _ => .inl h)) (fun k hk => .inr hk) rfl (Gr.holds (P := All) (by first | exact allOf L80 | exact allOf (tBytes.ext L80 X77 (fun k hk _ h => by have hk : k = w77.heap.size := hk; rcases h with h | h <;> first | (have := hB k h; omega) | omega)) | exact allOf (tBytes.ext (tBytes.ext0 L80 X76) X77 (fun k hk _ h => by have hk : k = w77.heap.size := hk; rcases h with h | h <;> first | (have := hB k h; omega) | omega)))) rfl rfl rfl rfl rfl rfl rfl (by simp; omega) (by simp [Lim]; omega) (fun _ h _ => h.elim)) (by rintro _ _ ⟨_, hx⟩; exact (hX80).trans (hx.mono (fun k _ h => by first | exact h.imp id (fun h => by omega) | (rcases h with ⟨h | h, _⟩ | h <;> first | exact .inl h | exact .inr (by omega))))) ?_
                  rintro r81 w81 ⟨G81, X81⟩
                  have z81 := X81.size
                  have hX81 : Ext ((fun k => Bb k ∨ wi.heap.size ≤ k)) _ _ := hX80.trans (X81.mono (fun k _ h => by first | exact h.imp id (fun h => by omega) | (rcases h with ⟨h | h, _⟩ | h <;> first | exact .inl h | exact .inr (by omega))))
                  refine .alt ?_ ?_
                  · refine .v rfl rfl rfl rfl (.appendLo (t := tByte) (eb := 1) rfl G81 (fun k hk => .inr (by omega)) rfl (Gr.holds (P := All) (allOf (tBytes.ext R86 (hX81) (fun k hk _ h => by rcases h with h | h; (have := (hBb k h); omega); omega)))) rfl rfl rfl rfl rfl rfl rfl (by simp; omega) (by simp [Lim]; omega) (fun _ h _ => h.elim)) (by rintro _ _ ⟨_, hx⟩; exact (hX81).trans (hx.mono (fun k _ h => by first | exact h.imp id (fun h => by omega) | (rcases h with ⟨h | h, _⟩ | h <;> first | exact .inl h | exact .inr (by omega))))) ?_
                    rintro r87 w87 ⟨G87, X87⟩
                    obtain ⟨a87, c87, rfl, hc87⟩ := OwnO.val G87
                    have z87 := X87.size
                    have hX87 : Ext ((fun k => Bb k ∨ wi.heap.size ≤ k)) _ _ := hX81.trans (X87.mono (fun k _ h => by first | exact h.imp id (fun h => by omega) | (rcases h with ⟨h | h, _⟩ | h <;> first | exact .inl h | exact .inr (by omega))))
                    refine .alt ?_ ?_
                    · refine .sL rfl rfl rfl (.store rfl rfl rfl rfl rfl (hC2.ext (hX87) hn2) (by simp)) (by kernel_rfl) ?_
                      intro w25 P25
                      have z25 := P25.size
                      refine .nil (.blk (.code (.keep [(1, _), (2, _), (3, _), (5, _), (69, _)] ⟨rfl, rfl, rfl, rfl, rfl, trivial⟩ (.region ?_))))
                      refine .p rfl rfl (.add rfl rfl (by omega)) ?_
                      refine .p rfl rfl (.mv rfl) ?_
                      refine .nil ?_
                      have zX := hX87.size
                      refine (again (i + 1, accb ++ put8 x.gen.toNat ++ [UInt8.ofNat i] ++ (inn.drop (i * 119)).take 119, _, fun k => w21.heap.size ≤ k ∧ k < w25.heap.size, w25) ⟨by show i + 1 ≤ 8; omega, by show _ = _; rw [hab, slots_step], ?_, P25.blk, OwnO.mono (OwnO.ext G87 P25.ext (fun k hk _ (he : k = w1.heap.size) => by rcases hk with ⟨hk | hk, _⟩ | hk <;> first | (have := hBb k hk; omega) | omega) (fun _ h _ => h.elim)) (fun _ h _ => h) (fun k hk hl => ⟨by rcases hk with ⟨hk | hk, _⟩ | hk <;> first | exact (hBb k hk).1 | omega, hl⟩), fun k h => h, (hXb.and hX87 (fun k h hk => h.elim (fun h => by have := hBb k h; omega) (fun h => by omega))).and P25.ext (fun k h _ => h)⟩ (by show 8 - (i + 1) < 8 - i; omega)).of ⟨rfl, rfl, rfl, rfl, rfl, trivial⟩
                      show (accb ++ _ ++ _ ++ _).length ≤ 200 * (i + 1)
                      simp only [List.length_append, List.length_singleton]
                      omega
                    exact .stop
                  exact .stop
                exact .stop
              exact .stop
            refine .alt ?_ ?_
            · refine .v rfl rfl rfl rfl (.lits rfl rfl (fun _ => by kernel_rfl)) (by rintro _ _ ⟨_, hN⟩; exact hX76.trans hN.ext0) ?_
              rintro _ w80 ⟨rfl, N80⟩
              have hX80 : Ext ((fun k => Bb k ∨ wi.heap.size ≤ k)) _ _ := hX76.trans (N80.ext0)
              have z80 := N80.size
              have L80 := lit_byte (x := UInt8.ofNat i) N80 rfl
              refine .alt ?_ ?_
              · refine .v rfl rfl rfl rfl (.appendLo (B := fun k => Bb k ∨ w80.heap.size ≤ k) (t := tByte) (eb := 1) rfl (OwnO.mono (by first | exact OwnO.ext0 (OwnO.ext0 hOb X76) N80.ext | exact OwnO.ext0 (OwnO.ext0 hOb N80.ext) X76 | exact OwnO.ext0 hOb X76) (fun _ h _ => h) (fun k h _ => .inl h)) (fun k hk => .inr hk) rfl (Gr.holds (P := All) (by first | exact allOf (tBytes.ext0 R76 N80.ext) | exact allOf R76)) rfl rfl rfl rfl rfl rfl rfl (by simp; omega) (by simp [Lim]; omega) (fun _ h _ => h.elim)) (by rintro _ _ ⟨_, hx⟩; exact (hX80).trans (hx.mono (fun k _ h => by first | exact h.imp id (fun h => by omega) | (rcases h with ⟨h | h, _⟩ | h <;> first | exact .inl h | exact .inr (by omega))))) ?_
                rintro r77 w77 ⟨G77, X77⟩
                have z77 := X77.size
                have G77 := OwnO.mono G77 (fun _ h _ => h) (B' := fun k => (Bb k ∨ w80.heap.size ≤ k) ∧ k < w77.heap.size) (fun k h hl => ⟨h, hl⟩)
                have hX77 : Ext ((fun k => Bb k ∨ wi.heap.size ≤ k)) _ _ := hX80.trans (X77.mono (fun k _ h => by first | exact h.imp id (fun h => by omega) | (rcases h with ⟨h | h, _⟩ | h <;> first | exact .inl h | exact .inr (by omega))))
                refine .alt ?_ ?_
                · refine .v rfl rfl rfl rfl (.appendLo (B := fun k => (Bb k ∨ w80.heap.size ≤ k) ∧ k < w77.heap.size ∨ w77.heap.size ≤ k) (t := tByte) (eb := 1) rfl (OwnO.mono (by first | exact OwnO.ext0 G77 N80.ext | exact G77) (fun _ h _ => h) (fun k h _ => .inl h)) (fun k hk => .inr hk) rfl (Gr.holds (P := All) (by first | exact allOf L80 | exact allOf (tBytes.ext L80 X77 (fun k hk _ h => by have hk : k = w76.heap.size := hk; rcases h with h | h <;> first | (have := hB k h; omega) | omega)) | exact allOf (tBytes.ext (tBytes.ext0 L80 X76) X77 (fun k hk _ h => by have hk : k = w76.heap.size := hk; rcases h with h | h <;> first | (have := hB k h; omega) | omega)))) rfl rfl rfl rfl rfl rfl rfl (by simp; omega) (by simp [Lim]; omega) (fun _ h _ => h.elim)) (by rintro _ _ ⟨_, hx⟩; exact (hX77).trans (hx.mono (fun k _ h => by first | exact h.imp id (fun h => by omega) | (rcases h with ⟨h | h, _⟩ | h <;> first | exact .inl h | exact .inr (by omega))))) ?_
                  rintro r81 w81 ⟨G81, X81⟩
                  have z81 := X81.size
                  have hX81 : Ext ((fun k => Bb k ∨ wi.heap.size ≤ k)) _ _ := hX77.trans (X81.mono (fun k _ h => by first | exact h.imp id (fun h => by omega) | (rcases h with ⟨h | h, _⟩ | h <;> first | exact .inl h | exact .inr (by omega))))
                  refine .alt ?_ ?_
                  · refine .v rfl rfl rfl rfl (.appendLo (t := tByte) (eb := 1) rfl G81 (fun k hk => .inr (by omega)) rfl (Gr.holds (P := All) (allOf (tBytes.ext R86 (hX81) (fun k hk _ h => by rcases h with h | h; (have := (hBb k h); omega); omega)))) rfl rfl rfl rfl rfl rfl rfl (by simp; omega) (by simp [Lim]; omega) (fun _ h _ => h.elim)) (by rintro _ _ ⟨_, hx⟩; exact (hX81).trans (hx.mono (fun k _ h => by first | exact h.imp id (fun h => by omega) | (rcases h with ⟨h | h, _⟩ | h <;> first | exact .inl h | exact .inr (by omega))))) ?_
                    rintro r87 w87 ⟨G87, X87⟩
                    obtain ⟨a87, c87, rfl, hc87⟩ := OwnO.val G87
                    have z87 := X87.size
                    have hX87 : Ext ((fun k => Bb k ∨ wi.heap.size ≤ k)) _ _ := hX81.trans (X87.mono (fun k _ h => by first | exact h.imp id (fun h => by omega) | (rcases h with ⟨h | h, _⟩ | h <;> first | exact .inl h | exact .inr (by omega))))
                    refine .alt ?_ ?_
                    · refine .sL rfl rfl rfl (.store rfl rfl rfl rfl rfl (hC2.ext (hX87) hn2) (by simp)) (by kernel_rfl) ?_
                      intro w25 P25
                      have z25 := P25.size
                      refine .nil (.blk (.code (.keep [(1, _), (2, _), (3, _), (5, _), (69, _)] ⟨rfl, rfl, rfl, rfl, rfl, trivial⟩ (.region ?_))))
                      refine .p rfl rfl (.add rfl rfl (by omega)) ?_
                      refine .p rfl rfl (.mv rfl) ?_
                      refine .nil ?_
                      have zX := hX87.size
                      refine (again (i + 1, accb ++ put8 x.gen.toNat ++ [UInt8.ofNat i] ++ (inn.drop (i * 119)).take 119, _, fun k => w21.heap.size ≤ k ∧ k < w25.heap.size, w25) ⟨by show i + 1 ≤ 8; omega, by show _ = _; rw [hab, slots_step], ?_, P25.blk, OwnO.mono (OwnO.ext G87 P25.ext (fun k hk _ (he : k = w1.heap.size) => by rcases hk with ⟨hk | hk, _⟩ | hk <;> first | (have := hBb k hk; omega) | omega) (fun _ h _ => h.elim)) (fun _ h _ => h) (fun k hk hl => ⟨by rcases hk with ⟨hk | hk, _⟩ | hk <;> first | exact (hBb k hk).1 | omega, hl⟩), fun k h => h, (hXb.and hX87 (fun k h hk => h.elim (fun h => by have := hBb k h; omega) (fun h => by omega))).and P25.ext (fun k h _ => h)⟩ (by show 8 - (i + 1) < 8 - i; omega)).of ⟨rfl, rfl, rfl, rfl, rfl, trivial⟩
                      show (accb ++ _ ++ _ ++ _).length ≤ 200 * (i + 1)
                      simp only [List.length_append, List.length_singleton]
                      omega
                    exact .stop
                  exact .stop
                exact .stop
              exact .stop
            exact .stop
          refine .alt ?_ ?_
          · refine .v rfl rfl rfl rfl (.lits rfl rfl (fun _ => by kernel_rfl)) (by rintro _ _ ⟨_, hN⟩; exact ((Ext.refl _)).trans hN.ext0) ?_
            rintro _ w80 ⟨rfl, N80⟩
            have hX80 : Ext ((fun k => Bb k ∨ wi.heap.size ≤ k)) _ _ := (Ext.refl _).trans (N80.ext0)
            have z80 := N80.size
            have L80 := lit_byte (x := UInt8.ofNat i) N80 rfl
            refine .alt ?_ ?_
            · refine .call (first := []) (captured := []) rfl rfl rfl rfl rfl rfl (Put_fn (n := x.gen.toNat) (by omega)) (by rintro _ _ ⟨_, hx⟩; exact (hX80).trans (hx.mono (fun _ _ h => h.elim))) ?_
              rintro r76 w76 ⟨R76, X76⟩
              have z76 := X76.size
              have hX76 : Ext ((fun k => Bb k ∨ wi.heap.size ≤ k)) _ _ := hX80.trans (X76.mono (fun _ _ h => h.elim))
              refine .alt ?_ ?_
              · refine .v rfl rfl rfl rfl (.appendLo (B := fun k => Bb k ∨ w76.heap.size ≤ k) (t := tByte) (eb := 1) rfl (OwnO.mono (by first | exact OwnO.ext0 (OwnO.ext0 hOb X76) N80.ext | exact OwnO.ext0 (OwnO.ext0 hOb N80.ext) X76 | exact OwnO.ext0 hOb X76) (fun _ h _ => h) (fun k h _ => .inl h)) (fun k hk => .inr hk) rfl (Gr.holds (P := All) (by first | exact allOf (tBytes.ext0 R76 N80.ext) | exact allOf R76)) rfl rfl rfl rfl rfl rfl rfl (by simp; omega) (by simp [Lim]; omega) (fun _ h _ => h.elim)) (by rintro _ _ ⟨_, hx⟩; exact (hX76).trans (hx.mono (fun k _ h => by first | exact h.imp id (fun h => by omega) | (rcases h with ⟨h | h, _⟩ | h <;> first | exact .inl h | exact .inr (by omega))))) ?_
                rintro r77 w77 ⟨G77, X77⟩
                have z77 := X77.size
                have G77 := OwnO.mono G77 (fun _ h _ => h) (B' := fun k => (Bb k ∨ w76.heap.size ≤ k) ∧ k < w77.heap.size) (fun k h hl => ⟨h, hl⟩)
                have hX77 : Ext ((fun k => Bb k ∨ wi.heap.size ≤ k)) _ _ := hX76.trans (X77.mono (fun k _ h => by first | exact h.imp id (fun h => by omega) | (rcases h with ⟨h | h, _⟩ | h <;> first | exact .inl h | exact .inr (by omega))))
                refine .alt ?_ ?_
                · refine .v rfl rfl rfl rfl (.appendLo (B := fun k => (Bb k ∨ w76.heap.size ≤ k) ∧ k < w77.heap.size ∨ w77.heap.size ≤ k) (t := tByte) (eb := 1) rfl (OwnO.mono (by first | exact OwnO.ext0 G77 N80.ext | exact G77) (fun _ h _ => h) (fun k h _ => .inl h)) (fun k hk => .inr hk) rfl (Gr.holds (P := All) (by first | exact allOf L80 | exact allOf (tBytes.ext L80 X77 (fun k hk _ h => by have hk : k = wi.heap.size := hk; rcases h with h | h <;> first | (have := hB k h; omega) | omega)) | exact allOf (tBytes.ext (tBytes.ext0 L80 X76) X77 (fun k hk _ h => by have hk : k = wi.heap.size := hk; rcases h with h | h <;> first | (have := hB k h; omega) | omega)))) rfl rfl rfl rfl rfl rfl rfl (by simp; omega) (by simp [Lim]; omega) (fun _ h _ => h.elim)) (by rintro _ _ ⟨_, hx⟩; exact (hX77).trans (hx.mono (fun k _ h => by first | exact h.imp id (fun h => by omega) | (rcases h with ⟨h | h, _⟩ | h <;> first | exact .inl h | exact .inr (by omega))))) ?_
                  rintro r81 w81 ⟨G81, X81⟩
                  have z81 := X81.size
                  have hX81 : Ext ((fun k => Bb k ∨ wi.heap.size ≤ k)) _ _ := hX77.trans (X81.mono (fun k _ h => by first | exact h.imp id (fun h => by omega) | (rcases h with ⟨h | h, _⟩ | h <;> first | exact .inl h | exact .inr (by omega))))
                  refine .alt ?_ ?_
                  · refine .v rfl rfl rfl rfl (.appendLo (t := tByte) (eb := 1) rfl G81 (fun k hk => .inr (by omega)) rfl (Gr.holds (P := All) (allOf (tBytes.ext R86 (hX81) (fun k hk _ h => by rcases h with h | h; (have := (hBb k h); omega); omega)))) rfl rfl rfl rfl rfl rfl rfl (by simp; omega) (by simp [Lim]; omega) (fun _ h _ => h.elim)) (by rintro _ _ ⟨_, hx⟩; exact (hX81).trans (hx.mono (fun k _ h => by first | exact h.imp id (fun h => by omega) | (rcases h with ⟨h | h, _⟩ | h <;> first | exact .inl h | exact .inr (by omega))))) ?_
                    rintro r87 w87 ⟨G87, X87⟩
                    obtain ⟨a87, c87, rfl, hc87⟩ := OwnO.val G87
                    have z87 := X87.size
                    have hX87 : Ext ((fun k => Bb k ∨ wi.heap.size ≤ k)) _ _ := hX81.trans (X87.mono (fun k _ h => by first | exact h.imp id (fun h => by omega) | (rcases h with ⟨h | h, _⟩ | h <;> first | exact .inl h | exact .inr (by omega))))
                    refine .alt ?_ ?_
                    · refine .sL rfl rfl rfl (.store rfl rfl rfl rfl rfl (hC2.ext (hX87) hn2) (by simp)) (by kernel_rfl) ?_
                      intro w25 P25
                      have z25 := P25.size
                      refine .nil (.blk (.code (.keep [(1, _), (2, _), (3, _), (5, _), (69, _)] ⟨rfl, rfl, rfl, rfl, rfl, trivial⟩ (.region ?_))))
                      refine .p rfl rfl (.add rfl rfl (by omega)) ?_
                      refine .p rfl rfl (.mv rfl) ?_
                      refine .nil ?_
                      have zX := hX87.size
                      refine (again (i + 1, accb ++ put8 x.gen.toNat ++ [UInt8.ofNat i] ++ (inn.drop (i * 119)).take 119, _, fun k => w21.heap.size ≤ k ∧ k < w25.heap.size, w25) ⟨by show i + 1 ≤ 8; omega, by show _ = _; rw [hab, slots_step], ?_, P25.blk, OwnO.mono (OwnO.ext G87 P25.ext (fun k hk _ (he : k = w1.heap.size) => by rcases hk with ⟨hk | hk, _⟩ | hk <;> first | (have := hBb k hk; omega) | omega) (fun _ h _ => h.elim)) (fun _ h _ => h) (fun k hk hl => ⟨by rcases hk with ⟨hk | hk, _⟩ | hk <;> first | exact (hBb k hk).1 | omega, hl⟩), fun k h => h, (hXb.and hX87 (fun k h hk => h.elim (fun h => by have := hBb k h; omega) (fun h => by omega))).and P25.ext (fun k h _ => h)⟩ (by show 8 - (i + 1) < 8 - i; omega)).of ⟨rfl, rfl, rfl, rfl, rfl, trivial⟩
                      show (accb ++ _ ++ _ ++ _).length ≤ 200 * (i + 1)
                      simp only [List.length_append, List.length_singleton]
                      omega
                    exact .stop
                  exact .stop
                exact .stop
              exact .stop
            exact .stop
          exact .stop
        · obtain rfl : i = 8 := by omega
          refine .exit rfl (.code ?_)
          have h0 := writeF_0 hc0 (by rw [← ha]; omega)
          refine .retD (args := []) (writeD_fn (lo := 0) (hg.ext0 hYb) (.inl ⟨rfl, rfl⟩) Ei Ci hC2 (by omega)) ?_
          rintro r wd ⟨rfl, Q, R, X⟩
          rw [if_pos rfl] at R
          refine ⟨[vb, i64 0], .cell rfl rfl rfl (R.cell 0) (.cell rfl rfl rfl (Q.cell 0) .nil), vb, ?_, ?_, hYb.then X (fun k h _ => by omega)⟩
          · rw [h0]; rfl
          · rw [h0]; show OwnO _ _ _ wd vb (slotsD x.gen.toNat (bodyD x.fs ++ List.replicate (952 - (bodyD x.fs).length) 0)) _
            rw [← ha, hI]
            rw [show slotsD x.gen.toNat inn = accb from hab.symm]
            exact OwnO.mono (OwnO.ext hOb X (fun k hk _ h => by have := hBb k hk; omega) (fun _ h _ => h.elim)) (fun _ h _ => h) (fun k hk _ => by have := (hBb k hk).1; show w.heap.size ≤ k; omega)
end Go.Proofs.YthliepcjfnjnoaaGreatDoor
namespace Go.Proofs.YthliepcjfnjnoaaGreatDoor
open Go
theorem Get_fn {w : World} {v : Value} {l : Bs} (h : tBytes.rep All w v l) : Fn Tryz.prog 80 [v] w (fun r w2 => r = .tuple #[.int .u64 (if l.length = 8 then getTo l 8 else 0 : Nat), i64 (if l.length = 8 then 0 else 8)] ∧ Ext (fun _ => False) w w2) := by
  obtain ⟨a, cap, rfl, hcap⟩ := Sl.val h
  refine Fn.enter (fun w => Tryz.call80 _ w) Tryz.func80 rfl ?_
  refine .seq (.region ?_)
  refine .p rfl rfl (.as rfl) ?_
  refine .p rfl rfl (.as rfl) ?_
  refine .nil (.code (.seq (.seq (.keep [(0, _)] ⟨rfl, trivial⟩ (.region ?_)))))
  refine .p rfl rfl (.mv rfl) ?_
  refine .p rfl rfl (.len rfl rfl) ?_
  refine .p rfl rfl (.ne rfl rfl) ?_
  refine .nil (.code (.keep [(10, _), (0, _)] ⟨rfl, rfl, trivial⟩ ?_))
  refine .condD rfl (fun c10 => ?_) (fun c10 => ?_)
  · refine .seq (.keep [] trivial (.region ?_))
    refine .p rfl rfl (.as rfl) ?_
    refine .p rfl rfl (.as rfl) ?_
    refine .nil (.code ?_)
    refine .ret _ rfl ?_
    rw [if_neg (by omega), if_neg (by omega)]
    exact ⟨rfl, .refl _⟩
  · have hl8 : l.length = 8 := by omega
    obtain ⟨b, o, ha, hcs⟩ : ∃ b o, a = some ⟨b, o, none⟩ ∧ Cells w b o (l.map u8) := by
      obtain ⟨_, a', cap', hv, _, h'⟩ := Sl.bytes h
      cases hv
      rcases h' with ⟨rfl, _⟩ | ⟨b, o, rfl, _, _, hc⟩
      · cases hl8
      · exact ⟨b, o, rfl, hc⟩
    subst ha
    refine .skip (.code (.seq (.keep [(0, _)] ⟨rfl, trivial⟩ (.region ?_))))
    refine .p rfl rfl (.mv rfl) ?_
    refine .p rfl rfl (.arrPtr rfl rfl (by omega)) ?_
    refine .p rfl rfl (.loadA (n := 8) rfl rfl rfl rfl (by simp; omega) hcs) ?_
    refine .v rfl rfl (.alloc rfl rfl) ?_
    rintro _ w4 ⟨rfl, N4⟩
    refine .s rfl (.storeAll (n := 8) rfl rfl rfl (by simp; omega) (by simp [Value.oneCell']) N4.blk (by rw [List.length_map, hl8]; rfl)) ?_
    intro w14 P14
    have X14 := N4.ext.then P14.ext (by rintro k rfl _; omega)
    refine .nil (.code (.seq (.keep [(4, _)] ⟨rfl, trivial⟩ (.region ?_))))
    refine .p rfl rfl (.as rfl) ?_
    refine .nil (.code (.seq (.seq (.region ?_))))
    refine .p rfl rfl (.loadA (n := 8) rfl rfl rfl rfl (by simp; omega) P14.blk.cells) ?_
    refine .p rfl rfl (.mv rfl) ?_
    refine .nil (.code (.block (.keep [(15, _), (14, _), (5, _)] ⟨rfl, rfl, rfl, trivial⟩ ?_)))
    refine .loop (S := Nat) (fun s => [(15, i64 s), (14, .agg (l.map u8).toArray), (5, .int .u64 (getTo l s : Nat))]) (fun s => w14) (fun s => s ≤ 8) (fun s => 8 - s) 0 ⟨rfl, rfl, rfl, trivial⟩ rfl (Nat.zero_le _) ?_
    intro i J hi again
    refine .seq (.region ?_)
    refine .p rfl rfl (.lt rfl rfl) ?_
    refine .nil (.code (.seq ?_))
    refine .condD rfl (fun c16 => ?_) (fun c16 => ?_)
    · have hterm := getTo_term l (i := i) (by omega)
      have hsh : 0 ≤ ((l.getD i 0).toNat : Int) * 2 ^ (8 * i) ∧ ((l.getD i 0).toNat : Int) * 2 ^ (8 * i) ≤ 18446744073709551615 := by
        have : ((l.getD i 0).toNat : Int) * 2 ^ (8 * i) = (((l.getD i 0).toNat * 2 ^ (8 * i) : Nat) : Int) := by simp
        rw [this]
        omega
      refine .skip (.code (.seq (.block (.seq (.keep [(15, _), (14, _), (5, _)] ⟨rfl, rfl, rfl, trivial⟩ (.region ?_))))))
      refine .p rfl rfl (.mv rfl) ?_
      refine .p rfl rfl (.idxA (v := u8 (l.getD i 0)) rfl rfl rfl rfl rfl rfl (by omega) (by simp [List.getElem?_eq_getElem (show i < l.length by omega)])) ?_
      refine .p rfl rfl (.as rfl) ?_
      refine .p rfl rfl (.as rfl) ?_
      refine .nil (.code (.keep [(7, _), (6, _), (15, _), (14, _), (5, _)] ⟨rfl, rfl, rfl, rfl, rfl, trivial⟩ (.region ?_)))
      refine .p rfl rfl (.mv rfl) ?_
      refine .p rfl rfl (.mv rfl) ?_
      refine .p rfl rfl (.conv8_U rfl rfl rfl) ?_
      refine .p rfl rfl (.mv rfl) ?_
      refine .p rfl rfl (.mul rfl rfl (by omega)) ?_
      refine .p rfl rfl (.shlU (8 * i) rfl rfl (by omega) hsh) ?_
      refine .p rfl rfl (.orU (p := getTo l i) (q := (l.getD i 0).toNat * 2 ^ (8 * i)) rfl rfl (getTo_bd l (by omega)) (getTo_term l (by omega))) ?_
      refine .p rfl rfl (.as rfl) ?_
      refine .nil (.blk (.code (.keep [(5, _), (15, _), (14, _)] ⟨rfl, rfl, rfl, trivial⟩ (.region ?_))))
      refine .p rfl rfl (.add rfl rfl (by omega)) ?_
      refine .p rfl rfl (.mv rfl) ?_
      refine .nil ?_
      exact (again (i + 1) (by show i + 1 ≤ 8; omega) (by show 8 - (i + 1) < 8 - i; omega)).of ⟨rfl, rfl, by rw [← getTo_or]; rfl, trivial⟩
    · refine .exit rfl (.code (.seq (.keep [(5, _)] ⟨rfl, trivial⟩ (.region ?_))))
      refine .p rfl rfl (.mv rfl) ?_
      refine .p rfl rfl (.as rfl) ?_
      refine .p rfl rfl (.as rfl) ?_
      refine .nil (.code ?_)
      refine .ret _ rfl ?_
      obtain rfl : i = 8 := by omega
      rw [if_pos hl8, if_pos hl8]
      exact ⟨rfl, X14⟩
end Go.Proofs.YthliepcjfnjnoaaGreatDoor
