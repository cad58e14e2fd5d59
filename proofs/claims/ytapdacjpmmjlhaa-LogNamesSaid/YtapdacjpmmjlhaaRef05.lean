
/-
  Layer 5, the document's own answer: frames.
-/
import Derived.Test.YtapdacjpmmjlhaaLog1
import Derived.Test.YtapdacjpmmjlhaaRef01b
set_option linter.unusedVariables false
set_option linter.unusedSimpArgs false
set_option maxRecDepth 20000
namespace Go.Proofs.Ytapdacjpmmjlhaa
open Go log
theorem four_fn {w : World} {n : UInt32} : Fn Try.prog 40 [u32 n] w (fun r w2 => tBytes.rep (fun k => w.heap.size ≤ k) w2 r (put4 n) ∧ Ext (fun _ => False) w w2) := by
  refine Fn.enter (fun w => Try.call40 _ w) Try.func40 rfl ?_
  refine .seq (.region ?_)
  refine .p rfl rfl (.as rfl) ?_
  refine .nil (.code (.seq (.keep [(0, _)] ⟨rfl, trivial⟩ (.region ?_))))
  refine .p rfl rfl (.mv rfl) ?_
  refine .p rfl rfl (.conv32_U rfl rfl rfl) ?_
  refine .call (first := []) (captured := []) rfl rfl rfl rfl (RefPut_fn (by have := n.toNat_lt; omega)) ?_
  rintro _ w5 ⟨R5, X5⟩
  obtain ⟨a5, cap5, rfl, hc5⟩ := Sl.val R5
  have h8 : (put8 n.toNat).length = 8 := put8_length _
  rw [h8] at R5 hc5 ⊢
  have R6 := Sl.cut R5 0 4 (by omega) (by omega)
  refine .p rfl rfl (.cutHi (s := 1) rfl rfl rfl rfl (by omega)) ?_
  refine .p rfl rfl (.as rfl) ?_
  refine .nil (.code ?_)
  refine .ret _ rfl ?_
  exact ⟨R6, X5⟩
theorem refneeds_fn {w : World} {n : Nat} (hn : n < Lim) : Fn Try.prog 39 [i64 n] w (fun r w2 => r = i64 (needs n) ∧ Same w w2) := by
  simp only [Lim] at hn
  refine Fn.enter (fun w => Try.call39 _ w) Try.func39 rfl ?_
  refine .seq (.region ?_)
  refine .p rfl rfl (.as rfl) ?_
  refine .nil (.code (.seq (.keep [(0, _)] ⟨rfl, trivial⟩ (.region ?_))))
  refine .p rfl rfl (.mv rfl) ?_
  refine .p rfl rfl (.add rfl rfl (by omega)) ?_
  refine .p rfl rfl (.sub rfl rfl (by omega)) ?_
  refine .p rfl rfl (.quo rfl rfl (by omega)) ?_
  refine .p rfl rfl (.max2 rfl rfl) ?_
  refine .p rfl rfl (.as rfl) ?_
  refine .nil (.code ?_)
  refine .ret _ rfl ?_
  exact ⟨by show Value.int .i64 _ = Value.int .i64 _; congr 1; unfold needs; omega, .refl w⟩
theorem number_fn {w : World} {v : Value} {l : Bs} (h : tBytes.rep All w v l) (hl : 4 ≤ l.length) : Fn Try.prog 43 [v] w (fun r w2 => r = u32 (get4 l) ∧ Ext (fun _ => False) w w2) := by
  obtain ⟨a, cap, rfl, hcap⟩ := Sl.val h
  obtain ⟨b, o, rfl, _, hc0⟩ := Sl.byteAt h (k := 0) (by omega)
  obtain ⟨b1, o1, e1, _, hc1⟩ := Sl.byteAt h (k := 1) (by omega)
  cases e1
  obtain ⟨b2, o2, e2, _, hc2⟩ := Sl.byteAt h (k := 2) (by omega)
  cases e2
  obtain ⟨b3, o3, e3, _, hc3⟩ := Sl.byteAt h (k := 3) (by omega)
  cases e3
  have h4 : l.take 4 = [l[0], l[1], l[2], l[3]] := by
    match l, hl with
    | a :: b :: c :: d :: r, _ => rfl
  refine Fn.enter (fun w => Try.call43 _ w) Try.func43 rfl ?_
  refine .seq (.region ?_)
  refine .p rfl rfl (.as rfl) ?_
  refine .nil (.code (.seq (.keep [(0, _)] ⟨rfl, trivial⟩ (.mix (fun _ => False) [12, 13] (by kernel_rfl) (by kernel_rfl) (by kernel_rfl) ?_))))
  refine .p rfl rfl rfl (fun wx hx => .mv rfl) ?_
  refine .p rfl rfl rfl (fun wx hx => .indexAddr1 rfl rfl rfl rfl (by omega)) ?_
  refine .p rfl rfl rfl (fun wx hx => .load rfl rfl rfl (hx.cell hc0 (fun x => x))) ?_
  refine .p rfl rfl rfl (fun wx hx => .mv rfl) ?_
  refine .p rfl rfl rfl (fun wx hx => .indexAddr1 rfl rfl rfl rfl (by omega)) ?_
  refine .p rfl rfl rfl (fun wx hx => .load rfl rfl rfl (hx.cell hc1 (fun x => x))) ?_
  refine .p rfl rfl rfl (fun wx hx => .mv rfl) ?_
  refine .p rfl rfl rfl (fun wx hx => .indexAddr1 rfl rfl rfl rfl (by omega)) ?_
  refine .p rfl rfl rfl (fun wx hx => .load rfl rfl rfl (hx.cell hc2 (fun x => x))) ?_
  refine .p rfl rfl rfl (fun wx hx => .mv rfl) ?_
  refine .p rfl rfl rfl (fun wx hx => .indexAddr1 rfl rfl rfl rfl (by omega)) ?_
  refine .p rfl rfl rfl (fun wx hx => .load rfl rfl rfl (hx.cell hc3 (fun x => x))) ?_
  refine .v rfl rfl rfl (.lits rfl rfl (fun _ => by kernel_rfl)) (by rintro _ _ ⟨_, hN⟩; exact hN.ext) ?_
  rintro _ w18 ⟨rfl, N18⟩
  have R18 : tBytes.rep All w18 (Value.slice (some { block := w.heap.size, off := 0 }) 8 8) [l[0], l[1], l[2], l[3], 0, 0, 0, 0] := Sl.mk (us := [u8 l[0], u8 l[1], u8 l[2], u8 l[3], u8 0, u8 0, u8 0, u8 0]) (each_u8 [l[0], l[1], l[2], l[3], 0, 0, 0, 0]) N18.blk.cells trivial N18.blk.lt (Nat.le_refl _) (by simp [Lim]) rfl
  refine .call (first := []) (captured := []) rfl rfl rfl rfl rfl (RefGet_fn R18) (by rintro _ _ ⟨_, hs⟩; exact N18.ext.trans (.same hs)) ?_
  rintro _ w19 ⟨rfl, S19⟩
  refine .p rfl rfl rfl (fun wx hx => .mv rfl) ?_
  refine .p rfl rfl rfl (fun wx hx => .extract rfl rfl) ?_
  refine .p rfl rfl rfl (fun wx hx => .extract rfl rfl) ?_
  refine .p rfl rfl rfl (fun wx hx => .as rfl) ?_
  refine .p rfl rfl rfl (fun wx hx => .as rfl) ?_
  refine .nil (.code (.seq (.keep [(3, _)] ⟨rfl, trivial⟩ (.region ?_))))
  refine .p rfl rfl (.mv rfl) ?_
  refine .p rfl rfl (.convW rfl rfl rfl (by omega)) ?_
  refine .p rfl rfl (.as rfl) ?_
  refine .nil (.code ?_)
  refine .ret _ rfl ?_
  exact ⟨by unfold get4; rw [h4]; rfl, N18.ext.trans (.same S19)⟩
theorem RefFrame_fn {w : World} {epoch salt prev : UInt32} {r : Bs} (hr : r.length < Lim) : Fn Try.prog 12 [u32 epoch, u32 salt, u32 prev, str r] w (fun v w2 => ∃ s, v = .tuple #[s, i64 (frameF epoch salt prev r).2] ∧ tBytes.rep (fun k => w.heap.size ≤ k) w2 s (frameF epoch salt prev r).1 ∧ Ext (fun _ => False) w w2) := by
  refine Fn.enter (fun w => Try.call12 _ w) Try.func12 rfl ?_
  refine .seq (.region ?_)
  refine .p rfl rfl (.as rfl) ?_
  refine .p rfl rfl (.as rfl) ?_
  refine .nil (.code (.seq (.seq (.keep [(0, _), (1, _), (2, _), (3, _)] ⟨rfl, rfl, rfl, rfl, trivial⟩ (.region ?_)))))
  refine .p rfl rfl (.mv rfl) ?_
  refine .p rfl rfl (.eq rfl rfl) ?_
  refine .p rfl rfl (.mv rfl) ?_
  refine .caseD 16 rfl (fun c16 => ?_) (fun c16 => ?_)
  · refine .skip rfl rfl ?_
    refine .skip rfl rfl ?_
    refine .p rfl rfl (.pickT rfl rfl) ?_
    refine .nil (.code (.keep [(19, _), (0, _), (1, _), (2, _), (3, _)] ⟨rfl, rfl, rfl, rfl, rfl, trivial⟩ (.condT rfl (.seq (.keep [] trivial (.region ?_))))))
    refine .p rfl rfl (.as rfl) ?_
    refine .p rfl rfl (.as rfl) ?_
    refine .nil (.code ?_)
    refine .ret _ rfl ?_
    have e : frameF epoch salt prev r = ([], 2) := by unfold frameF; rw [if_pos (.inl ((u32_zero _).1 c16))]
    rw [e]
    exact ⟨_, rfl, Sl.nil, .refl _⟩
  · refine .p rfl rfl (.mv rfl) ?_
    refine .p rfl rfl (.eq rfl rfl) ?_
    refine .p rfl rfl (.pickF rfl rfl) ?_
    refine .nil (.code (.keep [(19, _), (0, _), (1, _), (2, _), (3, _)] ⟨rfl, rfl, rfl, rfl, rfl, trivial⟩ ?_))
    refine .condD rfl (fun c19 => ?_) (fun c19 => ?_)
    · refine .seq (.keep [] trivial (.region ?_))
      refine .p rfl rfl (.as rfl) ?_
      refine .p rfl rfl (.as rfl) ?_
      refine .nil (.code ?_)
      refine .ret _ rfl ?_
      have e : frameF epoch salt prev r = ([], 2) := by unfold frameF; rw [if_pos (.inr ((u32_zero _).1 c19))]
      rw [e]
      exact ⟨_, rfl, Sl.nil, .refl _⟩
    · refine .skip (.code (.seq (.seq (.keep [(0, _), (1, _), (2, _), (3, _)] ⟨rfl, rfl, rfl, rfl, trivial⟩ (.region ?_)))))
      refine .p rfl rfl (.mv rfl) ?_
      refine .p rfl rfl (.lenS rfl rfl) ?_
      refine .p rfl rfl (.gt rfl rfl) ?_
      refine .nil (.code (.keep [(22, _), (0, _), (1, _), (2, _), (3, _)] ⟨rfl, rfl, rfl, rfl, rfl, trivial⟩ ?_))
      refine .condD rfl (fun c22 => ?_) (fun c22 => ?_)
      · refine .seq (.keep [] trivial (.region ?_))
        refine .p rfl rfl (.as rfl) ?_
        refine .p rfl rfl (.as rfl) ?_
        refine .nil (.code ?_)
        refine .ret _ rfl ?_
        have e : frameF epoch salt prev r = ([], 3) := by unfold frameF; rw [if_neg (by rw [← u32_zero, ← u32_zero]; omega), if_pos (by omega)]
        rw [e]
        exact ⟨_, rfl, Sl.nil, .refl _⟩
      · refine .skip (.code (.seq (.keep [(0, _), (1, _), (2, _), (3, _)] ⟨rfl, rfl, rfl, rfl, trivial⟩ (.region ?_))))
        refine .p rfl rfl (.as rfl) ?_
        refine .nil (.code (.seq (.region ?_)))
        refine .p rfl rfl (.mv rfl) ?_
        refine .p rfl rfl (.lenS rfl rfl) ?_
        refine .call (first := []) (captured := []) rfl rfl rfl rfl (refneeds_fn hr) ?_
        rintro _ w25 ⟨rfl, S25⟩
        have hnb := needs_bd (n := r.length) (by omega)
        refine .p rfl rfl (.as rfl) ?_
        refine .nil (.code (.seq (.seq (.keep [(11, _), (10, _), (0, _), (1, _), (2, _), (3, _)] ⟨rfl, rfl, rfl, rfl, rfl, rfl, trivial⟩ (.region ?_)))))
        refine .p rfl rfl (.as rfl) ?_
        refine .nil (.code (.block ?_))
        refine .loop (S := Nat × World × Value × Nat) (fun s => [(12, i64 s.1), (11, i64 (needs r.length)), (10, s.2.2.1), (0, u32 epoch), (1, u32 salt), (2, u32 prev), (3, str r)]) (fun s => s.2.1) (fun s => s.1 ≤ needs r.length ∧ Own tByte (fun _ => False) 5 s.2.1 s.2.2.1 (frameTo epoch salt prev r (needs r.length) s.1) s.2.2.2 ∧ Ext (fun _ => False) w s.2.1 ∧ w.heap.size ≤ s.2.2.2) (fun s => needs r.length - s.1) (0, w25, .slice none 0 0, w25.heap.size) ⟨rfl, rfl, rfl, rfl, rfl, rfl, rfl, trivial⟩ rfl ⟨Nat.zero_le _, Own.nil, .same S25, by show w.heap.size ≤ w25.heap.size; rw [S25.heap]; omega⟩ ?_
        rintro ⟨i, wi, vo, bo⟩ J ⟨hi, hO, hX, hbo⟩ again
        simp only at hi hO hX hbo
        refine .seq (.seq (.region ?_))
        refine .p rfl rfl (.mv rfl) ?_
        refine .p rfl rfl (.mv rfl) ?_
        refine .p rfl rfl (.lt rfl rfl) ?_
        refine .nil (.code (.keep [(28, _), (12, _), (11, _), (10, _), (0, _), (1, _), (2, _), (3, _)] ⟨rfl, rfl, rfl, rfl, rfl, rfl, rfl, rfl, trivial⟩ ?_))
        refine .condD rfl (fun c28 => ?_) (fun c28 => ?_)
        · have hfit := needs_fit (n := r.length) (i := i) (by omega)
          have hi37 : i < 37 := by omega
          have q1 : (((pieceOf r i).length : Int) % 256).toNat = (pieceOf r i).length := by have := piece_le r i; omega
          have q2 : (((pieceOf r i).length : Int) / 256).toNat = 0 := by have := piece_le r i; omega
          have hpl := piece_le r i
          have piece2 : (r.drop ((i : Int) * 112).toNat).take ((min (r.length : Int) ((i : Int) * 112 + 112)).toNat - ((i : Int) * 112).toNat) = pieceOf r i := by
            have h1 : ((i : Int) * 112).toNat = 112 * i := by omega
            rw [h1, pieceOf]
            rcases Nat.le_total r.length (112 * i + 112) with h | h
            · rw [List.take_of_length_le (by simp; omega), List.take_of_length_le (by simp; omega)]
            · congr 1; omega
          refine .skip (.code (.seq (.block (.seq (.keep [(12, _), (11, _), (10, _), (0, _), (1, _), (2, _), (3, _)] ⟨rfl, rfl, rfl, rfl, rfl, rfl, rfl, trivial⟩ (.region ?_))))))
          refine .p rfl rfl (.mv rfl) ?_
          refine .p rfl rfl (.mv rfl) ?_
          refine .p rfl rfl (.mul rfl rfl (by omega)) ?_
          refine .p rfl rfl (.mv rfl) ?_
          refine .p rfl rfl (.lenS rfl rfl) ?_
          refine .p rfl rfl (.mv rfl) ?_
          refine .p rfl rfl (.mul rfl rfl (by omega)) ?_
          refine .p rfl rfl (.add rfl rfl (by omega)) ?_
          refine .p rfl rfl (.min2 rfl rfl) ?_
          refine .p rfl rfl (.cast (.cutS rfl rfl rfl rfl (by omega)) (by show str _ = str (pieceOf r i); rw [← piece2])) ?_
          refine .p rfl rfl (.as rfl) ?_
          refine .nil (.code (.seq (.keep [(13, _), (12, _), (11, _), (10, _), (0, _), (1, _), (2, _), (3, _)] ⟨rfl, rfl, rfl, rfl, rfl, rfl, rfl, rfl, trivial⟩ (.region ?_))))
          refine .p rfl rfl (.mv rfl) ?_
          refine .p rfl rfl (.mv rfl) ?_
          refine .call (first := []) (captured := []) rfl rfl rfl rfl (four_fn) ?_
          rintro r43 w43 ⟨R43, X43⟩
          have Z43 := hX.trans X43
          refine .v rfl rfl (.append (t := tByte) (eb := 1) rfl (hO.ext0 X43) rfl (Sl.holds R43 (fun _ _ h => h)) rfl rfl rfl rfl rfl rfl rfl (by simp only [List.length_append, frameTo_length, put4_length]; omega) (by simp only [List.length_append, frameTo_length, put4_length, Lim]; omega) (fun _ h _ => h.elim)) ?_
          rintro v44 w44 ⟨b44, O44, X44, hb44⟩
          have O44 := O44.mono (Q' := fun _ => False) (fun _ h _ => h.1)
          refine .p rfl rfl (.as rfl) ?_
          refine .nil (.code (.seq (.keep [(10, _), (13, _), (12, _), (11, _), (0, _), (1, _), (2, _), (3, _)] ⟨rfl, rfl, rfl, rfl, rfl, rfl, rfl, rfl, trivial⟩ (.region ?_))))
          refine .p rfl rfl (.mv rfl) ?_
          refine .p rfl rfl (.mv rfl) ?_
          refine .call (first := []) (captured := []) rfl rfl rfl rfl (four_fn) ?_
          rintro r47 w47 ⟨R47, X47⟩
          refine .v rfl rfl (.append (t := tByte) (eb := 1) rfl (O44.ext0 X47) rfl (Sl.holds R47 (fun _ _ h => h)) rfl rfl rfl rfl rfl rfl rfl (by simp only [List.length_append, frameTo_length, put4_length]; omega) (by simp only [List.length_append, frameTo_length, put4_length, Lim]; omega) (fun _ h _ => h.elim)) ?_
          rintro v48 w48 ⟨b48, O48, X48, hb48⟩
          have O48 := O48.mono (Q' := fun _ => False) (fun _ h _ => h.1)
          refine .p rfl rfl (.as rfl) ?_
          refine .nil (.code (.seq (.keep [(10, _), (13, _), (12, _), (11, _), (0, _), (1, _), (2, _), (3, _)] ⟨rfl, rfl, rfl, rfl, rfl, rfl, rfl, rfl, trivial⟩ (.region ?_))))
          refine .p rfl rfl (.mv rfl) ?_
          refine .p rfl rfl (.mv rfl) ?_
          refine .call (first := []) (captured := []) rfl rfl rfl rfl (four_fn) ?_
          rintro r51 w51 ⟨R51, X51⟩
          refine .v rfl rfl (.append (t := tByte) (eb := 1) rfl (O48.ext0 X51) rfl (Sl.holds R51 (fun _ _ h => h)) rfl rfl rfl rfl rfl rfl rfl (by simp only [List.length_append, frameTo_length, put4_length]; omega) (by simp only [List.length_append, frameTo_length, put4_length, Lim]; omega) (fun _ h _ => h.elim)) ?_
          rintro v52 w52 ⟨b52, O52, X52, hb52⟩
          have O52 := O52.mono (Q' := fun _ => False) (fun _ h _ => h.1)
          refine .p rfl rfl (.as rfl) ?_
          refine .nil (.code (.seq (.keep [(10, _), (13, _), (12, _), (11, _), (0, _), (1, _), (2, _), (3, _)] ⟨rfl, rfl, rfl, rfl, rfl, rfl, rfl, rfl, trivial⟩ (.region ?_))))
          refine .p rfl rfl (.mv rfl) ?_
          refine .p rfl rfl (.mv rfl) ?_
          refine .p rfl rfl (.convB rfl rfl rfl (by omega)) ?_
          refine .p rfl rfl (.mv rfl) ?_
          refine .p rfl rfl (.convB rfl rfl rfl (by omega)) ?_
          refine .p rfl rfl (.mv rfl) ?_
          refine .p rfl rfl (.lenS rfl rfl) ?_
          refine .p rfl rfl (.rem rfl rfl (by omega)) ?_
          refine .p rfl rfl (.convB rfl rfl rfl (by omega)) ?_
          refine .p rfl rfl (.mv rfl) ?_
          refine .p rfl rfl (.lenS rfl rfl) ?_
          refine .p rfl rfl (.quo rfl rfl (by omega)) ?_
          refine .p rfl rfl (.convB rfl rfl rfl (by omega)) ?_
          refine .v rfl rfl (.lits rfl rfl (fun _ => by kernel_rfl)) ?_
          rintro _ w66 ⟨rfl, N66⟩
          refine .v rfl rfl (.append (t := tByte) (eb := 1) rfl (O52.ext0 N66.ext) rfl (.inr (New.holds (us := [u8 (UInt8.ofNat (i : Int).toNat), u8 (UInt8.ofNat (needs r.length : Int).toNat), u8 (UInt8.ofNat (((pieceOf r i).length : Int) % 256).toNat), u8 (UInt8.ofNat (((pieceOf r i).length : Int) / 256).toNat)]) (xs := [UInt8.ofNat i, UInt8.ofNat (needs r.length), UInt8.ofNat (pieceOf r i).length, 0]) N66 (by rw [q1, q2]; exact each_u8 [UInt8.ofNat i, UInt8.ofNat (needs r.length), UInt8.ofNat (pieceOf r i).length, 0]) rfl)) rfl rfl rfl rfl rfl rfl rfl (by simp only [List.length_append, frameTo_length, put4_length, List.length_cons, List.length_nil]; omega) (by simp only [List.length_append, frameTo_length, put4_length, List.length_cons, List.length_nil, Lim]; omega) (fun _ h _ => h.elim)) ?_
          rintro v67 w67 ⟨b67, O67, X67, hb67⟩
          have O67 := O67.mono (Q' := fun _ => False) (fun _ h _ => h.1)
          refine .p rfl rfl (.as rfl) ?_
          refine .nil (.code (.seq (.keep [(10, _), (13, _), (12, _), (11, _), (0, _), (1, _), (2, _), (3, _)] ⟨rfl, rfl, rfl, rfl, rfl, rfl, rfl, rfl, trivial⟩ (.region ?_))))
          refine .p rfl rfl (.mv rfl) ?_
          refine .p rfl rfl (.mv rfl) ?_
          refine .v rfl rfl (.appendS rfl O67 rfl rfl rfl rfl rfl rfl rfl rfl (by simp only [List.length_append, frameTo_length, put4_length, List.length_cons, List.length_nil, Lim]; omega) (fun _ h _ => h.elim)) ?_
          rintro v70 w70 ⟨b70, O70, X70, hb70⟩
          have O70 := O70.mono (Q' := fun _ => False) (fun _ h _ => h.1)
          have zi : w.heap.size ≤ wi.heap.size := hX.size
          have z43 : wi.heap.size ≤ w43.heap.size := X43.size
          have z44 := X44.size
          have z47 := X47.size
          have z48 := X48.size
          have z51 := X51.size
          have z52 := X52.size
          have z66 := N66.size
          have z67 := X67.size
          have Y44 := (hX.trans X43).then X44 (by rintro k rfl _; omega)
          have Y48 := (Y44.trans X47).then X48 (by rintro k rfl _; omega)
          have Y52 := (Y48.trans X51).then X52 (by rintro k rfl _; omega)
          have Y67 := (Y52.trans N66.ext).then X67 (by rintro k rfl _; omega)
          have Y70 := Y67.then X70 (by rintro k rfl _; omega)
          have hb7 : w.heap.size ≤ b70 := by omega
          refine .p rfl rfl (.as rfl) ?_
          refine .nil (.code (.block (.keep [(10, _), (12, _), (11, _), (0, _), (1, _), (2, _), (3, _)] ⟨rfl, rfl, rfl, rfl, rfl, rfl, rfl, trivial⟩ ?_)))
          generalize hbase : frameTo epoch salt prev r (needs r.length) i ++ put4 epoch ++ put4 salt ++ put4 prev ++ [UInt8.ofNat i, UInt8.ofNat (needs r.length), UInt8.ofNat (pieceOf r i).length, 0] ++ pieceOf r i = base at O70
          have hbl : base.length = 128 * i + 16 + (pieceOf r i).length := by rw [← hbase]; simp only [List.length_append, frameTo_length, put4_length, List.length_cons, List.length_nil]; omega
          refine .loop (S := Nat × World × Value × Nat) (fun s => [(12, i64 i), (11, i64 (needs r.length)), (10, s.2.2.1), (0, u32 epoch), (1, u32 salt), (2, u32 prev), (3, str r)]) (fun s => s.2.1) (fun s => 16 + (pieceOf r i).length + s.1 ≤ 128 ∧ Own tByte (fun _ => False) 5 s.2.1 s.2.2.1 (base ++ List.replicate s.1 0) s.2.2.2 ∧ Ext (fun _ => False) w s.2.1 ∧ w.heap.size ≤ s.2.2.2) (fun s => 128 - s.1) (0, w70, v70, b70) ⟨rfl, rfl, rfl, rfl, rfl, rfl, rfl, trivial⟩ rfl ⟨by show 16 + (pieceOf r i).length + 0 ≤ 128; omega, by show Own _ _ _ w70 v70 (base ++ []) b70; rw [List.append_nil]; exact O70, Y70, hb7⟩ ?_
          rintro ⟨j, wj, vj, bj⟩ J' ⟨hj, hO2, hX2, hbj⟩ again'
          simp only at hj hO2 hX2 hbj
          obtain ⟨aj, capj, rfl, _⟩ := hO2.val
          refine .seq (.seq (.region ?_))
          refine .p rfl rfl (.mv rfl) ?_
          refine .p rfl rfl (.cast (.len rfl rfl) (by show Value.int .i64 _ = i64 ((128 * i + 16 + (pieceOf r i).length + j : Nat) : Int); rw [List.length_append, hbl, List.length_replicate])) ?_
          refine .p rfl rfl (.rem rfl rfl (by omega)) ?_
          refine .p rfl rfl (.ne rfl rfl) ?_
          refine .nil (.code (.keep [(74, _), (12, _), (11, _), (10, _), (0, _), (1, _), (2, _), (3, _)] ⟨rfl, rfl, rfl, rfl, rfl, rfl, rfl, rfl, trivial⟩ ?_))
          refine .condD rfl (fun c74 => ?_) (fun c74 => ?_)
          · refine .skip (.code (.block (.keep [(12, _), (11, _), (10, _), (0, _), (1, _), (2, _), (3, _)] ⟨rfl, rfl, rfl, rfl, rfl, rfl, rfl, trivial⟩ (.region ?_))))
            refine .p rfl rfl (.mv rfl) ?_
            refine .v rfl rfl (.lits rfl rfl (fun _ => by kernel_rfl)) ?_
            rintro _ w76 ⟨rfl, N76⟩
            refine .v rfl rfl (.append (t := tByte) (eb := 1) rfl (hO2.ext0 N76.ext) rfl (.inr (New.holds (us := [u8 0]) (xs := [0]) N76 (each_u8 [0]) rfl)) rfl rfl rfl rfl rfl rfl rfl (by rw [List.length_append, hbl, List.length_replicate, List.length_singleton]; omega) (by rw [List.length_append, hbl, List.length_replicate, List.length_singleton]; simp only [Lim]; omega) (fun _ h _ => h.elim)) ?_
            rintro v77 w77 ⟨b77, O77, X77, hb77⟩
            have O77 := O77.mono (Q' := fun _ => False) (fun _ h _ => h.1)
            have z2 := (hX2.trans N76.ext).size
            have Y77 := (hX2.trans N76.ext).then X77 (by rintro k rfl _; omega)
            refine .p rfl rfl (.as rfl) ?_
            refine .nil (.blk ?_)
            refine (again' (j + 1, w77, v77, b77) ⟨by show 16 + (pieceOf r i).length + (j + 1) ≤ 128; omega, ?_, Y77, by show w.heap.size ≤ b77; omega⟩ (by show 128 - (j + 1) < 128 - j; omega)).of ⟨rfl, rfl, rfl, rfl, rfl, rfl, rfl, trivial⟩
            show Own tByte _ _ w77 v77 (base ++ List.replicate (j + 1) 0) b77
            rw [List.replicate_succ', ← List.append_assoc]
            exact O77
          · refine .exit rfl (.blk (.code (.keep [(12, _), (11, _), (10, _), (0, _), (1, _), (2, _), (3, _)] ⟨rfl, rfl, rfl, rfl, rfl, rfl, rfl, trivial⟩ (.region ?_))))
            refine .p rfl rfl (.mv rfl) ?_
            refine .p rfl rfl (.add rfl rfl (by omega)) ?_
            refine .p rfl rfl (.as rfl) ?_
            refine .nil ?_
            refine (again (i + 1, wj, .slice aj (base ++ List.replicate j 0).length capj, bj) ⟨by show i + 1 ≤ _; omega, ?_, hX2, hbj⟩ (by show _ - (i + 1) < _ - i; omega)).of ⟨rfl, rfl, rfl, rfl, rfl, rfl, rfl, trivial⟩
            show Own tByte _ _ wj _ _ bj
            have ej : j = 112 - (pieceOf r i).length := by omega
            have e : base ++ List.replicate j 0 = frameTo epoch salt prev r (needs r.length) i ++ sectorOf epoch salt prev r (needs r.length) i := by rw [← hbase, ej, sectorOf]; simp only [List.append_assoc]
            rw [frameTo_succ, ← e]
            exact hO2
        · refine .exit rfl (.code (.seq (.keep [(10, _)] ⟨rfl, trivial⟩ (.region ?_))))
          refine .p rfl rfl (.mv rfl) ?_
          refine .p rfl rfl (.as rfl) ?_
          refine .p rfl rfl (.as rfl) ?_
          refine .nil (.code ?_)
          refine .ret _ rfl ?_
          have e : frameF epoch salt prev r = (frameL epoch salt prev r, 0) := by unfold frameF; rw [if_neg (by rw [← u32_zero, ← u32_zero]; omega), if_neg (by omega)]
          rw [e]
          obtain rfl : i = needs r.length := by omega
          exact ⟨_, rfl, hO.rep hbo (fun _ h _ => h.elim), hX⟩
end Go.Proofs.Ytapdacjpmmjlhaa
