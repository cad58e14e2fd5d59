
/-
  bytes.Join without a separator.
-/
import Derived.Test.YthkgadhamecnlaaAppG
set_option linter.unusedVariables false
set_option linter.unusedSimpArgs false
set_option maxRecDepth 20000
namespace Go.Proofs.Ythkgadhamecnlaa
open Go
/-- bytes that were put together: of the call's own, or just as long as their room -/
def JoinO (w : World) (v : Value) (l : Bs) (lo : Nat) : Prop := tBytes.rep (fun k => lo ≤ k) w v l ∧ (Gr w v l lo ∨ ∃ a, v = .slice a l.length l.length)
theorem cutLo_at {c m n : Nat} : ∃ o, cutV 1 (some ⟨c, 0, none⟩) n m n = .slice (some ⟨c, o, none⟩) (n - m) (n - m) ∧ (o = m ∨ (n = m ∧ o = 0)) := by
  unfold cutV
  by_cases h : n = m
  · rw [if_pos h]; exact ⟨0, rfl, .inr ⟨h, rfl⟩⟩
  · rw [if_neg h]; exact ⟨m, by simp [Addr.add]; omega, .inl rfl⟩
theorem cell_at {α : Type} {t : Ty α} {w : World} {b o i : Nat} {u : Value} (h1 : t.size = 1) (hcs : Cells w b (o + i * t.size) u.cells.toList) (hu : u.cells.toList[0]? = some u) : w.cell? ⟨b, o + ((i : Nat) : Int).toNat, none⟩ = some u := by
  have := hcs 0 u hu
  rw [h1, Nat.mul_one] at this
  exact this
theorem join_put {A l : Bs} {D : List Value} {o n : Nat} (ho : o = A.length ∨ n = A.length) (hn : A.length + l.length ≤ n) : (A.map u8 ++ D).take o ++ (l.take (min l.length (n - A.length))).map u8 ++ (A.map u8 ++ D).drop (o + min l.length (n - A.length)) = (A ++ l).map u8 ++ D.drop l.length := by
  rw [show min l.length (n - A.length) = l.length by omega, List.take_length]
  rcases ho with rfl | hA
  · rw [List.take_left' (by simp), ← List.drop_drop, List.drop_left' (by simp), List.map_append]
  · have : l = [] := List.length_eq_zero_iff.1 (by omega)
    subst this
    simp
theorem flt_take {xs : List Bs} {i : Nat} (h : i < xs.length) : (xs.take (i + 1)).flatten = (xs.take i).flatten ++ xs[i] := by
  rw [List.take_succ_eq_append_getElem h, List.flatten_append]; simp
theorem flat_take_le (xs : List Bs) (i : Nat) : (xs.take i).flatten.length ≤ xs.flatten.length := by
  have h : xs.flatten = (xs.take i).flatten ++ (xs.drop i).flatten := by rw [← List.flatten_append, List.take_append_drop]
  rw [h, List.length_append]
  omega
theorem bJoin_fn {w : World} {v : Value} {xs : List Bs} (h : (Sl tBytes).rep All w v xs) (hne : xs ≠ []) (hlen : xs.flatten.length ≤ 1099511627776) : Fn Try.prog 34 [v, .slice none 0 0] w (fun r w2 => JoinO w2 r xs.flatten w.heap.size ∧ Ext (fun _ => False) w w2) := by
  obtain ⟨av, cv, rfl, hcv⟩ := Sl.val h
  have hpos := List.length_pos_iff.2 hne
  have hlim := Sl.lim h
  simp only [Lim] at hlim
  refine Fn.enter (fun w => Try.call34 _ w) Try.func34 rfl ?_
  refine .seq (.region ?_)
  refine .p rfl rfl (.as rfl) ?_
  refine .nil (.code (.seq (.seq (.keep [(0, _), (1, _)] ⟨rfl, rfl, trivial⟩ (.region ?_)))))
  refine .p rfl rfl (.mv rfl) ?_
  refine .p rfl rfl (.len rfl rfl) ?_
  refine .p rfl rfl (.eq rfl rfl) ?_
  refine .nil (.code (.keep [(14, _), (0, _), (1, _)] ⟨rfl, rfl, rfl, trivial⟩ ?_))
  refine .condD rfl (fun c14 => ?_) (fun c14 => ?_)
  · exact absurd c14 (by omega)
  · refine .skip (.code (.seq (.seq (.keep [(0, _), (1, _)] ⟨rfl, rfl, trivial⟩ (.region ?_)))))
    refine .p rfl rfl (.mv rfl) ?_
    refine .p rfl rfl (.len rfl rfl) ?_
    refine .p rfl rfl (.eq rfl rfl) ?_
    refine .nil (.code (.keep [(18, _), (0, _), (1, _)] ⟨rfl, rfl, rfl, trivial⟩ ?_))
    refine .condD rfl (fun c18 => ?_) (fun c18 => ?_)
    · have hx1 : xs.flatten = xs[0] := by
        have := flt_take (xs := xs) (i := 0) hpos
        rw [show 0 + 1 = xs.length by omega, List.take_length] at this
        simpa using this
      have hl0 : xs[0].length ≤ 1099511627776 := by rw [← hx1]; exact hlen
      obtain ⟨b1, o1, q1, ue, e, _, hcs, hre⟩ := Sl.at h (List.getElem?_eq_getElem hpos)
      cases e
      obtain ⟨ae, ce, rfl, hce⟩ := Sl.val hre
      refine .seq (.keep [(0, _)] ⟨rfl, trivial⟩ (.region ?_))
      refine .p rfl rfl (.mv rfl) ?_
      refine .p rfl rfl (.indexAddr1 rfl rfl rfl rfl (by omega)) ?_
      refine .p rfl rfl (.load rfl rfl rfl (hcs 0 _ rfl)) ?_
      refine .v rfl rfl (.appendLo (t := tByte) (xs := []) (ys := xs[0]) (Q := fun _ => False) (B := fun k => w.heap.size ≤ k) (eb := 1) rfl OwnO.nil (fun k hk => hk) rfl (Sl.holds hre (fun _ _ h => h)) rfl rfl rfl rfl rfl rfl rfl (by simp; omega) (by simp [Lim]; omega) (fun _ h _ => h.elim)) ?_
      rintro r22 w22 ⟨O22, X22⟩
      rw [List.nil_append] at O22
      refine .p rfl rfl (.as rfl) ?_
      refine .nil (.code ?_)
      refine .ret _ rfl ?_
      rw [hx1]
      exact ⟨⟨Gr.rep' O22 |> fun h => tBytes.mono h (fun k hk _ => hk.1), .inl O22⟩, (Ext.refl _).then X22 (fun k hk _ => hk)⟩
    · refine .skip (.code (.seq (.keep [(0, _), (1, _)] ⟨rfl, rfl, trivial⟩ (.region ?_))))
      refine .p rfl rfl (.as rfl) ?_
      refine .nil (.code (.seq (.seq (.region ?_))))
      refine .p rfl rfl (.mv rfl) ?_
      refine .p rfl rfl (.len rfl rfl) ?_
      refine .p rfl rfl (.no (.gt rfl rfl) (by decide)) ?_
      refine .nil (.code (.keep [(25, _), (5, _), (0, _), (1, _)] ⟨rfl, rfl, rfl, rfl, trivial⟩ (.condF rfl (.skip (.code (.seq (.seq (.keep [(5, _), (0, _), (1, _)] ⟨rfl, rfl, rfl, trivial⟩ (.region ?_)))))))))
      refine .p rfl rfl (.mv rfl) ?_
      refine .p rfl rfl (.len rfl rfl) ?_
      refine .p rfl rfl (.mv rfl) ?_
      refine .nil (.code (.block ?_))
      refine .loop (S := Nat) (fun s => [(0, .slice av xs.length cv), (1, .slice none 0 0), (5, i64 (((xs.take s).flatten.length : Nat) : Int)), (42, .slice av xs.length cv), (43, i64 xs.length), (44, i64 s)]) (fun s => w) (fun s => s ≤ xs.length) (fun s => xs.length - s) 0 ⟨rfl, rfl, rfl, rfl, rfl, rfl, trivial⟩ rfl (Nat.zero_le _) ?_
      intro i J hi' again
      refine .seq (.region ?_)
      refine .p rfl rfl (.lt rfl rfl) ?_
      refine .nil (.code (.seq ?_))
      refine .condD rfl (fun c45 => ?_) (fun c45 => ?_)
      · have hi : i < xs.length := by omega
        have ht := flat_take_le xs (i + 1)
        rw [flt_take hi, List.length_append] at ht
        obtain ⟨b1, o1, q1, ue, e, _, hcs, hre⟩ := Sl.at h (List.getElem?_eq_getElem hi)
        cases e
        obtain ⟨ae, ce, rfl, hce⟩ := Sl.val hre
        refine .skip (.code (.seq (.block (.seq (.keep [(0, _), (1, _), (5, _), (42, _), (43, _), (44, _)] ⟨rfl, rfl, rfl, rfl, rfl, rfl, trivial⟩ (.region ?_))))))
        refine .p rfl rfl (.indexAddr1 rfl rfl rfl rfl (by omega)) ?_
        refine .p rfl rfl (.load rfl rfl rfl (cell_at rfl hcs rfl)) ?_
        refine .p rfl rfl (.as rfl) ?_
        refine .nil (.code (.seq (.seq (.keep [(7, _), (0, _), (1, _), (5, _), (42, _), (43, _), (44, _)] ⟨rfl, rfl, rfl, rfl, rfl, rfl, rfl, trivial⟩ (.region ?_)))))
        refine .p rfl rfl (.mv rfl) ?_
        refine .p rfl rfl (.len rfl rfl) ?_
        refine .p rfl rfl (.mv rfl) ?_
        refine .p rfl rfl (.sub rfl rfl (by omega)) ?_
        refine .p rfl rfl (.gt rfl rfl) ?_
        refine .nil (.code (.keep [(52, _), (7, _), (0, _), (1, _), (5, _), (42, _), (43, _), (44, _)] ⟨rfl, rfl, rfl, rfl, rfl, rfl, rfl, rfl, trivial⟩ ?_))
        refine .condD rfl (fun c52 => ?_) (fun c52 => ?_)
        · exact absurd c52 (by omega)
        · refine .skip (.code (.keep [(7, _), (0, _), (1, _), (5, _), (42, _), (43, _), (44, _)] ⟨rfl, rfl, rfl, rfl, rfl, rfl, rfl, trivial⟩ (.region ?_)))
          refine .p rfl rfl (.mv rfl) ?_
          refine .p rfl rfl (.mv rfl) ?_
          refine .p rfl rfl (.len rfl rfl) ?_
          refine .p rfl rfl (.cast (.add rfl rfl (by omega)) (show i64 (((xs.take i).flatten.length : Int) + (xs[i].length : Int)) = i64 (((xs.take (i + 1)).flatten.length : Nat) : Int) by rw [flt_take hi, List.length_append]; rfl)) ?_
          refine .p rfl rfl (.as rfl) ?_
          refine .nil (.blk (.code (.keep [(5, _), (0, _), (1, _), (42, _), (43, _), (44, _)] ⟨rfl, rfl, rfl, rfl, rfl, rfl, trivial⟩ (.region ?_))))
          refine .p rfl rfl (.add rfl rfl (by omega)) ?_
          refine .p rfl rfl (.mv rfl) ?_
          refine .nil ?_
          exact (again (i + 1) (by show i + 1 ≤ _; omega) (by show _ - (i + 1) < _ - i; omega)).of ⟨rfl, rfl, rfl, rfl, rfl, rfl, trivial⟩
      · obtain rfl : i = xs.length := by omega
        rw [List.take_length]
        obtain ⟨b1, o1, q1, ue, e, _, hcs, hre⟩ := Sl.at h (List.getElem?_eq_getElem hpos)
        cases e
        obtain ⟨ae, ce, rfl, hce⟩ := Sl.val hre
        have hx0 := flat_take_le xs (0 + 1)
        rw [flt_take hpos, List.length_append] at hx0
        refine .exit rfl (.code (.seq (.keep [(0, _), (1, _), (5, _)] ⟨rfl, rfl, rfl, trivial⟩ (.region ?_))))
        refine .p rfl rfl (.mv rfl) ?_
        refine .v rfl rfl (makeNoZero_do rfl rfl (by omega)) ?_
        rintro _ w60 ⟨cs, rfl, hcl, N60⟩
        have z60 := N60.size
        refine .p rfl rfl (.mv rfl) ?_
        refine .p rfl rfl (.mv rfl) ?_
        refine .p rfl rfl (.cast (.cutHM rfl rfl rfl rfl rfl hcl) cutHM_eq) ?_
        refine .p rfl rfl (.as rfl) ?_
        refine .nil (.code (.seq (.keep [(8, _), (0, _), (1, _)] ⟨rfl, rfl, rfl, trivial⟩ (.region ?_))))
        refine .p rfl rfl (.mv rfl) ?_
        refine .p rfl rfl (.mv rfl) ?_
        refine .p rfl rfl (.indexAddr1 rfl rfl rfl rfl (by omega)) ?_
        refine .p rfl rfl (.load rfl rfl rfl ((hcs.ext N60.ext (fun x => x)) 0 _ rfl)) ?_
        refine .v rfl rfl (.copyB rfl N60.blk rfl (tBytes.ext0 hre N60.ext) rfl rfl (by omega)) ?_
        rintro _ w68 ⟨rfl, P68⟩
        have B68 : Blk w68 w.heap.size 5 ((xs.take 1).flatten.map u8 ++ cs.drop (xs.take 1).flatten.length) := by
          have e := join_put (A := []) (l := xs[0]) (D := cs) (o := 0) (n := xs.flatten.length) (.inl rfl) (by rw [List.length_nil]; omega)
          have e1 : (xs.take 1).flatten = xs[0] := by rw [show (1 : Nat) = 0 + 1 from rfl, flt_take (i := 0) hpos]; simp
          rw [e1]
          have hb := P68.blk
          have e2 : cs.take 0 ++ (xs[0].take (min xs[0].length xs.flatten.length)).map u8 ++ cs.drop (0 + min xs[0].length xs.flatten.length) = xs[0].map u8 ++ cs.drop xs[0].length := by simpa using e
          rw [e2] at hb
          exact hb
        have e9 : min xs[0].length xs.flatten.length = (xs.take (0 + 1)).flatten.length := by rw [flt_take (i := 0) hpos, List.length_append]; show _ = 0 + _; omega
        rw [e9]
        refine .p rfl rfl (.as rfl) ?_
        refine .nil (.code (.seq (.seq (.keep [(9, _), (8, _), (0, _), (1, _)] ⟨rfl, rfl, rfl, rfl, trivial⟩ (.region ?_)))))
        refine .p rfl rfl (.mv rfl) ?_
        obtain ⟨a70, c70, hv70, hc70, R70⟩ := Sl.cutE ((Sl tBytes).mono h (P' := fun k => k < w.heap.size) (fun k _ hk => hk)) 1 xs.length (by omega) (by omega)
        rw [List.take_length] at R70
        have R70 := (Sl tBytes).ext ((Sl tBytes).ext0 R70 N60.ext) P68.ext (fun k hk _ he => by have hk : k < w.heap.size := hk; have he : k = w.heap.size := he; omega)
        refine .p rfl rfl (.cast (.cutLo (s := 1) rfl rfl rfl rfl (by omega)) (by show cutV 1 _ _ ((1 : Int)).toNat xs.length = .slice a70 (xs.length - 1) c70; exact hv70)) ?_
        refine .p rfl rfl (.len rfl rfl) ?_
        refine .p rfl rfl (.mv rfl) ?_
        refine .nil (.code (.block (.keep [(72, _), (71, _), (70, _), (9, _), (8, _), (1, _)] ⟨rfl, rfl, rfl, rfl, rfl, rfl, trivial⟩ ?_)))
        refine .loop (S := Nat × World) (fun s => [(1, .slice none 0 0), (8, .slice (some ⟨w.heap.size, 0, none⟩) xs.flatten.length xs.flatten.length), (9, i64 (((xs.take (s.1 + 1)).flatten.length : Nat) : Int)), (70, .slice a70 (xs.length - 1) c70), (71, i64 ((xs.length - 1 : Nat) : Int)), (72, i64 s.1)]) (fun s => s.2) (fun s => s.1 ≤ xs.length - 1 ∧ Blk s.2 w.heap.size 5 ((xs.take (s.1 + 1)).flatten.map u8 ++ cs.drop (xs.take (s.1 + 1)).flatten.length) ∧ Ext (· = w.heap.size) w68 s.2) (fun s => xs.length - 1 - s.1) (0, w68) ⟨rfl, rfl, rfl, rfl, rfl, rfl, trivial⟩ rfl ⟨Nat.zero_le _, B68, .refl _⟩ ?_
        rintro ⟨i, wi⟩ J ⟨hi', Bi, hX⟩ again
        simp only at hi' Bi hX
        have hAle0 := flat_take_le xs (i + 1)
        change G _ [(1, .slice none 0 0), (8, .slice (some ⟨w.heap.size, 0, none⟩) xs.flatten.length xs.flatten.length), (9, i64 (((xs.take (i + 1)).flatten.length : Nat) : Int)), (70, .slice a70 (xs.length - 1) c70), (71, i64 ((xs.length - 1 : Nat) : Int)), (72, i64 i)] _ _ wi
        refine .seq (.region ?_)
        refine .p rfl rfl (.lt rfl rfl) ?_
        refine .nil (.code (.seq ?_))
        refine .condD rfl (fun c73 => ?_) (fun c73 => ?_)
        · have hi : i < (xs.drop 1).length := by rw [List.length_drop]; omega
          have hi2 : i + 1 < xs.length := by omega
          have hA : (xs.take (i + 1 + 1)).flatten = (xs.take (i + 1)).flatten ++ (xs.drop 1)[i] := by rw [flt_take hi2]; congr 1; rw [List.getElem_drop]; congr 1; omega
          have hAl : (xs.take (i + 1 + 1)).flatten.length = (xs.take (i + 1)).flatten.length + (xs.drop 1)[i].length := by rw [hA, List.length_append]
          have hAle := flat_take_le xs (i + 1 + 1)
          obtain ⟨o', hc1, ho'⟩ := cutLo_at (c := w.heap.size) (m := (xs.take (i + 1)).flatten.length) (n := xs.flatten.length)
          obtain ⟨b1, o1, q1, ue, e, _, hcs, hre⟩ := Sl.at ((Sl tBytes).ext R70 hX (fun k hk _ he => by have hk : k < w.heap.size := hk; have he : k = w.heap.size := he; omega)) (List.getElem?_eq_getElem hi)
          injection e with e1 e2 e3
          subst e1
          obtain ⟨ae, ce, rfl, hce⟩ := Sl.val hre
          refine .skip (.code (.seq (.block (.seq (.keep [(1, _), (8, _), (9, _), (70, _), (71, _), (72, _)] ⟨rfl, rfl, rfl, rfl, rfl, rfl, trivial⟩ (.region ?_))))))
          refine .p rfl rfl (.indexAddr1 rfl rfl rfl rfl (by omega)) ?_
          refine .p rfl rfl (.load rfl rfl rfl (cell_at rfl hcs rfl)) ?_
          refine .p rfl rfl (.as rfl) ?_
          refine .nil (.code (.seq (.keep [(11, _), (1, _), (8, _), (9, _), (70, _), (71, _), (72, _)] ⟨rfl, rfl, rfl, rfl, rfl, rfl, rfl, trivial⟩ (.region ?_))))
          refine .p rfl rfl (.mv rfl) ?_
          refine .p rfl rfl (.mv rfl) ?_
          refine .p rfl rfl (.mv rfl) ?_
          refine .p rfl rfl (.cast (.cutLo (s := 1) rfl rfl rfl rfl (by omega)) hc1) ?_
          refine .p rfl rfl (.mv rfl) ?_
          refine .v rfl rfl (.copyB (l := []) rfl Bi rfl (Sl.nil (P := All)) rfl rfl (by rw [List.length_append, List.length_map, List.length_drop, List.length_nil, Nat.zero_min]; omega)) ?_
          rintro _ w81 ⟨rfl, P81⟩
          have B81 := P81.blk
          have ej := join_put (A := (xs.take (i + 1)).flatten) (l := []) (D := cs.drop (xs.take (i + 1)).flatten.length) (o := o') (n := xs.flatten.length) (ho'.imp id And.left) (by rw [List.length_nil]; omega)
          rw [ej, List.append_nil, List.length_nil, List.drop_zero] at B81
          have hre := tBytes.ext hre P81.ext (fun k hk _ he => by have hk : k < w.heap.size := hk; have he : k = w.heap.size := he; omega)
          refine .p rfl rfl (.cast (.add rfl rfl (by rw [List.length_nil, Nat.zero_min]; omega)) (show _ = i64 (((xs.take (i + 1)).flatten.length : Nat) : Int) by first | rfl | (congr 1; simp))) ?_
          refine .p rfl rfl (.as rfl) ?_
          refine .nil (.code (.keep [(9, _), (11, _), (1, _), (8, _), (70, _), (71, _), (72, _)] ⟨rfl, rfl, rfl, rfl, rfl, rfl, rfl, trivial⟩ (.region ?_)))
          refine .p rfl rfl (.mv rfl) ?_
          refine .p rfl rfl (.mv rfl) ?_
          refine .p rfl rfl (.mv rfl) ?_
          refine .p rfl rfl (.cast (.cutLo (s := 1) rfl rfl rfl rfl (by omega)) hc1) ?_
          refine .p rfl rfl (.mv rfl) ?_
          refine .v rfl rfl (.copyB rfl B81 rfl hre rfl rfl (by rw [List.length_append, List.length_map, List.length_drop]; omega)) ?_
          rintro _ w88 ⟨rfl, P88⟩
          have B88 := P88.blk
          have ek := join_put (A := (xs.take (i + 1)).flatten) (l := (xs.drop 1)[i]) (D := cs.drop (xs.take (i + 1)).flatten.length) (o := o') (n := xs.flatten.length) (ho'.imp id And.left) (by omega)
          rw [ek, ← hA, List.drop_drop, ← hAl] at B88
          refine .p rfl rfl (.cast (.add rfl rfl (by omega)) (show _ = i64 (((xs.take (i + 1 + 1)).flatten.length : Nat) : Int) by congr 1; rw [hAl]; omega)) ?_
          refine .p rfl rfl (.as rfl) ?_
          refine .nil (.blk (.code (.keep [(9, _), (1, _), (8, _), (70, _), (71, _), (72, _)] ⟨rfl, rfl, rfl, rfl, rfl, rfl, trivial⟩ (.region ?_))))
          refine .p rfl rfl (.add rfl rfl (by omega)) ?_
          refine .p rfl rfl (.mv rfl) ?_
          refine .nil ?_
          exact (again (i + 1, w88) ⟨by show i + 1 ≤ _; omega, B88, (hX.trans P81.ext).trans P88.ext⟩ (by show _ - (i + 1) < _ - i; omega)).of ⟨rfl, rfl, rfl, rfl, rfl, rfl, trivial⟩
        · obtain rfl : i = xs.length - 1 := by omega
          rw [show xs.length - 1 + 1 = xs.length by omega, List.take_length] at Bi
          refine .exit rfl (.code (.seq (.keep [(8, _)] ⟨rfl, trivial⟩ (.region ?_))))
          refine .p rfl rfl (.mv rfl) ?_
          refine .p rfl rfl (.as rfl) ?_
          refine .nil (.code ?_)
          refine .ret _ rfl ?_
          exact ⟨⟨Sl.mkBytesB Bi (List.take_left' (by rw [List.length_map])) (Nat.le_refl _) (Nat.le_refl _) (by simp only [Lim]; omega) rfl, .inr ⟨_, rfl⟩⟩, (N60.ext.then P68.ext (fun k he _ => by have he : k = w.heap.size := he; omega)).then hX (fun k he _ => by have he : k = w.heap.size := he; omega)⟩
end Go.Proofs.Ythkgadhamecnlaa
