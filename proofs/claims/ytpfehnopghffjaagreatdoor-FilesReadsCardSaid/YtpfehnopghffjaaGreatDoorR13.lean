import Derived.Test.YtpfehnopghffjaaGreatDoorR08
import Derived.Test.YtpfehnopghffjaaGreatDoorR12
import Derived.Test.YtpfehnopghffjaaGreatDoorR05
set_option linter.unusedVariables false
set_option linter.unusedSimpArgs false
set_option maxRecDepth 20000
namespace Go.Proofs.YtpfehnopghffjaaGreatDoor
open Go
open room files
attribute [local irreducible] checkD writeF smallF textF put8 fileB pieceB
theorem RefWriteD_fn {w : World} {v : Value} {x : Dir} (h : tDir.rep All w v x) (hp : (allP x.fs).length ≤ 1000000) : Fn Tryz.prog 13 [v] w (fun r w2 => ∃ v', r = .tuple #[v', i64 (writeF x).2] ∧ Gr w2 v' (writeF x).1 w.heap.size ∧ Ext (fun _ => False) w w2) := by
  have h0 := h
  obtain ⟨a, cap, rfl, hf, hgen⟩ := tDir.val h
  have hlim := Sl.lim hf
  simp only [Lim] at hlim
  refine Fn.enter (fun w => Tryz.call13 _ w) Tryz.func13 rfl ?_
  refine .seq (.region ?_)
  refine .v rfl rfl (.box rfl) ?_
  rintro _ w1 ⟨rfl, N1⟩
  have B1 := N1.blk
  have X1 := N1.ext
  have z1 := N1.size
  refine .p rfl rfl (.as rfl) ?_
  refine .p rfl rfl (.as rfl) ?_
  refine .nil (.code (.seq (.seq (.keep [(1, _)] ⟨rfl, trivial⟩ (.region ?_)))))
  refine .p rfl rfl (.fieldAddr rfl rfl rfl rfl) ?_
  refine .p rfl rfl (.load rfl rfl rfl ((B1.ext (S := fun _ => False) (by repeat (first | exact Ext.refl _ | assumption | refine Ext.trans (by assumption) ?_)) (fun x => x)).cell 1)) ?_
  refine .p rfl rfl (.len rfl rfl) ?_
  refine .p rfl rfl (.gt rfl rfl) ?_
  refine .nil (.code (.keep [(13, _), (1, _)] ⟨rfl, rfl, trivial⟩ ?_))
  refine .condD rfl (fun c13 => ?_) (fun c13 => ?_)
  · refine .seq (.keep [] trivial (.region ?_))
    refine .p rfl rfl (.as rfl) ?_
    refine .p rfl rfl (.as rfl) ?_
    refine .nil (.code ?_)
    refine .ret _ rfl ?_
    rw [writeF_e (by rw [checkD_42 (by omega)]; decide), checkD_42 (by omega)]
    exact ⟨_, rfl, OwnO.nil, (by repeat (first | exact Ext.refl _ | assumption | refine Ext.trans (by assumption) ?_))⟩
  · have h32 : ¬ 32 < x.fs.length := by omega
    refine .skip (.code (.seq (.seq (.keep [(1, _)] ⟨rfl, trivial⟩ (.region ?_)))))
    refine .p rfl rfl (.loadA (n := 2) rfl rfl rfl rfl rfl (B1.ext (S := fun _ => False) (by repeat (first | exact Ext.refl _ | assumption | refine Ext.trans (by assumption) ?_)) (fun x => x)).cells) ?_
    refine .call (first := []) (captured := []) rfl rfl rfl rfl (refMay_fn (x := x) (tDir.ext0 h0 (by repeat (first | exact Ext.refl _ | assumption | refine Ext.trans (by assumption) ?_))) hp) ?_
    rintro _ w15 ⟨t15, rfl, ht15, X15⟩
    have z15 := X15.size
    refine .p rfl rfl (.not rfl) ?_
    refine .nil (.code (.keep [(16, _), (1, _)] ⟨rfl, rfl, trivial⟩ ?_))
    refine .cond rfl (fun c16 => ?_) (fun c16 => ?_)
    · refine .seq (.keep [] trivial (.region ?_))
      refine .p rfl rfl (.as rfl) ?_
      refine .p rfl rfl (.as rfl) ?_
      refine .nil (.code ?_)
      refine .ret _ rfl ?_
      have e8 := checkD_8 h32 (fun hm => by have := ht15.2 hm; rw [this] at c16; cases c16)
      rw [writeF_e (by rw [e8]; decide), e8]
      exact ⟨_, rfl, OwnO.nil, (by repeat (first | exact Ext.refl _ | assumption | refine Ext.trans (by assumption) ?_))⟩
    · have hm : mayD x := ht15.1 (by simpa using c16)
      have hc0 := checkD_0 h32 hm
      have hgp := hm.1.1
      refine .skip (.code (.seq (.keep [(1, _)] ⟨rfl, trivial⟩ (.region ?_))))
      refine .p rfl rfl (.fieldAddr rfl rfl rfl rfl) ?_
      refine .p rfl rfl (.load rfl rfl rfl ((B1.ext (S := fun _ => False) (by repeat (first | exact Ext.refl _ | assumption | refine Ext.trans (by assumption) ?_)) (fun x => x)).cell 1)) ?_
      refine .p rfl rfl (.len rfl rfl) ?_
      refine .call (first := []) (captured := []) rfl rfl rfl rfl (refSmallI_fn (n := ((x.fs.length : Nat) : Int)) (by omega)) ?_
      rintro v20 w20 ⟨G20, X20⟩
      have z20 := X20.size
      have l20 := smallF_length (((x.fs.length : Nat) : Int)).toNat
      rw [Int.toNat_natCast] at G20 l20
      refine .p rfl rfl (.as rfl) ?_
      refine .nil (.code (.seq (.seq (.keep [(4, _), (1, _)] ⟨rfl, rfl, trivial⟩ (.region ?_)))))
      refine .p rfl rfl (.as rfl) ?_
      refine .nil (.code (.block ?_))
      refine .loop (S := Nat × Bs × Value × World) (fun s => [(1, .pointer (some ⟨w.heap.size, 0, none⟩)), (4, s.2.2.1), (5, i64 s.1)]) (fun s => s.2.2.2) (fun s => s.1 ≤ x.fs.length ∧ s.2.1 = smallF x.fs.length ++ (x.fs.take s.1).flatMap fileB ∧ s.2.1.length ≤ 100 + s.1 * 100000 ∧ OwnO tByte (fun _ => False) 5 s.2.2.2 s.2.2.1 s.2.1 (fun k => w15.heap.size ≤ k) ∧ Ext (fun _ => False) w15 s.2.2.2) (fun s => x.fs.length - s.1) (0, smallF x.fs.length, v20, w20) ⟨rfl, rfl, rfl, trivial⟩ rfl ⟨Nat.zero_le _, (List.append_nil _).symm, by show (smallF x.fs.length).length ≤ 100 + 0 * 100000; omega, G20, X20⟩ ?_
      rintro ⟨i, acc, vi, wi⟩ J ⟨hi', ha, hal, hO, hX⟩ again
      simp only at hi' ha hal hO hX
      have zi := hX.size
      change G _ [(1, .pointer (some ⟨w.heap.size, 0, none⟩)), (4, vi), (5, i64 i)] _ _ wi
      refine .seq (.seq (.region ?_))
      refine .p rfl rfl (.mv rfl) ?_
      refine .p rfl rfl (.fieldAddr rfl rfl rfl rfl) ?_
      refine .p rfl rfl (.load rfl rfl rfl ((B1.ext (S := fun _ => False) (by repeat (first | exact Ext.refl _ | assumption | refine Ext.trans (by assumption) ?_)) (fun x => x)).cell 1)) ?_
      refine .p rfl rfl (.len rfl rfl) ?_
      refine .p rfl rfl (.lt rfl rfl) ?_
      refine .nil (.code (.keep [(25, _), (1, _), (4, _), (5, _)] ⟨rfl, rfl, rfl, rfl, trivial⟩ ?_))
      refine .condD rfl (fun c25 => ?_) (fun c25 => ?_)
      · have hi : i < x.fs.length := by omega
        obtain ⟨b1, o1, q1, ue1, e1, _, hcs, hre⟩ := Sl.at hf (List.getElem?_eq_getElem hi)
        cases e1
        obtain ⟨fa1, fc1, rfl, hps, hnm, hsz⟩ := tFile.val hre
        refine .skip (.code (.seq (.block (.seq (.keep [(1, _), (4, _), (5, _)] ⟨rfl, rfl, rfl, trivial⟩ (.region ?_))))))
        refine .p rfl rfl (.fieldAddr rfl rfl rfl rfl) ?_
        refine .p rfl rfl (.load rfl rfl rfl ((B1.ext (S := fun _ => False) (by repeat (first | exact Ext.refl _ | assumption | refine Ext.trans (by assumption) ?_)) (fun x => x)).cell 1)) ?_
        refine .p rfl rfl (.mv rfl) ?_
        refine .p rfl rfl (.indexAddr (s := 3) rfl rfl rfl rfl (by omega)) ?_
        refine .p rfl rfl (.loadA (n := 3) rfl rfl rfl rfl rfl (hcs.ext (S := fun _ => False) (by repeat (first | exact Ext.refl _ | assumption | refine Ext.trans (by assumption) ?_)) (fun x => x))) ?_
        refine .v rfl rfl (.alloc rfl rfl) ?_
        rintro _ wn6 ⟨rfl, N6⟩
        refine .s rfl (.storeAll (n := 3) rfl rfl rfl rfl rfl N6.blk rfl) ?_
        intro w6 P6
        have Y6 := N6.ext.then P6.ext (by rintro k rfl _; exact Nat.le_refl _)
        have zy6 := Y6.size
        have B6 := P6.blk
        clear P6 N6
        have lb6 := B6.lt
        have hn6 : ¬ ((w15.heap.size ≤ wi.heap.size ∧ wi.heap.size < wi.heap.size) ∨ w6.heap.size ≤ wi.heap.size) := by omega
        have hn1 : ¬ ((w15.heap.size ≤ w.heap.size ∧ w.heap.size < wi.heap.size) ∨ w6.heap.size ≤ w.heap.size) := by omega
        have Z6 : Ext (fun _ => False) w w6 := (by repeat (first | exact Ext.refl _ | assumption | refine Ext.trans (by assumption) ?_))
        have O6 := OwnO.mono (OwnO.ext0 (OwnO.mono hO (fun _ h _ => h) (B' := fun k => w15.heap.size ≤ k ∧ k < wi.heap.size) (fun k h hl => ⟨h, hl⟩)) Y6) (fun _ h _ => h) (B' := (fun k => (w15.heap.size ≤ k ∧ k < wi.heap.size) ∨ w6.heap.size ≤ k)) (fun k h _ => .inl h)
        obtain ⟨hnl, hsl, hpl⟩ := file_ok hm hi
        have htl := textF_lenF x.fs[i].name
        refine .nil (.code (.seq (.keep [(6, _), (1, _), (4, _), (5, _)] ⟨rfl, rfl, rfl, rfl, trivial⟩ (.region ?_))))
        refine .p rfl rfl (.mv rfl) ?_
        refine .p rfl rfl (.fieldAddr rfl rfl rfl rfl) ?_
        refine .p rfl rfl (.load rfl rfl rfl ((B6.ext (S := fun _ => False) (by repeat (first | exact Ext.refl _ | assumption | refine Ext.trans (by assumption) ?_)) (fun x => x)).cell 0)) ?_
        refine .call (first := []) (captured := []) rfl rfl rfl rfl (RefText_fn (by simp only [Lim]; omega) (by simp only [Lim]; omega)) ?_
        rintro v36 w36 ⟨G36, X36⟩
        have z36 := X36.size
        refine .v rfl rfl (.appendLo (t := tByte) (eb := 1) rfl (OwnO.ext0 O6 X36) (fun k hk => .inr (by omega)) rfl (Gr.holds (Gr.rep G36)) rfl rfl rfl rfl rfl rfl rfl (by simp only [List.length_append, Lim] at *; omega) (by simp only [Lim]; simp only [List.length_append, Lim] at *; omega) (fun _ h _ => h.elim)) ?_
        rintro v37 w37 ⟨O37, A37⟩
        have z37 := A37.size
        have T37 : Ext (fun k => (w15.heap.size ≤ k ∧ k < wi.heap.size) ∨ w6.heap.size ≤ k) w6 w37 := ((Ext.refl w6).trans (X36.mono (fun _ _ h => h.elim))).trans A37
        refine .p rfl rfl (.as rfl) ?_
        refine .nil (.code (.seq (.keep [(4, _), (6, _), (1, _), (5, _)] ⟨rfl, rfl, rfl, rfl, trivial⟩ (.region ?_))))
        refine .p rfl rfl (.mv rfl) ?_
        refine .p rfl rfl (.fieldAddr rfl rfl rfl rfl) ?_
        refine .p rfl rfl (.load rfl rfl rfl ((B6.ext T37 hn6).cell 1)) ?_
        refine .call (first := []) (captured := []) rfl rfl rfl rfl (refSmallI_fn (n := x.fs[i].size) (by omega)) ?_
        rintro v41 w41 ⟨G41, X41⟩
        have z41 := X41.size
        have l41 := smallF_length (x.fs[i].size).toNat
        refine .v rfl rfl (.appendLo (t := tByte) (eb := 1) rfl (OwnO.ext0 O37 X41) (fun k hk => .inr (by omega)) rfl (Gr.holds (Gr.rep G41)) rfl rfl rfl rfl rfl rfl rfl (by simp only [List.length_append, Lim] at *; omega) (by simp only [Lim]; simp only [List.length_append, Lim] at *; omega) (fun _ h _ => h.elim)) ?_
        rintro v42 w42 ⟨O42, A42⟩
        have z42 := A42.size
        have T42 : Ext (fun k => (w15.heap.size ≤ k ∧ k < wi.heap.size) ∨ w6.heap.size ≤ k) w6 w42 := (T37.trans (X41.mono (fun _ _ h => h.elim))).trans A42
        refine .p rfl rfl (.as rfl) ?_
        refine .nil (.code (.seq (.keep [(4, _), (6, _), (1, _), (5, _)] ⟨rfl, rfl, rfl, rfl, trivial⟩ (.region ?_))))
        refine .p rfl rfl (.mv rfl) ?_
        refine .p rfl rfl (.fieldAddr rfl rfl rfl rfl) ?_
        refine .p rfl rfl (.load rfl rfl rfl ((B6.ext T42 hn6).cell 2)) ?_
        refine .p rfl rfl (.len rfl rfl) ?_
        refine .call (first := []) (captured := []) rfl rfl rfl rfl (refSmallI_fn (n := ((x.fs[i].ps.length : Nat) : Int)) (by omega)) ?_
        rintro v47 w47 ⟨G47, X47⟩
        have z47 := X47.size
        have l47 := smallF_length (((x.fs[i].ps.length : Nat) : Int)).toNat
        rw [Int.toNat_natCast] at G47 l47
        refine .v rfl rfl (.appendLo (t := tByte) (eb := 1) rfl (OwnO.ext0 O42 X47) (fun k hk => .inr (by omega)) rfl (Gr.holds (Gr.rep G47)) rfl rfl rfl rfl rfl rfl rfl (by simp only [List.length_append, Lim] at *; omega) (by simp only [Lim]; simp only [List.length_append, Lim] at *; omega) (fun _ h _ => h.elim)) ?_
        rintro v48 w48 ⟨O48, A48⟩
        have z48 := A48.size
        have T48 : Ext (fun k => (w15.heap.size ≤ k ∧ k < wi.heap.size) ∨ w6.heap.size ≤ k) w6 w48 := (T42.trans (X47.mono (fun _ _ h => h.elim))).trans A48
        refine .p rfl rfl (.as rfl) ?_
        refine .nil (.code (.seq (.keep [(4, _), (6, _), (1, _), (5, _)] ⟨rfl, rfl, rfl, rfl, trivial⟩ (.region ?_))))
        refine .p rfl rfl (.as rfl) ?_
        refine .nil (.code (.block ?_))
        refine .loop (S := Nat × Bs × Value × World) (fun s => [(1, .pointer (some ⟨w.heap.size, 0, none⟩)), (4, s.2.2.1), (5, i64 (i : Nat)), (6, .pointer (some ⟨wi.heap.size, 0, none⟩)), (7, i64 s.1)]) (fun s => s.2.2.2) (fun s => s.1 ≤ x.fs[i].ps.length ∧ s.2.1 = acc ++ textF x.fs[i].name ++ smallF x.fs[i].size.toNat ++ smallF x.fs[i].ps.length ++ (x.fs[i].ps.take s.1).flatMap pieceB ∧ s.2.1.length ≤ 100 + i * 100000 + 100 + s.1 * 20 ∧ OwnO tByte (fun _ => False) 5 s.2.2.2 s.2.2.1 s.2.1 (fun k => (w15.heap.size ≤ k ∧ k < wi.heap.size) ∨ w6.heap.size ≤ k) ∧ Ext (fun k => (w15.heap.size ≤ k ∧ k < wi.heap.size) ∨ w6.heap.size ≤ k) w6 s.2.2.2) (fun s => x.fs[i].ps.length - s.1) (0, acc ++ textF x.fs[i].name ++ smallF x.fs[i].size.toNat ++ smallF x.fs[i].ps.length, v48, w48) ⟨rfl, rfl, rfl, rfl, rfl, trivial⟩ rfl ⟨Nat.zero_le _, (List.append_nil _).symm, by simp only [List.length_append, Int.toNat_natCast] at *; omega, O48, T48⟩ ?_
        rintro ⟨j, accj, vj, wj⟩ J2 ⟨hj', haj, hajl, hP, hY⟩ again2
        simp only at hj' haj hajl hP hY
        have zj := hY.size
        change G _ [(1, .pointer (some ⟨w.heap.size, 0, none⟩)), (4, vj), (5, i64 (i : Nat)), (6, .pointer (some ⟨wi.heap.size, 0, none⟩)), (7, i64 j)] _ _ wj
        refine .seq (.seq (.region ?_))
        refine .p rfl rfl (.mv rfl) ?_
        refine .p rfl rfl (.fieldAddr rfl rfl rfl rfl) ?_
        refine .p rfl rfl (.load rfl rfl rfl ((B6.ext hY hn6).cell 2)) ?_
        refine .p rfl rfl (.len rfl rfl) ?_
        refine .p rfl rfl (.lt rfl rfl) ?_
        refine .nil (.code (.keep [(53, _), (1, _), (4, _), (5, _), (6, _), (7, _)] ⟨rfl, rfl, rfl, rfl, rfl, rfl, trivial⟩ ?_))
        refine .condD rfl (fun c53 => ?_) (fun c53 => ?_)
        · have hj : j < x.fs[i].ps.length := by omega
          obtain ⟨bp, op, qp, up, ep, _, hcp, hrp⟩ := Sl.at hps (List.getElem?_eq_getElem hj)
          cases ep
          obtain ⟨rfl, hr1, hr2⟩ := tPiece.val hrp
          obtain ⟨hq1, hq2, hq3, hq4⟩ := piece_ok hm (List.getElem_mem hi) (List.getElem_mem hj)
          refine .skip (.code (.seq (.block (.seq (.keep [(1, _), (4, _), (5, _), (6, _), (7, _)] ⟨rfl, rfl, rfl, rfl, rfl, trivial⟩ (.region ?_))))))
          refine .p rfl rfl (.mv rfl) ?_
          refine .p rfl rfl (.fieldAddr rfl rfl rfl rfl) ?_
          refine .p rfl rfl (.load rfl rfl rfl ((B6.ext hY hn6).cell 2)) ?_
          refine .p rfl rfl (.mv rfl) ?_
          refine .p rfl rfl (.indexAddr (s := 2) rfl rfl rfl rfl (by omega)) ?_
          refine .p rfl rfl (.fieldAddr rfl rfl rfl rfl) ?_
          refine .p rfl rfl (.load rfl rfl rfl ((hcp.ext (S := fun _ => False) (Ext.then Z6 hY (fun k hk hl => by have hk : (w15.heap.size ≤ k ∧ k < wi.heap.size) ∨ w6.heap.size ≤ k := hk; omega)) (fun x => x)) 0 _ rfl)) ?_
          refine .call (first := []) (captured := []) rfl rfl rfl rfl (refSmallI_fn (n := x.fs[i].ps[j].fr) (by omega)) ?_
          rintro v63 w63 ⟨G63, X63⟩
          have z63 := X63.size
          have l63 := smallF_length (x.fs[i].ps[j].fr).toNat
          refine .v rfl rfl (.appendLo (t := tByte) (eb := 1) rfl (OwnO.ext0 hP X63) (fun k hk => .inr (by omega)) rfl (Gr.holds (Gr.rep G63)) rfl rfl rfl rfl rfl rfl rfl (by simp only [List.length_append, Lim] at *; omega) (by simp only [Lim]; simp only [List.length_append, Lim] at *; omega) (fun _ h _ => h.elim)) ?_
          rintro v64 w64 ⟨O64, A64⟩
          have z64 := A64.size
          have T64 : Ext (fun k => (w15.heap.size ≤ k ∧ k < wi.heap.size) ∨ w6.heap.size ≤ k) w6 w64 := (hY.trans (X63.mono (fun _ _ h => h.elim))).trans A64
          refine .p rfl rfl (.as rfl) ?_
          refine .nil (.code (.keep [(4, _), (1, _), (5, _), (6, _), (7, _)] ⟨rfl, rfl, rfl, rfl, rfl, trivial⟩ (.region ?_)))
          refine .p rfl rfl (.mv rfl) ?_
          refine .p rfl rfl (.fieldAddr rfl rfl rfl rfl) ?_
          refine .p rfl rfl (.load rfl rfl rfl ((B6.ext T64 hn6).cell 2)) ?_
          refine .p rfl rfl (.mv rfl) ?_
          refine .p rfl rfl (.indexAddr (s := 2) rfl rfl rfl rfl (by omega)) ?_
          refine .p rfl rfl (.fieldAddr rfl rfl rfl rfl) ?_
          refine .p rfl rfl (.load rfl rfl rfl ((hcp.ext (S := fun _ => False) (Ext.then Z6 T64 (fun k hk hl => by have hk : (w15.heap.size ≤ k ∧ k < wi.heap.size) ∨ w6.heap.size ≤ k := hk; omega)) (fun x => x)) 1 _ rfl)) ?_
          refine .call (first := []) (captured := []) rfl rfl rfl rfl (refSmallI_fn (n := x.fs[i].ps[j].ct) (by omega)) ?_
          rintro v72 w72 ⟨G72, X72⟩
          have z72 := X72.size
          have l72 := smallF_length (x.fs[i].ps[j].ct).toNat
          refine .v rfl rfl (.appendLo (t := tByte) (eb := 1) rfl (OwnO.ext0 O64 X72) (fun k hk => .inr (by omega)) rfl (Gr.holds (Gr.rep G72)) rfl rfl rfl rfl rfl rfl rfl (by simp only [List.length_append, Lim] at *; omega) (by simp only [Lim]; simp only [List.length_append, Lim] at *; omega) (fun _ h _ => h.elim)) ?_
          rintro v73 w73 ⟨O73, A73⟩
          have z73 := A73.size
          have T73 : Ext (fun k => (w15.heap.size ≤ k ∧ k < wi.heap.size) ∨ w6.heap.size ≤ k) w6 w73 := (T64.trans (X72.mono (fun _ _ h => h.elim))).trans A73
          refine .p rfl rfl (.as rfl) ?_
          refine .nil (.blk (.code (.keep [(4, _), (1, _), (5, _), (6, _), (7, _)] ⟨rfl, rfl, rfl, rfl, rfl, trivial⟩ (.region ?_))))
          refine .p rfl rfl (.mv rfl) ?_
          refine .p rfl rfl (.add rfl rfl (by omega)) ?_
          refine .p rfl rfl (.as rfl) ?_
          refine .nil ?_
          exact (again2 (j + 1, _, v73, w73) ⟨by show j + 1 ≤ _; omega, by show accj ++ _ ++ _ = _; rw [pieces_step hj, haj]; simp only [pieceB, List.append_assoc], by show (accj ++ _ ++ _).length ≤ 100 + i * 100000 + 100 + (j + 1) * 20; simp only [List.length_append] at *; omega, O73, T73⟩ (by show _ - (j + 1) < _ - j; omega)).of ⟨rfl, rfl, rfl, rfl, rfl, trivial⟩
        · obtain rfl : j = x.fs[i].ps.length := by omega
          rw [List.take_length] at haj
          refine .exit rfl (.blk (.code (.keep [(1, _), (4, _), (5, _)] ⟨rfl, rfl, rfl, trivial⟩ (.region ?_))))
          refine .p rfl rfl (.mv rfl) ?_
          refine .p rfl rfl (.add rfl rfl (by omega)) ?_
          refine .p rfl rfl (.as rfl) ?_
          refine .nil ?_
          exact (again (i + 1, accj, vj, wj) ⟨by show i + 1 ≤ _; omega, by show accj = _; rw [files_step hi, haj, ha]; simp only [fileB, List.append_assoc], by show accj.length ≤ 100 + (i + 1) * 100000; omega, OwnO.mono hP (fun _ h _ => h) (fun k h _ => by have h : (w15.heap.size ≤ k ∧ k < wi.heap.size) ∨ w6.heap.size ≤ k := h; show w15.heap.size ≤ k; omega), Ext.then (Ext.trans hX Y6) hY (fun k hk hl => by have hk : (w15.heap.size ≤ k ∧ k < wi.heap.size) ∨ w6.heap.size ≤ k := hk; omega)⟩ (by show _ - (i + 1) < _ - i; omega)).of ⟨rfl, rfl, rfl, trivial⟩
      · obtain rfl : i = x.fs.length := by omega
        rw [List.take_length] at ha
        have ha : acc = bodyD x.fs := ha
        obtain ⟨ai, ki, rfl, _⟩ := OwnO.val hO
        refine .exit rfl (.code (.seq (.seq (.keep [(1, _), (4, _)] ⟨rfl, rfl, trivial⟩ (.region ?_)))))
        refine .p rfl rfl (.mv rfl) ?_
        refine .p rfl rfl (.len rfl rfl) ?_
        refine .p rfl rfl (.gt rfl rfl) ?_
        refine .nil (.code (.keep [(76, _), (1, _), (4, _)] ⟨rfl, rfl, rfl, trivial⟩ ?_))
        refine .condD rfl (fun c76 => ?_) (fun c76 => ?_)
        · refine .seq (.keep [] trivial (.region ?_))
          refine .p rfl rfl (.as rfl) ?_
          refine .p rfl rfl (.as rfl) ?_
          refine .nil (.code ?_)
          refine .ret _ rfl ?_
          rw [writeF_42 hc0 (by rw [← ha]; omega)]
          exact ⟨_, rfl, OwnO.nil, (by repeat (first | exact Ext.refl _ | assumption | refine Ext.trans (by assumption) ?_))⟩
        · have h952 : ¬ 952 < (bodyD x.fs).length := by rw [← ha]; omega
          refine .skip (.code (.seq (.block (.keep [(1, _), (4, _)] ⟨rfl, rfl, trivial⟩ ?_))))
          refine .loop (S := Nat × Value × World) (fun s => [(1, .pointer (some ⟨w.heap.size, 0, none⟩)), (4, s.2.1)]) (fun s => s.2.2) (fun s => acc.length + s.1 ≤ 952 ∧ OwnO tByte (fun _ => False) 5 s.2.2 s.2.1 (acc ++ List.replicate s.1 (0 : UInt8)) (fun k => w15.heap.size ≤ k) ∧ Ext (fun _ => False) w15 s.2.2) (fun s => 952 - s.1) (0, .slice ai acc.length ki, wi) ⟨rfl, rfl, trivial⟩ rfl ⟨by show _ + 0 ≤ _; omega, by show OwnO _ _ _ _ _ (acc ++ []) _; rw [List.append_nil]; exact hO, hX⟩ ?_
          rintro ⟨kk, vk, wz⟩ J ⟨hk', hO, hX⟩ again
          simp only at hk' hO hX
          have zz := hX.size
          have hkl : (acc ++ List.replicate kk (0 : UInt8)).length = acc.length + kk := by rw [List.length_append, List.length_replicate]
          change G _ [(1, .pointer (some ⟨w.heap.size, 0, none⟩)), (4, vk)] _ _ wz
          refine .seq (.seq (.region ?_))
          obtain ⟨az, kz, rfl, _⟩ := OwnO.val hO
          refine .p rfl rfl (.mv rfl) ?_
          refine .p rfl rfl (.len rfl rfl) ?_
          refine .p rfl rfl (.lt rfl rfl) ?_
          refine .nil (.code (.keep [(79, _), (1, _), (4, _)] ⟨rfl, rfl, rfl, trivial⟩ ?_))
          refine .condD rfl (fun c79 => ?_) (fun c79 => ?_)
          · refine .skip (.code (.block (.keep [(1, _), (4, _)] ⟨rfl, rfl, trivial⟩ (.region ?_))))
            refine .p rfl rfl (.mv rfl) ?_
            refine .v rfl rfl (.lits rfl rfl (fun _ => by kernel_rfl)) ?_
            rintro _ w81 ⟨rfl, N81⟩
            have z81 := N81.size
            refine .v rfl rfl (.appendLo (t := tByte) (eb := 1) rfl (OwnO.ext0 hO N81.ext) (fun k hk => by show w15.heap.size ≤ k; omega) rfl (Gr.holds (P := All) (allOf (lit_byte (x := 0) N81 rfl))) rfl rfl rfl rfl rfl rfl rfl (by simp; omega) (by simp [Lim]; omega) (fun _ h _ => h.elim)) ?_
            rintro v82 w82 ⟨O82, A82⟩
            have z82 := A82.size
            refine .p rfl rfl (.as rfl) ?_
            refine .nil (.blk ?_)
            exact (again (kk + 1, v82, w82) ⟨by show _ + (kk + 1) ≤ _; omega, by rw [List.append_assoc, ← List.replicate_succ'] at O82; exact O82, (hX.trans N81.ext).then A82 (fun k h _ => by have h : w15.heap.size ≤ k := h; omega)⟩ (by show 952 - (kk + 1) < 952 - kk; omega)).of ⟨rfl, rfl, trivial⟩
          · have hkk : kk = 952 - acc.length := by omega
            have hin : (acc ++ List.replicate kk (0 : UInt8)).length = 952 := by rw [List.length_append, List.length_replicate]; omega
            generalize hI : acc ++ List.replicate kk (0 : UInt8) = inn at *
            have hR := OwnO.rep (R := fun k => k < wz.heap.size) hO (fun k h hl => hl) (fun _ h _ => h.elim)
            refine .exit rfl (.code (.seq (.keep [(1, _), (4, _)] ⟨rfl, rfl, trivial⟩ (.region ?_))))
            refine .p rfl rfl (.as rfl) ?_
            refine .nil (.code (.seq (.seq (.region ?_))))
            refine .p rfl rfl (.as rfl) ?_
            refine .nil (.code (.block ?_))
            refine .loop (S := Nat × Bs × Value × World) (fun s => [(1, .pointer (some ⟨w.heap.size, 0, none⟩)), (4, .slice az inn.length kz), (8, s.2.2.1), (9, i64 s.1)]) (fun s => s.2.2.2) (fun s => s.1 ≤ 8 ∧ s.2.1 = (List.range s.1).flatMap (fun i => put8 x.gen.toNat ++ [UInt8.ofNat i] ++ (inn.drop (i * 119)).take 119) ∧ s.2.1.length = s.1 * 128 ∧ OwnO tByte (fun _ => False) 5 s.2.2.2 s.2.2.1 s.2.1 (fun k => wz.heap.size ≤ k) ∧ Ext (fun _ => False) wz s.2.2.2) (fun s => 8 - s.1) (0, [], .slice none 0 0, wz) ⟨rfl, rfl, rfl, rfl, trivial⟩ rfl ⟨Nat.zero_le _, rfl, rfl, OwnO.nil, .refl _⟩ ?_
            rintro ⟨i, out, vq, wq⟩ J ⟨hi', hout, hol, hQ, hW⟩ again
            simp only at hi' hout hol hQ hW
            have zq := hW.size
            change G _ [(1, .pointer (some ⟨w.heap.size, 0, none⟩)), (4, .slice az inn.length kz), (8, vq), (9, i64 i)] _ _ wq
            refine .seq (.seq (.region ?_))
            refine .p rfl rfl (.mv rfl) ?_
            refine .p rfl rfl (.lt rfl rfl) ?_
            refine .nil (.code (.keep [(84, _), (1, _), (4, _), (8, _), (9, _)] ⟨rfl, rfl, rfl, rfl, rfl, trivial⟩ ?_))
            refine .condD rfl (fun c84 => ?_) (fun c84 => ?_)
            · have hi : i < 8 := by omega
              refine .skip (.code (.seq (.block (.seq (.keep [(1, _), (4, _), (8, _), (9, _)] ⟨rfl, rfl, rfl, rfl, trivial⟩ (.region ?_))))))
              refine .p rfl rfl (.mv rfl) ?_
              refine .p rfl rfl (.fieldAddr rfl rfl rfl rfl) ?_
              refine .p rfl rfl (.load rfl rfl rfl ((B1.ext (S := fun _ => False) (by repeat (first | exact Ext.refl _ | assumption | refine Ext.trans (by assumption) ?_)) (fun x => x)).cell 0)) ?_
              refine .p rfl rfl (.cast (.convU rfl rfl rfl (by omega)) (show _ = Value.int .u64 ((x.gen.toNat : Nat) : Int) by rw [Int.toNat_of_nonneg (by omega)])) ?_
              refine .call (first := []) (captured := []) rfl rfl rfl rfl (RefPut_fn (n := x.gen.toNat) (by omega)) ?_
              rintro v91 w91 ⟨R91, X91⟩
              have z91 := X91.size
              refine .v rfl rfl (.appendLo (t := tByte) (eb := 1) rfl (OwnO.ext0 hQ X91) (fun k hk => by show wz.heap.size ≤ k; omega) rfl (Gr.holds (P := All) (allOf R91)) rfl rfl rfl rfl rfl rfl rfl (by simp [put8_length]; omega) (by simp [put8_length, Lim]; omega) (fun _ h _ => h.elim)) ?_
              rintro v92 w92 ⟨O92, A92⟩
              have z92 := A92.size
              have Z92 : Ext (fun _ => False) wz w92 := (hW.trans X91).then A92 (fun k h _ => h)
              refine .p rfl rfl (.as rfl) ?_
              refine .nil (.code (.seq (.keep [(8, _), (1, _), (4, _), (9, _)] ⟨rfl, rfl, rfl, rfl, trivial⟩ (.region ?_))))
              refine .p rfl rfl (.mv rfl) ?_
              refine .p rfl rfl (.mv rfl) ?_
              refine .p rfl rfl (.cast (.convB rfl rfl rfl (by omega)) (show _ = u8 (UInt8.ofNat i) by rw [Int.toNat_natCast])) ?_
              refine .v rfl rfl (.lits rfl rfl (fun _ => by kernel_rfl)) ?_
              rintro _ w96 ⟨rfl, N96⟩
              have z96 := N96.size
              refine .v rfl rfl (.appendLo (t := tByte) (eb := 1) rfl (OwnO.ext0 O92 N96.ext) (fun k hk => by show wz.heap.size ≤ k; omega) rfl (Gr.holds (P := All) (allOf (lit_byte N96 rfl))) rfl rfl rfl rfl rfl rfl rfl (by simp [put8_length]; omega) (by simp [put8_length, Lim]; omega) (fun _ h _ => h.elim)) ?_
              rintro v97 w97 ⟨O97, A97⟩
              have z97 := A97.size
              have Z97 : Ext (fun _ => False) wz w97 := (Z92.trans N96.ext).then A97 (fun k h _ => h)
              refine .p rfl rfl (.as rfl) ?_
              refine .nil (.code (.keep [(8, _), (1, _), (4, _), (9, _)] ⟨rfl, rfl, rfl, rfl, trivial⟩ (.region ?_)))
              refine .p rfl rfl (.mv rfl) ?_
              refine .p rfl rfl (.mv rfl) ?_
              refine .p rfl rfl (.mv rfl) ?_
              refine .p rfl rfl (.mul rfl rfl (by omega)) ?_
              refine .p rfl rfl (.mv rfl) ?_
              refine .p rfl rfl (.mul rfl rfl (by omega)) ?_
              refine .p rfl rfl (.add rfl rfl (by omega)) ?_
              refine .p rfl rfl (.cast (.cut (s := 1) rfl rfl rfl rfl rfl (by omega)) (show cutV 1 az kz ((i : Int) * 119).toNat ((i : Int) * 119 + 119).toNat = cutV 1 az kz (i * 119) (i * 119 + 119) by congr 1 <;> omega)) ?_
              refine .v rfl rfl (.appendLo (t := tByte) (eb := 1) rfl O97 (fun k hk => by show wz.heap.size ≤ k; omega) rfl (Gr.holds (P := All) (tBytes.ext0 (allOf (Sl.cut hR (i * 119) (i * 119 + 119) (by omega) (by omega))) Z97)) rfl rfl rfl rfl rfl rfl rfl (by simp [put8_length]; omega) (by simp [put8_length, Lim]; omega) (fun _ h _ => h.elim)) ?_
              rintro v106 w106 ⟨O106, A106⟩
              have z106 := A106.size
              refine .p rfl rfl (.as rfl) ?_
              refine .nil (.blk (.code (.keep [(8, _), (1, _), (4, _), (9, _)] ⟨rfl, rfl, rfl, rfl, trivial⟩ (.region ?_))))
              refine .p rfl rfl (.mv rfl) ?_
              refine .p rfl rfl (.add rfl rfl (by omega)) ?_
              refine .p rfl rfl (.as rfl) ?_
              refine .nil ?_
              exact (again (i + 1, _, v106, w106) ⟨by show i + 1 ≤ _; omega, by show out ++ _ ++ _ ++ _ = _; rw [slots_step, hout, show (inn.take (i * 119 + 119)).drop (i * 119) = (inn.drop (i * 119)).take 119 by rw [List.drop_take]; congr 1; omega], by simp only [List.length_append, List.length_drop, List.length_take, put8_length, List.length_cons, List.length_nil]; omega, O106, Z97.then A106 (fun k h _ => h)⟩ (by show 8 - (i + 1) < 8 - i; omega)).of ⟨rfl, rfl, rfl, rfl, trivial⟩
            · obtain rfl : i = 8 := by omega
              refine .exit rfl (.code (.seq (.keep [(8, _)] ⟨rfl, trivial⟩ (.region ?_))))
              refine .p rfl rfl (.mv rfl) ?_
              refine .p rfl rfl (.as rfl) ?_
              refine .p rfl rfl (.as rfl) ?_
              refine .nil (.code ?_)
              refine .ret _ rfl ?_
              rw [writeF_0 hc0 h952, ← ha, ← hkk, hI]
              refine ⟨_, rfl, ?_, (by repeat (first | exact Ext.refl _ | assumption | refine Ext.trans (by assumption) ?_))⟩
              have : slotsD x.gen.toNat inn = out := by rw [hout]; rfl
              rw [this]
              exact OwnO.mono hQ (fun _ h _ => h) (fun k h _ => by have h : wz.heap.size ≤ k := h; show w.heap.size ≤ k; omega)
end Go.Proofs.YtpfehnopghffjaaGreatDoor
namespace Go.Proofs.YtpfehnopghffjaaGreatDoor
open Go
theorem readOk_no {b : Bs} {k : Nat} (hk : k ≤ b.length) (ha : ∀ j (h : j < b.length), j < k → 128 ≤ b[j].toNat) (h : b.length ≤ k ∨ 10 ≤ k) : ¬ readOk b := by
  have := lead_ge b k hk ha
  rintro ⟨h1, h2, _⟩
  omega
theorem readOk_iff {b : Bs} {k : Nat} (hk : k < b.length) (h9 : k < 10) (ha : ∀ j (h : j < b.length), j < k → 128 ≤ b[j].toNat) (hb : (b.getD k 0).toNat < 128) : readOk b ↔ (¬ (k = 9 ∧ 1 < (b.getD k 0).toNat) ∧ ¬ (0 < k ∧ (b.getD k 0).toNat = 0)) := by
  have e := lead_eq hk ha (by rw [getD_at hk] at hb; exact hb)
  unfold readOk
  rw [e]
  exact ⟨fun h => ⟨h.2.2.1, h.2.2.2⟩, fun h => ⟨hk, by omega, h.1, h.2⟩⟩
theorem leadN_of {b : Bs} {k : Nat} (hk : k < b.length) (ha : ∀ j (h : j < b.length), j < k → 128 ≤ b[j].toNat) (hb : (b.getD k 0).toNat < 128) : leadN b = k := lead_eq hk ha (by rw [getD_at hk] at hb; exact hb)
theorem RefRead_fn {w : World} {v : Value} {b : Bs} (h : tBytes.rep All w v b) : Fn Tryz.prog 117 [v] w (fun r w2 => r = .tuple #[.int .u64 ((readF b).1 : Nat), i64 ((readF b).2.1 : Nat), i64 (readF b).2.2] ∧ Ext (fun _ => False) w w2) := by
  obtain ⟨a, cap, rfl, hcap⟩ := Sl.val h
  have hlim := Sl.lim h
  simp only [Lim] at hlim
  refine Fn.enter (fun w => Tryz.call117 _ w) Tryz.func117 rfl ?_
  refine .seq (.region ?_)
  refine .p rfl rfl (.as rfl) ?_
  refine .p rfl rfl (.as rfl) ?_
  refine .p rfl rfl (.as rfl) ?_
  refine .nil (.code (.seq (.keep [(0, _)] ⟨rfl, trivial⟩ (.region ?_))))
  refine .p rfl rfl (.as rfl) ?_
  refine .nil (.code (.seq (.block ?_)))
  refine .loop (S := Nat) (fun s => [(0, .slice a b.length cap), (5, i64 s)]) (fun s => w) (fun s => s ≤ b.length ∧ s ≤ 10 ∧ ∀ j (h : j < b.length), j < s → 128 ≤ b[j].toNat) (fun s => b.length - s) 0 ⟨rfl, rfl, trivial⟩ rfl ⟨Nat.zero_le _, Nat.zero_le _, fun j _ h => absurd h (Nat.not_lt_zero _)⟩ ?_
  rintro k J ⟨hk1, hk10, ha⟩ again
  refine .seq (.seq ?_)
  refine .meet (S := Bool) (fun s => [(0, .slice a b.length cap), (5, i64 k), (22, .bool s)]) (fun s => w) (fun s => (s = true → k < b.length ∧ k < 10 ∧ 128 ≤ (b.getD k 0).toNat) ∧ (s = false → ¬ (k < b.length ∧ k < 10 ∧ 128 ≤ (b.getD k 0).toNat))) ?_ ?_
  · rintro q hq
    refine .code ?_
    refine .cond rfl (fun c22 => ?_) (fun c22 => ?_)
    · refine .skip (.code (.block (.keep [(0, _), (5, _)] ⟨rfl, rfl, trivial⟩ (.region ?_))))
      refine .p rfl rfl (.mv rfl) ?_
      refine .p rfl rfl (.add rfl rfl (by omega)) ?_
      refine .p rfl rfl (.as rfl) ?_
      refine .nil (.blk ?_)
      obtain ⟨g1, g2, g3⟩ := hq.1 c22
      exact (again (k + 1) ⟨by omega, by omega, fun j hj hlt => by
        rcases Nat.lt_or_ge j k with h2 | h2
        · exact ha j hj h2
        · have : j = k := by omega
          subst this
          rw [getD_at hj] at g3
          exact g3⟩ (by show _ - (k + 1) < _ - k; omega)).of ⟨rfl, rfl, trivial⟩
    · have hex := hq.2 c22
      have hno := readOk_no (b := b) (k := k) hk1 ha
      have hyes : k < b.length → k < 10 → (readOk b ↔ (¬ (k = 9 ∧ 1 < (b.getD k 0).toNat) ∧ ¬ (0 < k ∧ (b.getD k 0).toNat = 0))) := fun h1 h2 => readOk_iff h1 h2 ha (by omega)
      refine .exit rfl (.code (.seq (.seq (.keep [(0, _), (5, _)] ⟨rfl, rfl, trivial⟩ ?_))))
      refine .meet (S := Bool) (fun s => [(0, .slice a b.length cap), (5, i64 k), (53, .bool s)]) (fun s => w) (fun s => s = decide (¬ readOk b)) ?_ ?_
      · rintro _ rfl
        refine .code ?_
        refine .condD rfl (fun c53 => ?_) (fun c53 => ?_)
        · refine .seq (.keep [] trivial (.region ?_))
          refine .p rfl rfl (.as rfl) ?_
          refine .p rfl rfl (.as rfl) ?_
          refine .p rfl rfl (.as rfl) ?_
          refine .nil (.code ?_)
          refine .ret _ rfl ?_
          have e : readF b = (0, 0, 8) := by unfold readF; rw [if_neg c53]
          rw [e]
          exact ⟨rfl, .refl _⟩
        · have hok : readOk b := Decidable.not_not.1 c53
          have hkl : k < b.length := by have := hno; rcases Nat.lt_or_ge k b.length with h | h; exact h; exact absurd hok (hno (.inl h))
          have hk9 : k < 10 := by rcases Nat.lt_or_ge k 10 with h | h; exact h; exact absurd hok (hno (.inr h))
          have hlead := leadN_of hkl ha (by omega)
          have hsb := (sum_bd b (i := k) (by omega) (fun e => by have := ((hyes hkl hk9).1 hok).1; omega)).2
          refine .skip (.code (.seq (.keep [(0, _), (5, _)] ⟨rfl, rfl, trivial⟩ (.region ?_))))
          refine .p rfl rfl (.as rfl) ?_
          refine .nil (.code (.seq (.seq (.region ?_))))
          refine .p rfl rfl (.mv rfl) ?_
          refine .p rfl rfl (.as rfl) ?_
          refine .nil (.code (.block (.keep [(7, _), (6, _), (0, _), (5, _)] ⟨rfl, rfl, rfl, rfl, trivial⟩ ?_)))
          refine .loop (S := Nat × Nat × Int) (fun s => [(0, .slice a b.length cap), (5, i64 k), (6, .int .u64 (s.2.1 : Nat)), (7, i64 s.2.2)]) (fun s => w) (fun s => s.1 ≤ k + 1 ∧ sumTo b (k + 1) = sumTo b s.1 + s.2.1 * 128 ^ s.1 ∧ s.2.2 = (s.1 : Int) - 1) (fun s => s.1) (k + 1, 0, k) ⟨rfl, rfl, rfl, rfl, trivial⟩ rfl ⟨Nat.le_refl _, by simp, by show (k : Int) = ((k + 1 : Nat) : Int) - 1; omega⟩ ?_
          rintro ⟨s, n, z⟩ J ⟨hs, hsum, hz⟩ again
          simp only at hs hsum hz
          change G _ [(0, .slice a b.length cap), (5, i64 k), (6, .int .u64 (n : Nat)), (7, i64 z)] _ _ w
          refine .seq (.seq (.region ?_))
          refine .p rfl rfl (.mv rfl) ?_
          refine .p rfl rfl (.ge rfl rfl) ?_
          refine .nil (.code (.keep [(56, _), (0, _), (5, _), (6, _), (7, _)] ⟨rfl, rfl, rfl, rfl, rfl, trivial⟩ ?_))
          refine .condD rfl (fun c56 => ?_) (fun c56 => ?_)
          · obtain ⟨t, rfl⟩ : ∃ t, s = t + 1 := ⟨s - 1, by omega⟩
            have hkt : t < b.length := by omega
            obtain ⟨b1, o1, e1, _, hc6⟩ := Sl.byteAt h hkt
            cases e1
            obtain rfl : z = (t : Int) := by omega
            have hgt : (b.getD t 0).toNat = b[t].toNat := by rw [getD_at hkt]
            have hst : sumTo b (k + 1) = sumTo b t + (n * 128 + b[t].toNat % 128) * 128 ^ t := by rw [hsum, sumTo, hgt, Nat.pow_succ, Nat.add_mul, Nat.mul_assoc, Nat.mul_comm 128 (128 ^ t)]; omega
            have hnb : n * 128 + b[t].toNat % 128 < 18446744073709551616 := by have := Nat.le_mul_of_pos_right (n * 128 + b[t].toNat % 128) (Nat.pow_pos (n := t) (show 0 < 128 by decide)); omega
            have hmod : (b[t] % 128).toNat = b[t].toNat % 128 := by rw [UInt8.toNat_mod]; rfl
            have e7 : ((t : Nat) : Int).toNat = t := by omega
            refine .skip (.code (.seq (.block (.keep [(0, _), (5, _), (6, _), (7, _)] ⟨rfl, rfl, rfl, rfl, trivial⟩ (.region ?_)))))
            refine .p rfl rfl (.mv rfl) ?_
            refine .p rfl rfl (.mulU rfl rfl (by omega)) ?_
            refine .p rfl rfl (.mv rfl) ?_
            refine .p rfl rfl (.mv rfl) ?_
            refine .p rfl rfl (.indexAddr1 rfl rfl rfl rfl (by omega)) ?_
            refine .p rfl rfl (.load rfl rfl rfl (by rw [e7]; exact hc6)) ?_
            refine .p rfl rfl (.rem8 (b := 128) rfl rfl (by decide)) ?_
            refine .p rfl rfl (.conv8_U rfl rfl rfl) ?_
            refine .p rfl rfl (.cast (.addU rfl rfl (by omega)) (show _ = Value.int .u64 ((n * 128 + b[t].toNat % 128 : Nat) : Int) by rw [hmod]; rfl)) ?_
            refine .p rfl rfl (.as rfl) ?_
            refine .nil (.blk (.code (.keep [(6, _), (0, _), (5, _), (7, _)] ⟨rfl, rfl, rfl, rfl, trivial⟩ (.region ?_))))
            refine .p rfl rfl (.mv rfl) ?_
            refine .p rfl rfl (.sub rfl rfl (by omega)) ?_
            refine .p rfl rfl (.as rfl) ?_
            refine .nil ?_
            exact (again (t, n * 128 + b[t].toNat % 128, (t : Int) - 1) ⟨by show t ≤ k + 1; omega, hst, rfl⟩ (by show t < t + 1; omega)).of ⟨rfl, rfl, rfl, rfl, trivial⟩
          · refine .exit rfl (.code (.seq (.keep [(5, _), (6, _)] ⟨rfl, rfl, trivial⟩ (.region ?_))))
            refine .p rfl rfl (.mv rfl) ?_
            refine .p rfl rfl (.mv rfl) ?_
            refine .p rfl rfl (.add rfl rfl (by omega)) ?_
            refine .p rfl rfl (.as rfl) ?_
            refine .p rfl rfl (.as rfl) ?_
            refine .p rfl rfl (.as rfl) ?_
            refine .nil (.code ?_)
            refine .ret _ rfl ?_
            have h0 : s = 0 := by omega
            subst h0
            have e : readF b = (sumTo b (k + 1), k + 1, 0) := by unfold readF; rw [if_pos hok, hlead]
            have e2 : sumTo b (k + 1) = n := by rw [hsum]; simp [sumTo]
            rw [e, e2]
            exact ⟨rfl, .refl _⟩
      · intro meet
        refine .region ?_
        refine .p rfl rfl (.mv rfl) ?_
        refine .p rfl rfl (.mv rfl) ?_
        refine .p rfl rfl (.len rfl rfl) ?_
        refine .p rfl rfl (.ge rfl rfl) ?_
        refine .p rfl rfl (.mv rfl) ?_
        refine .caseD 29 rfl (fun c29 => ?_) (fun c29 => ?_)
        · refine .skip rfl rfl ?_
          refine .skip rfl rfl ?_
          refine .p rfl rfl (.pickT rfl rfl) ?_
          refine .p rfl rfl (.mv rfl) ?_
          refine .skip rfl rfl ?_
          refine .skip rfl rfl ?_
          refine .skip rfl rfl ?_
          refine .skip rfl rfl ?_
          refine .skip rfl rfl ?_
          refine .skip rfl rfl ?_
          refine .skip rfl rfl ?_
          refine .skip rfl rfl ?_
          refine .p rfl rfl (.pickT rfl rfl) ?_
          refine .p rfl rfl (.mv rfl) ?_
          refine .skip rfl rfl ?_
          refine .skip rfl rfl ?_
          refine .skip rfl rfl ?_
          refine .skip rfl rfl ?_
          refine .skip rfl rfl ?_
          refine .skip rfl rfl ?_
          refine .skip rfl rfl ?_
          refine .skip rfl rfl ?_
          refine .skip rfl rfl ?_
          refine .p rfl rfl (.pickT rfl rfl) ?_
          refine .nil ?_
          exact (meet _ (by first | exact (decide_eq_true (hno (by omega))).symm | exact (decide_eq_true (by rw [hyes (by omega) (by omega)]; omega)).symm | exact (decide_eq_false (by rw [hyes (by omega) (by omega)]; omega)).symm | exact decide_eq_decide.2 (by rw [hyes (by omega) (by omega)]; omega))).of ⟨rfl, rfl, rfl, trivial⟩
        · refine .p rfl rfl (.mv rfl) ?_
          refine .p rfl rfl (.ge rfl rfl) ?_
          refine .p rfl rfl (.pickF rfl rfl) ?_
          refine .p rfl rfl (.mv rfl) ?_
          refine .caseD 33 rfl (fun c33 => ?_) (fun c33 => ?_)
          · refine .skip rfl rfl ?_
            refine .skip rfl rfl ?_
            refine .skip rfl rfl ?_
            refine .skip rfl rfl ?_
            refine .skip rfl rfl ?_
            refine .skip rfl rfl ?_
            refine .skip rfl rfl ?_
            refine .skip rfl rfl ?_
            refine .p rfl rfl (.pickT rfl rfl) ?_
            refine .p rfl rfl (.mv rfl) ?_
            refine .skip rfl rfl ?_
            refine .skip rfl rfl ?_
            refine .skip rfl rfl ?_
            refine .skip rfl rfl ?_
            refine .skip rfl rfl ?_
            refine .skip rfl rfl ?_
            refine .skip rfl rfl ?_
            refine .skip rfl rfl ?_
            refine .skip rfl rfl ?_
            refine .p rfl rfl (.pickT rfl rfl) ?_
            refine .nil ?_
            exact (meet _ (by first | exact (decide_eq_true (hno (by omega))).symm | exact (decide_eq_true (by rw [hyes (by omega) (by omega)]; omega)).symm | exact (decide_eq_false (by rw [hyes (by omega) (by omega)]; omega)).symm | exact decide_eq_decide.2 (by rw [hyes (by omega) (by omega)]; omega))).of ⟨rfl, rfl, rfl, trivial⟩
          · refine .p rfl rfl (.mv rfl) ?_
            refine .p rfl rfl (.eq rfl rfl) ?_
            refine .p rfl rfl (.mv rfl) ?_
            refine .caseD 36 rfl (fun c36 => ?_) (fun c36 => ?_)
            · have h99 : k = 9 := by omega
              have hk : 9 < b.length := by omega
              obtain ⟨b1, o1, e1, _, hc9⟩ := Sl.byteAt h hk
              cases e1
              have hgk : (b.getD k 0).toNat = b[9].toNat := by rw [h99, getD_at hk]
              refine .p rfl rfl (.mv rfl) ?_
              refine .p rfl rfl (.indexAddr1 rfl rfl rfl rfl (by omega)) ?_
              refine .p rfl rfl (.load rfl rfl rfl hc9) ?_
              refine .p rfl rfl (.gt rfl rfl) ?_
              refine .p rfl rfl (.pickT rfl rfl) ?_
              refine .p rfl rfl (.pickF rfl rfl) ?_
              refine .p rfl rfl (.mv rfl) ?_
              refine .caseD 43 rfl (fun c43 => ?_) (fun c43 => ?_)
              · refine .skip rfl rfl ?_
                refine .skip rfl rfl ?_
                refine .skip rfl rfl ?_
                refine .skip rfl rfl ?_
                refine .skip rfl rfl ?_
                refine .skip rfl rfl ?_
                refine .skip rfl rfl ?_
                refine .skip rfl rfl ?_
                refine .skip rfl rfl ?_
                refine .p rfl rfl (.pickT rfl rfl) ?_
                refine .nil ?_
                exact (meet _ (by first | exact (decide_eq_true (hno (by omega))).symm | exact (decide_eq_true (by rw [hyes (by omega) (by omega)]; omega)).symm | exact (decide_eq_false (by rw [hyes (by omega) (by omega)]; omega)).symm | exact decide_eq_decide.2 (by rw [hyes (by omega) (by omega)]; omega))).of ⟨rfl, rfl, rfl, trivial⟩
              · refine .p rfl rfl (.mv rfl) ?_
                refine .p rfl rfl (.gt rfl rfl) ?_
                refine .p rfl rfl (.mv rfl) ?_
                refine .caseD 46 rfl (fun c46 => ?_) (fun c46 => ?_)
                · have hk : k < b.length := by omega
                  obtain ⟨b1, o1, e1, _, hc5⟩ := Sl.byteAt h hk
                  cases e1
                  have hgk5 : (b.getD k 0).toNat = b[k].toNat := by rw [getD_at hk]
                  refine .p rfl rfl (.mv rfl) ?_
                  refine .p rfl rfl (.mv rfl) ?_
                  refine .p rfl rfl (.indexAddr1 rfl rfl rfl rfl (by omega)) ?_
                  refine .p rfl rfl (.load rfl rfl rfl hc5) ?_
                  refine .p rfl rfl (.eq rfl rfl) ?_
                  refine .p rfl rfl (.pickT rfl rfl) ?_
                  refine .p rfl rfl (.pickF rfl rfl) ?_
                  refine .nil ?_
                  exact (meet _ (by first | exact (decide_eq_true (hno (by omega))).symm | exact (decide_eq_true (by rw [hyes (by omega) (by omega)]; omega)).symm | exact (decide_eq_false (by rw [hyes (by omega) (by omega)]; omega)).symm | exact decide_eq_decide.2 (by rw [hyes (by omega) (by omega)]; omega))).of ⟨rfl, rfl, rfl, trivial⟩
                · refine .skip rfl rfl ?_
                  refine .skip rfl rfl ?_
                  refine .skip rfl rfl ?_
                  refine .skip rfl rfl ?_
                  refine .skip rfl rfl ?_
                  refine .p rfl rfl (.pickF rfl rfl) ?_
                  refine .p rfl rfl (.pickF rfl rfl) ?_
                  refine .nil ?_
                  exact (meet _ (by first | exact (decide_eq_true (hno (by omega))).symm | exact (decide_eq_true (by rw [hyes (by omega) (by omega)]; omega)).symm | exact (decide_eq_false (by rw [hyes (by omega) (by omega)]; omega)).symm | exact decide_eq_decide.2 (by rw [hyes (by omega) (by omega)]; omega))).of ⟨rfl, rfl, rfl, trivial⟩
            · refine .skip rfl rfl ?_
              refine .skip rfl rfl ?_
              refine .skip rfl rfl ?_
              refine .skip rfl rfl ?_
              refine .p rfl rfl (.pickF rfl rfl) ?_
              refine .p rfl rfl (.pickF rfl rfl) ?_
              refine .p rfl rfl (.mv rfl) ?_
              refine .p rfl rfl (.mv rfl) ?_
              refine .p rfl rfl (.gt rfl rfl) ?_
              refine .p rfl rfl (.mv rfl) ?_
              refine .caseD 46 rfl (fun c46 => ?_) (fun c46 => ?_)
              · have hk : k < b.length := by omega
                obtain ⟨b1, o1, e1, _, hc5⟩ := Sl.byteAt h hk
                cases e1
                have hgk5 : (b.getD k 0).toNat = b[k].toNat := by rw [getD_at hk]
                refine .p rfl rfl (.mv rfl) ?_
                refine .p rfl rfl (.mv rfl) ?_
                refine .p rfl rfl (.indexAddr1 rfl rfl rfl rfl (by omega)) ?_
                refine .p rfl rfl (.load rfl rfl rfl hc5) ?_
                refine .p rfl rfl (.eq rfl rfl) ?_
                refine .p rfl rfl (.pickT rfl rfl) ?_
                refine .p rfl rfl (.pickF rfl rfl) ?_
                refine .nil ?_
                exact (meet _ (by first | exact (decide_eq_true (hno (by omega))).symm | exact (decide_eq_true (by rw [hyes (by omega) (by omega)]; omega)).symm | exact (decide_eq_false (by rw [hyes (by omega) (by omega)]; omega)).symm | exact decide_eq_decide.2 (by rw [hyes (by omega) (by omega)]; omega))).of ⟨rfl, rfl, rfl, trivial⟩
              · refine .skip rfl rfl ?_
                refine .skip rfl rfl ?_
                refine .skip rfl rfl ?_
                refine .skip rfl rfl ?_
                refine .skip rfl rfl ?_
                refine .p rfl rfl (.pickF rfl rfl) ?_
                refine .p rfl rfl (.pickF rfl rfl) ?_
                refine .nil ?_
                exact (meet _ (by first | exact (decide_eq_true (hno (by omega))).symm | exact (decide_eq_true (by rw [hyes (by omega) (by omega)]; omega)).symm | exact (decide_eq_false (by rw [hyes (by omega) (by omega)]; omega)).symm | exact decide_eq_decide.2 (by rw [hyes (by omega) (by omega)]; omega))).of ⟨rfl, rfl, rfl, trivial⟩
  · intro meet
    refine .region ?_
    refine .p rfl rfl (.mv rfl) ?_
    refine .p rfl rfl (.mv rfl) ?_
    refine .p rfl rfl (.len rfl rfl) ?_
    refine .p rfl rfl (.lt rfl rfl) ?_
    refine .p rfl rfl (.mv rfl) ?_
    refine .caseD 12 rfl (fun c12 => ?_) (fun c12 => ?_)
    · refine .p rfl rfl (.mv rfl) ?_
      refine .p rfl rfl (.lt rfl rfl) ?_
      refine .p rfl rfl (.pickT rfl rfl) ?_
      refine .p rfl rfl (.mv rfl) ?_
      refine .caseD 16 rfl (fun c16 => ?_) (fun c16 => ?_)
      · have hk : k < b.length := by omega
        obtain ⟨b1, o1, e1, _, hc⟩ := Sl.byteAt h hk
        cases e1
        have hgk : (b.getD k 0).toNat = b[k].toNat := by rw [getD_at hk]
        refine .p rfl rfl (.mv rfl) ?_
        refine .p rfl rfl (.mv rfl) ?_
        refine .p rfl rfl (.indexAddr1 rfl rfl rfl rfl (by omega)) ?_
        refine .p rfl rfl (.load rfl rfl rfl hc) ?_
        refine .p rfl rfl (.ge rfl rfl) ?_
        refine .p rfl rfl (.pickT rfl rfl) ?_
        refine .nil ?_
        exact (meet _ ⟨by intro hf; first | (cases hf; done) | (have hf := of_decide_eq_true hf; omega), by intro hf; first | (cases hf; done) | (intro hx; omega) | (have hf := of_decide_eq_false hf; omega)⟩).of ⟨rfl, rfl, rfl, trivial⟩
      · refine .skip rfl rfl ?_
        refine .skip rfl rfl ?_
        refine .skip rfl rfl ?_
        refine .skip rfl rfl ?_
        refine .skip rfl rfl ?_
        refine .p rfl rfl (.pickF rfl rfl) ?_
        refine .nil ?_
        exact (meet _ ⟨by intro hf; first | (cases hf; done) | (have hf := of_decide_eq_true hf; omega), by intro hf; first | (cases hf; done) | (intro hx; omega) | (have hf := of_decide_eq_false hf; omega)⟩).of ⟨rfl, rfl, rfl, trivial⟩
    · refine .skip rfl rfl ?_
      refine .skip rfl rfl ?_
      refine .p rfl rfl (.pickF rfl rfl) ?_
      refine .p rfl rfl (.mv rfl) ?_
      refine .skip rfl rfl ?_
      refine .skip rfl rfl ?_
      refine .skip rfl rfl ?_
      refine .skip rfl rfl ?_
      refine .skip rfl rfl ?_
      refine .p rfl rfl (.pickF rfl rfl) ?_
      refine .nil ?_
      exact (meet _ ⟨by intro hf; first | (cases hf; done) | (have hf := of_decide_eq_true hf; omega), by intro hf; first | (cases hf; done) | (intro hx; omega) | (have hf := of_decide_eq_false hf; omega)⟩).of ⟨rfl, rfl, rfl, trivial⟩
theorem RefCut_fn {w : World} {v : Value} {b : Bs} (h : tBytes.rep All w v b) : Fn Tryz.prog 63 [v] w (fun r w2 => ∃ v', r = .tuple #[str (cutF b).1, v', i64 (cutF b).2.2] ∧ Gr w2 v' (cutF b).2.1 w.heap.size ∧ Ext (fun _ => False) w w2) := by
  obtain ⟨a, cap, rfl, hcap⟩ := Sl.val h
  obtain ⟨hr1, hr2⟩ := readF_bd b
  have hlim := Sl.lim h
  simp only [Lim] at hlim
  refine Fn.enter (fun w => Tryz.call63 _ w) Tryz.func63 rfl ?_
  refine .seq (.region ?_)
  refine .p rfl rfl (.as rfl) ?_
  refine .p rfl rfl (.as rfl) ?_
  refine .p rfl rfl (.as rfl) ?_
  refine .nil (.code (.seq (.keep [(0, _)] ⟨rfl, trivial⟩ (.region ?_))))
  refine .p rfl rfl (.mv rfl) ?_
  refine .call (first := []) (captured := []) rfl rfl rfl rfl (RefRead_fn h) ?_
  rintro _ w12 ⟨rfl, X12⟩
  have z12 := X12.size
  refine .p rfl rfl (.mv rfl) ?_
  refine .p rfl rfl (.extract rfl rfl) ?_
  refine .p rfl rfl (.extract rfl rfl) ?_
  refine .p rfl rfl (.extract rfl rfl) ?_
  refine .p rfl rfl (.as rfl) ?_
  refine .p rfl rfl (.as rfl) ?_
  refine .p rfl rfl (.as rfl) ?_
  refine .nil (.code (.seq (.seq (.keep [(7, _), (6, _), (5, _), (0, _)] ⟨rfl, rfl, rfl, rfl, trivial⟩ (.region ?_)))))
  refine .p rfl rfl (.mv rfl) ?_
  refine .p rfl rfl (.ne rfl rfl) ?_
  refine .p rfl rfl (.mv rfl) ?_
  refine .caseD 18 rfl (fun c18 => ?_) (fun c18 => ?_)
  · refine .skip rfl rfl ?_
    refine .skip rfl rfl ?_
    refine .skip rfl rfl ?_
    refine .skip rfl rfl ?_
    refine .skip rfl rfl ?_
    refine .skip rfl rfl ?_
    refine .skip rfl rfl ?_
    refine .p rfl rfl (.pickT rfl rfl) ?_
    refine .nil (.code (.keep [(26, _), (6, _), (5, _), (0, _)] ⟨rfl, rfl, rfl, rfl, trivial⟩ (.condT rfl (.seq (.keep [] trivial (.region ?_))))))
    refine .p rfl rfl (.as rfl) ?_
    refine .p rfl rfl (.as rfl) ?_
    refine .p rfl rfl (.as rfl) ?_
    refine .nil (.code ?_)
    refine .ret _ rfl ?_
    exact ⟨_, by unfold cutF; rw [if_pos (.inl c18)]; rfl, by unfold cutF; rw [if_pos (.inl c18)]; exact OwnO.nil, X12⟩
  · refine .p rfl rfl (.mv rfl) ?_
    refine .p rfl rfl (.mv rfl) ?_
    refine .p rfl rfl (.len rfl rfl) ?_
    refine .p rfl rfl (.mv rfl) ?_
    refine .p rfl rfl (.sub rfl rfl (by omega)) ?_
    refine .p rfl rfl (.convU rfl rfl rfl (by omega)) ?_
    refine .p rfl rfl (.gt rfl rfl) ?_
    refine .p rfl rfl (.pickF rfl rfl) ?_
    refine .nil (.code (.keep [(26, _), (6, _), (5, _), (0, _)] ⟨rfl, rfl, rfl, rfl, trivial⟩ ?_))
    refine .condD rfl (fun c26 => ?_) (fun c26 => ?_)
    · refine .seq (.keep [] trivial (.region ?_))
      refine .p rfl rfl (.as rfl) ?_
      refine .p rfl rfl (.as rfl) ?_
      refine .p rfl rfl (.as rfl) ?_
      refine .nil (.code ?_)
      refine .ret _ rfl ?_
      exact ⟨_, by unfold cutF; rw [if_pos (.inr (by omega))]; rfl, by unfold cutF; rw [if_pos (.inr (by omega))]; exact OwnO.nil, X12⟩
    · obtain ⟨a34, c34, hv34, hc34, R34⟩ := Sl.cutE h ((readF b).2.1 + (readF b).1) b.length (by omega) (by omega)
      rw [List.take_length] at R34
      obtain ⟨a39, c39, hv39, hc39, R39⟩ := Sl.cutE h (readF b).2.1 ((readF b).2.1 + (readF b).1) (by omega) (by omega)
      refine .skip (.code (.seq (.keep [(6, _), (5, _), (0, _)] ⟨rfl, rfl, rfl, trivial⟩ (.region ?_))))
      refine .p rfl rfl (.mv rfl) ?_
      refine .p rfl rfl (.mv rfl) ?_
      refine .p rfl rfl (.convI rfl rfl rfl (by omega)) ?_
      refine .p rfl rfl (.cast (.add rfl rfl (by omega)) (show _ = i64 (((readF b).2.1 + (readF b).1 : Nat) : Int) from congrArg i64 (by omega))) ?_
      refine .p rfl rfl (.as rfl) ?_
      refine .nil (.code (.seq (.keep [(8, _), (6, _), (0, _)] ⟨rfl, rfl, rfl, trivial⟩ (.region ?_))))
      refine .p rfl rfl (.as rfl) ?_
      refine .nil (.code (.seq (.region ?_)))
      refine .p rfl rfl (.mv rfl) ?_
      refine .p rfl rfl (.mv rfl) ?_
      refine .p rfl rfl (.mv rfl) ?_
      refine .p rfl rfl (.cast (.cutLo (s := 1) rfl rfl rfl rfl (by omega)) (show cutV 1 a cap (((readF b).2.1 + (readF b).1 : Nat) : Int).toNat b.length = .slice a34 (b.length - ((readF b).2.1 + (readF b).1)) c34 by rw [Int.toNat_natCast]; exact hv34)) ?_
      refine .v rfl rfl (.appendLo (t := tByte) (Q := fun _ => False) (B := fun k => w.heap.size ≤ k) (eb := 1) rfl OwnO.nil (fun k hk => by have hk : w12.heap.size ≤ k := hk; show w.heap.size ≤ k; omega) rfl (Sl.holds (tBytes.ext0 R34 X12) (fun _ _ h => h)) rfl rfl rfl rfl rfl rfl rfl (by simp; omega) (by simp [Lim]; omega) (fun _ h _ => h.elim)) ?_
      rintro r35 w35 ⟨G35, Y35⟩
      refine .p rfl rfl (.as rfl) ?_
      refine .nil (.code (.seq (.keep [(9, _), (8, _), (6, _), (0, _)] ⟨rfl, rfl, rfl, rfl, trivial⟩ (.region ?_))))
      refine .p rfl rfl (.mv rfl) ?_
      refine .p rfl rfl (.mv rfl) ?_
      refine .p rfl rfl (.mv rfl) ?_
      refine .p rfl rfl (.cast (.cut (s := 1) rfl rfl rfl rfl rfl (by omega)) (show cutV 1 a cap ((readF b).2.1 : Int).toNat (((readF b).2.1 + (readF b).1 : Nat) : Int).toNat = .slice a39 ((readF b).2.1 + (readF b).1 - (readF b).2.1) c39 by rw [Int.toNat_natCast, Int.toNat_natCast]; exact hv39)) ?_
      refine .p rfl rfl (.bytesStr rfl (tBytes.ext R39 (X12.then Y35 (fun k hk _ => hk)) (fun _ _ _ h => h)) rfl rfl rfl) ?_
      refine .p rfl rfl (.mv rfl) ?_
      refine .p rfl rfl (.as rfl) ?_
      refine .p rfl rfl (.as rfl) ?_
      refine .p rfl rfl (.as rfl) ?_
      refine .nil (.code ?_)
      refine .ret _ rfl ?_
      have e : cutF b = ((b.drop (readF b).2.1).take (readF b).1, (b.drop (readF b).2.1).drop (readF b).1, 0) := by unfold cutF; rw [if_neg (fun h => h.elim c18 (by omega))]
      have e1 : (b.take ((readF b).2.1 + (readF b).1)).drop (readF b).2.1 = (b.drop (readF b).2.1).take (readF b).1 := by rw [List.drop_take, Nat.add_sub_cancel_left]
      rw [e, e1, List.drop_drop]
      exact ⟨_, rfl, by simpa using G35, X12.then Y35 (fun k hk _ => hk)⟩
end Go.Proofs.YtpfehnopghffjaaGreatDoor
namespace Go.Proofs.YtpfehnopghffjaaGreatDoor
open Go
theorem RefGet_fn {w : World} {v : Value} {l : Bs} (h : tBytes.rep All w v l) : Fn Tryz.prog 61 [v] w (fun r w2 => r = .tuple #[.int .u64 (if l.length = 8 then getTo l 8 else 0 : Nat), i64 (if l.length = 8 then 0 else 8)] ∧ Same w w2) := by
  obtain ⟨a, cap, rfl, hcap⟩ := Sl.val h
  refine Fn.enter (fun w => Tryz.call61 _ w) Tryz.func61 rfl ?_
  refine .seq (.region ?_)
  refine .p rfl rfl (.as rfl) ?_
  refine .p rfl rfl (.as rfl) ?_
  refine .nil (.code (.seq (.seq (.keep [(0, _)] ⟨rfl, trivial⟩ (.region ?_)))))
  refine .p rfl rfl (.mv rfl) ?_
  refine .p rfl rfl (.len rfl rfl) ?_
  refine .p rfl rfl (.ne rfl rfl) ?_
  refine .nil (.code (.keep [(8, _), (0, _)] ⟨rfl, rfl, trivial⟩ ?_))
  refine .condD rfl (fun c8 => ?_) (fun c8 => ?_)
  · refine .seq (.keep [] trivial (.region ?_))
    refine .p rfl rfl (.as rfl) ?_
    refine .p rfl rfl (.as rfl) ?_
    refine .nil (.code ?_)
    refine .ret _ rfl ?_
    rw [if_neg (by omega), if_neg (by omega)]
    exact ⟨rfl, .refl _⟩
  · have hl8 : l.length = 8 := by omega
    refine .skip (.code (.seq (.keep [(0, _)] ⟨rfl, trivial⟩ (.region ?_))))
    refine .p rfl rfl (.as rfl) ?_
    refine .nil (.code (.seq (.seq (.region ?_))))
    refine .p rfl rfl (.as rfl) ?_
    refine .nil (.code (.block ?_))
    refine .loop (S := Nat) (fun s => [(5, i64 (7 - (s : Int))), (0, .slice a l.length cap), (4, .int .u64 (hiTo l s : Nat))]) (fun s => w) (fun s => s ≤ 8) (fun s => 8 - s) 0 ⟨rfl, rfl, rfl, trivial⟩ rfl (Nat.zero_le _) ?_
    intro j J hj again
    refine .seq (.seq (.region ?_))
    refine .p rfl rfl (.mv rfl) ?_
    refine .p rfl rfl (.ge rfl rfl) ?_
    refine .nil (.code (.keep [(10, _), (5, _), (0, _), (4, _)] ⟨rfl, rfl, rfl, rfl, trivial⟩ ?_))
    refine .condD rfl (fun c10 => ?_) (fun c10 => ?_)
    · have hj8 : j < 8 := by omega
      have hk : 7 - j < l.length := by omega
      obtain ⟨b, o, rfl, _, hc⟩ := Sl.byteAt h hk
      have e7 : (7 - (j : Int)).toNat = 7 - j := by omega
      have hgd : l.getD (7 - j) 0 = l[7 - j] := by rw [List.getD, List.getElem?_eq_getElem hk]; rfl
      have hlt := hiTo_bd l (j := j + 1) (by omega)
      rw [hiTo, hgd] at hlt
      have hbl := l[7 - j].toNat_lt
      refine .skip (.code (.seq (.block (.keep [(5, _), (0, _), (4, _)] ⟨rfl, rfl, rfl, trivial⟩ (.region ?_)))))
      refine .p rfl rfl (.mv rfl) ?_
      refine .p rfl rfl (.mulU rfl rfl (by omega)) ?_
      refine .p rfl rfl (.mv rfl) ?_
      refine .p rfl rfl (.mv rfl) ?_
      refine .p rfl rfl (.indexAddr1 rfl rfl rfl rfl (by omega)) ?_
      refine .p rfl rfl (.load rfl rfl rfl (by rw [e7]; exact hc)) ?_
      refine .p rfl rfl (.conv8_U rfl rfl rfl) ?_
      refine .p rfl rfl (.cast (.addU rfl rfl (by omega)) (by show Value.int .u64 _ = Value.int .u64 ((hiTo l (j + 1) : Nat) : Int); rw [hiTo, hgd]; simp)) ?_
      refine .p rfl rfl (.as rfl) ?_
      refine .nil (.blk (.code (.keep [(4, _), (5, _), (0, _)] ⟨rfl, rfl, rfl, trivial⟩ (.region ?_))))
      refine .p rfl rfl (.mv rfl) ?_
      refine .p rfl rfl (.sub rfl rfl (by omega)) ?_
      refine .p rfl rfl (.as rfl) ?_
      refine .nil ?_
      exact (again (j + 1) (by show j + 1 ≤ 8; omega) (by show 8 - (j + 1) < 8 - j; omega)).of ⟨by show some (i64 (7 - (j : Int) - 1)) = some (i64 (7 - ((j + 1 : Nat) : Int))); congr 2; omega, rfl, rfl, trivial⟩
    · refine .exit rfl (.code (.seq (.keep [(4, _)] ⟨rfl, trivial⟩ (.region ?_))))
      refine .p rfl rfl (.mv rfl) ?_
      refine .p rfl rfl (.as rfl) ?_
      refine .p rfl rfl (.as rfl) ?_
      refine .nil (.code ?_)
      refine .ret _ rfl ?_
      obtain rfl : j = 8 := by omega
      rw [if_pos hl8, if_pos hl8, ← hiTo_8]
      exact ⟨rfl, .refl _⟩
end Go.Proofs.YtpfehnopghffjaaGreatDoor
