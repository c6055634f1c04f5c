/- The device: Read of a sector that is there, of a device that lives. Conditions: none else. -/
import Derived.Test.YtdnjjdpenfhpeaaDvCopy
namespace Go.Proofs.Ytdnjjdpenfhpeaa
set_option linter.unusedSimpArgs false
set_option linter.unusedVariables false
open Go.RowKit

theorem Reads.at {w : World} {v : Value} {n : Nat} {xs : List Value} (h : Reads 1 w v n xs) (k : Nat) (hk : k < n) (u : Value) (hu : xs[k]? = some u) :
    ∃ b o c, v = .slice (some ⟨b, o, none⟩) n c ∧ b < w.heap.size ∧ n ≤ c ∧ w.cell? ⟨b, o + k, none⟩ = some u := by
  obtain ⟨ao, c, rfl, hl, hc, hr⟩ := h
  obtain ⟨b, o, rfl, hb, hcell⟩ := hr (by omega)
  exact ⟨b, o, c, rfl, hb, hc, hcell k u hu⟩

theorem Reads.shape {K : Nat} {w : World} {v : Value} {n : Nat} {xs : List Value} (h : Reads K w v n xs) : ∃ a c, v = .slice a n c := by
  obtain ⟨a, c, e, _⟩ := h; exact ⟨a, c, e⟩

theorem own_max {w : World} {base e K n : Nat} {v : Value} {xs : List Value} (h : w.ownsRow base e K v n xs) : n ≤ 9223372036854775807 := by
  rcases h.2 with ⟨_, rfl⟩ | ⟨g, cap, cur, _, _, _, hnc, hcm, _⟩
  · omega
  · unfold maxLen at hcm; omega
theorem overC_snoc (i : Nat) (c : List (Nat × List UInt8)) (x : Nat × List UInt8) (b : List UInt8) : overC i (c ++ [x]) b = if x.1 = i then x.2 else overC i c b := by simp [overC, List.foldl_append]
theorem overC_len {i : Nat} {c : List (Nat × List UInt8)} {b : List UInt8} (hb : b.length = 128) (hc : ∀ x ∈ c, x.2.length = 128) : (overC i c b).length = 128 := by
  induction c generalizing b with
  | nil => exact hb
  | cons x r ih =>
    refine ih ?_ (fun y hy => hc y (List.mem_cons_of_mem _ hy))
    show (if x.1 = i then x.2 else b).length = 128
    split
    · exact hc x (List.mem_cons_self ..)
    · exact hb
theorem padS_len {s : List UInt8} (h : s = [] ∨ s.length = 128) : (padS s).length = 128 := by
  unfold padS
  split
  · simp [zsec]
  · rename_i hn; exact h.resolve_left hn
theorem Dv.sec_len {D : Dv} (h : D.ok) {i : Nat} (hi : i < D.l.length) : (D.sec i).length = 128 := by
  refine overC_len (padS_len ?_) (fun x hx => (h.c x hx).2)
  rw [List.getD_eq_getElem?_getD, List.getElem?_eq_getElem hi]
  exact h.l _ (List.getElem_mem hi)

theorem Ces.at {w : World} {v : Value} {n : Nat} {l : List Ce} (h : Reads 2 w v n (ccel l)) (k : Nat) (hk : k < n) (e : Ce) (hu : l[k]? = some e) :
    ∃ b o c, v = .slice (some ⟨b, o, none⟩) n c ∧ b < w.heap.size ∧ n ≤ c ∧ w.cell? ⟨b, o + k * 2, none⟩ = some (.int .i64 (e.1 : Int)) ∧ w.cell? ⟨b, o + k * 2 + 1, none⟩ = some e.2.2 := by
  obtain ⟨ao, c, rfl, hl, hc, hr⟩ := h
  obtain ⟨b, o, rfl, hb, hcell⟩ := hr (by omega)
  obtain ⟨h1, h2⟩ := ccel_at l k e hu
  exact ⟨b, o, c, rfl, hb, hc, hcell _ _ h1, hcell _ _ h2⟩

set_option maxRecDepth 100000 in
set_option maxHeartbeats 1600000 in
theorem dread_dv {W0 w : World} {d : Nat} {D : Dv} {S : Nat → Prop} (h : DV W0 d D S w) (hdead : D.dead = false) (i : Nat) (hi : i < D.l.length) :
    Calls Try.prog 28 #[.pointer (some ⟨d, 0, none⟩), .int .i64 (i : Nat)] w fun e w' => ∃ g, e = .returned (.tuple #[.slice (some ⟨g, 0, none⟩) 128 128, .int .i64 0]) ∧ DV W0 d { D with calls := wrapC D.calls } S w' ∧ Buf w' g (D.sec i) ∧ w.heap.size ≤ g ∧ GrowX (fun k => k = d) w w' := by
  obtain ⟨vl, vc, EL, EC, K, h1, h2, h3, rfl⟩ := h
  have hln : D.l.length = EL.length := by rw [h1.lis, List.length_map]
  obtain ⟨nl, hnl⟩ : ∃ n, EL.length = n := ⟨_, rfl⟩
  obtain ⟨nc, hnc⟩ : ∃ n, EC.length = n := ⟨_, rfl⟩
  have hiL : i < EL.length := by omega
  have hinl : i < nl := by omega
  have hnl2 : nl ≤ 8192 := by have := h1.ok.n; omega
  -- the sector as it lies
  have hsl := h1.ltx EL[i] (List.getElem_mem hiL)
  have hsok : EL[i].1 = [] ∨ EL[i].1.length = 128 := h1.ok.l _ (by rw [h1.lis]; exact List.mem_map_of_mem (List.getElem_mem hiL))
  have hrl := Reads.of_own h1.lrow
  obtain ⟨b, o, cl, ev, hbl, hcl, hce⟩ := Reads.at hrl i hiL EL[i].2 (by rw [List.getElem?_map, List.getElem?_eq_getElem hiL]; rfl)
  have hsec : D.sec i = overC i D.c (padS EL[i].1) := by
    unfold Dv.sec
    rw [List.getD_eq_getElem?_getD, h1.lis, List.getElem?_map, List.getElem?_eq_getElem hiL]
    rfl
  have hbd : b ≠ d := (h1.kl b (by rw [ev]; rfl)).2.1
  obtain ⟨ac, cc, evc⟩ := own_shape h1.crow
  have hncm : nc ≤ 9223372036854775807 := by have := own_max h1.crow; omega
  have c0 := h1.box.cell 0 _ rfl
  have c1 := h1.box.cell 1 _ rfl
  have c3 := h1.box.cell 3 _ rfl
  have c4 := h1.box.cell 4 _ rfl
  have ff := h1.box.free
  have hlt := h1.box.lt
  generalize EL[i] = x at *
  obtain ⟨sx, vx⟩ := x
  obtain ⟨ax, cx, hvx⟩ := hsl.1.shape
  have HS := Lib.hid hsl
  have HE := Lib.hid hsec
  have HK := Lib.hid hsok
  have H1 := Lib.hid h1
  have H3 := Lib.hid h3
  obtain ⟨ns, hns⟩ : ∃ n, sx.length = n := ⟨_, rfl⟩
  simp only at hce hvx
  rw [hns] at hvx
  rw [hvx] at hce
  rw [ev, hnl] at c0
  rw [evc, hnc] at c1
  rw [hdead] at c3
  have HNC := Lib.hid hnc
  have HNL := Lib.hid hnl
  have HNS := Lib.hid hns
  have HVX := Lib.hid hvx
  have HEV := Lib.hid ev
  have HEC := Lib.hid evc
  obtain ⟨ca, hca⟩ : ∃ c, D.calls = c := ⟨_, rfl⟩
  rw [hca] at c4
  have HCA := Lib.hid hca
  have hb1 : decide ((i : Int) < 0) = false := by simp
  have hb2 : decide ((nl : Int) ≤ (i : Int)) = false := by simp; omega
  have hb3 : decide ((i : Int) ≥ (nl : Int)) = false := by simp; omega
  have hb4 : decide (nl ≤ i) = false := by simp; omega
  clear h1 h3 hsl hsec hsok hrl hln hnl hnc hiL hi hdead hns hvx ev evc hca hcl
  have HD2 : Hid (DvAt ((w.setCell ⟨d, 4, none⟩ (.int .i64 (wrap64 (ca + 1)))).alloc (.cells Z128 5)) W0.heap.size d { D with calls := wrapC D.calls } vl vc EL EC K ∧
      GrowX (fun k => k = d) w ((w.setCell ⟨d, 4, none⟩ (.int .i64 (wrap64 (ca + 1)))).alloc (.cells Z128 5))) := Lib.hid (by
    obtain ⟨k1, k2⟩ := Box.set1 H1.out.box 4 (.int .i64 (wrapC D.calls))
    have k3 : GrowX (fun k => k = d) w (w.setCell ⟨d, 4, none⟩ (.int .i64 (wrapC D.calls))) := GrowX.of_growC k2 (fun k o h => h.1)
    have k4 : DvAt (w.setCell ⟨d, 4, none⟩ (.int .i64 (wrapC D.calls))) W0.heap.size d { D with calls := wrapC D.calls } vl vc EL EC K := H1.out.put (by exact k1) k3 rfl rfl ⟨H1.out.ok.l, H1.out.ok.c, H1.out.ok.n, H1.out.ok.f1, H1.out.ok.f2⟩
    rw [HCA.out] at k3 k4
    have k5 : GrowX (fun _ => False) (w.setCell ⟨d, 4, none⟩ (.int .i64 (wrapC ca))) ((w.setCell ⟨d, 4, none⟩ (.int .i64 (wrapC ca))).alloc (.cells Z128 5)) := grow_below ((Below.refl _ _).alloc (Nat.le_refl _) _)
    rw [HCA.out]
    exact ⟨k4.grow k5 (fun h => h) (fun _ _ h => h) (fun _ _ h => h) (fun _ _ h => h), k3.step k5 (fun _ _ h => h.elim)⟩)
  have hsz0 : (w.setCell ⟨d, 4, none⟩ (.int .i64 (wrap64 (ca + 1)))).heap.size = w.heap.size := by simp [World.setCell]
  have HBF : Hid (Buf ((w.setCell ⟨d, 4, none⟩ (.int .i64 (wrap64 (ca + 1)))).alloc (.cells Z128 5)) w.heap.size zsec) := Lib.hid (by
    have := Buf.zero (w.setCell ⟨d, 4, none⟩ (.int .i64 (wrap64 (ca + 1))))
    rw [hsz0] at this; exact this)
  have HRV : Hid (Reads 1 ((w.setCell ⟨d, 4, none⟩ (.int .i64 (wrap64 (ca + 1)))).alloc (.cells Z128 5)) (.slice ax ns cx) sx.length (sx.map B)) := Lib.hid (by
    have := (HS.out.grow HD2.out.2 (fun k hk e => H1.out.kd (e ▸ hk))).1
    rw [HVX.out] at this; exact this)
  have HFR : Hid (w.heap.size ≠ d ∧ (∀ q, vl.ownBlock = some q → ¬ q = w.heap.size) ∧ (∀ q, vc.ownBlock = some q → ¬ q = w.heap.size) ∧ ∀ q, K q → ¬ q = w.heap.size) := Lib.hid ⟨by omega, fun q e => by have := (H1.out.lrow.lt q e).2; omega, fun q e => by have := (H1.out.crow.lt q e).2; omega, fun q e => by have := (H1.out.kin q e).2; omega⟩
  have hzl : zsec.length = 128 := by simp [zsec]
  have HZL := Lib.hid hzl
  obtain ⟨gb, hgb⟩ : ∃ g, w.heap.size = g := ⟨_, rfl⟩
  rw [hgb] at HFR
  have HGB := Lib.hid hgb
  have hltg : d < gb := by omega
  have hmk := make128
  clear hzl hgb hsz0
  go_enter Try.func28, Try.ntmps28
  go_wp2_with (with_reducible refine wpList_copy_all rfl (.tmp 32) (.tmp 39) rfl w.heap.size 128 zsec sx (.slice ax ns cx) ?p1 ?p2 ?p3 ?p4 ?p5 ?p6 ?p7)
  case p3 => exact HBF.out
  case p4 => exact HZL.out
  case p5 => exact HRV.out
  case p6 => exact HK.out
  intro w2 n2 hbuf2 hgr2
  rw [HGB.out] at hbuf2 hgr2
  have hbuf2' : Buf w2 gb (padS sx) := hbuf2
  have HW2 : Hid (DvAt w2 W0.heap.size d { D with calls := wrapC D.calls } vl vc EL EC K ∧ GrowX (fun k => k = d) w w2) := Lib.hid ⟨HD2.out.1.grow hgr2 (fun e => HFR.out.1 e.symm) HFR.out.2.1 HFR.out.2.2.1 HFR.out.2.2.2, HD2.out.2.step hgr2 (fun q hq e => by rw [HGB.out] at hq; omega)⟩
  have HBF2 := Lib.hid hbuf2'
  have c1 := HW2.out.1.box.cell 1 _ rfl
  rw [HEC.out, HNC.out] at c1
  clear c0 c3 c4 ff HD2 HBF HRV hbuf2 hbuf2' hgr2 hce
  rw [HGB.out]
  go_wp2_with fail
  go_loopw [46] (fun z wr => ∃ j : Nat, j ≤ nc ∧ z = .int .i64 j ∧ DvAt wr W0.heap.size d { D with calls := wrapC D.calls } vl vc EL EC K ∧ GrowX (fun k => k = d) w wr ∧ Buf wr gb (overC i (D.c.take j) (padS sx))) (fun z _ => nc - (intOf z).toNat)
  case atStart => exact ⟨0, Nat.zero_le _, rfl, HW2.out.1, HW2.out.2, by simpa [overC] using HBF2.out⟩
  case round =>
    obtain ⟨j, hj, rfl, hat, hgw, hbf⟩ := hrel
    have HAT := Lib.hid hat
    have HGW := Lib.hid hgw
    have HBW := Lib.hid hbf
    clear hat hgw hbf HBF2 HW2
    by_cases hjn : j < nc
    case neg =>
      have hjb : decide (j < nc) = false := by simpa using hjn
      go_wp2_with fail
      go_ret2
      refine ⟨gb, rfl, ⟨vl, vc, EL, EC, K, HAT.out, h2, ?_, rfl⟩, ?_, by rw [HGB.out]; exact Nat.le_refl _, HGW.out⟩
      · exact H3.out.trans (HGW.out.below (fun k hk => ⟨Nat.lt_of_lt_of_le hk H3.out.size, fun e => by omega⟩))
      · rw [HE.out]
        have e : D.c.take j = D.c := List.take_of_length_le (by rw [H1.out.cis, List.length_map, HNC.out]; omega)
        have := HBW.out
        rw [e] at this
        exact this
    have hjb : decide (j < nc) = true := by simpa using hjn
    have HJN := Lib.hid hjn
    have hje : j < EC.length := by rw [HNC.out]; exact hjn
    have hjc : j < D.c.length := by rw [H1.out.cis, List.length_map]; exact hje
    have htk : D.c.take (j + 1) = D.c.take j ++ [(EC[j].1, EC[j].2.1)] := by
      rw [List.take_succ_eq_append_getElem hjc]
      congr 2
      simp only [H1.out.cis, List.getElem_map]
    have hctx := HAT.out.ctx EC[j] (List.getElem_mem hje)
    have hlen : EC[j].2.1.length = 128 := (H1.out.ok.c (EC[j].1, EC[j].2.1) (by rw [H1.out.cis]; exact List.mem_map_of_mem (f := fun e : Ce => (e.1, e.2.1)) (List.getElem_mem hje))).2
    obtain ⟨b2, o2, c2, e2, hb2l, _, hc1, hc2⟩ := Ces.at (Reads.of_own HAT.out.crow) j hje EC[j] (List.getElem?_eq_getElem hje)
    rw [HEC.out] at e2
    injection e2 with e21 e22 e23
    subst e21 e23
    clear e22
    have HTK := Lib.hid htk
    have HCX := Lib.hid hctx
    generalize EC[j] = y at *
    obtain ⟨y1, yl, yv⟩ := y
    obtain ⟨ay, cy, hyv⟩ := hctx.1.shape
    simp only at hc1 hc2 hyv hlen
    rw [hlen] at hyv
    rw [hyv] at hc2
    have HLN := Lib.hid hlen
    have HYV := Lib.hid hyv
    clear htk hctx hlen hyv hjc hje
    have hal : GrowX (fun _ => False) wr (wr.alloc (.cells #[.int .i64 (y1 : Nat), .slice ay 128 cy] 91)) := grow_below ((Below.refl _ _).alloc (Nat.le_refl _) _)
    have HA2 : Hid (DvAt (wr.alloc (.cells #[.int .i64 (y1 : Nat), .slice ay 128 cy] 91)) W0.heap.size d { D with calls := wrapC D.calls } vl vc EL EC K) := Lib.hid (HAT.out.grow hal (fun h => h) (fun _ _ h => h) (fun _ _ h => h) (fun _ _ h => h))
    have HG2 : Hid (GrowX (fun k => k = d) w (wr.alloc (.cells #[.int .i64 (y1 : Nat), .slice ay 128 cy] 91))) := Lib.hid (HGW.out.step hal (fun _ _ h => h.elim))
    have HB2 : Hid (Buf (wr.alloc (.cells #[.int .i64 (y1 : Nat), .slice ay 128 cy] 91)) gb (overC i (D.c.take j) (padS sx))) := Lib.hid (HBW.out.growx hal (fun h => h))
    have HBL : Hid ((overC i (D.c.take j) (padS sx)).length = 128) := Lib.hid (overC_len (padS_len HK.out) (fun x hx => (H1.out.ok.c x (List.mem_of_mem_take hx)).2))
    have HV2 : Hid (Reads 1 (wr.alloc (.cells #[.int .i64 (y1 : Nat), .slice ay 128 cy] 91)) (.slice ay 128 cy) yl.length (yl.map B)) := Lib.hid (by
      have := (HCX.out.grow hal (fun _ _ h => h)).1
      simp only [HYV.out] at this; exact this)
    have HO2 : Hid (yl = [] ∨ yl.length = 128) := Lib.hid (.inr HLN.out)
    obtain ⟨wv, hwv⟩ : ∃ u, wr.heap.size = u := ⟨_, rfl⟩
    have cx0 := (Box.new wr #[.int .i64 (y1 : Nat), .slice ay 128 cy] 91 rfl).cell 0 _ rfl
    have cx1 := (Box.new wr #[.int .i64 (y1 : Nat), .slice ay 128 cy] 91 rfl).cell 1 _ rfl
    clear hal hwv
    by_cases hyi : y1 = i
    · have hyb : (((y1 : Nat) : Int) == ((i : Nat) : Int)) = true := by simp [hyi]
      have hyb2 : (y1 == i) = true := by simp [hyi]
      have HYI := Lib.hid hyi
      clear hyi
      go_wp2_with (with_reducible refine wpList_copy_all rfl (.tmp 54) (.tmp 56) rfl gb 128 (overC i (D.c.take j) (padS sx)) yl (.slice ay 128 cy) ?q1 ?q2 ?q3 ?q4 ?q5 ?q6 ?q7)
      case q3 => exact HB2.out
      case q4 => exact HBL.out
      case q5 => exact HV2.out
      case q6 => exact HO2.out
      intro w3 n3 hbuf3 hgr3
      have hov : overL (overC i (D.c.take j) (padS sx)) yl = overC i (D.c.take (j + 1)) (padS sx) := by
        rw [HTK.out, overC_snoc, if_pos HYI.out]
        unfold overL
        rw [if_neg (fun e => by have := HLN.out; rw [e] at this; cases this)]
      rw [hov] at hbuf3
      have HB3 := Lib.hid hbuf3
      have HA3 : Hid (DvAt w3 W0.heap.size d { D with calls := wrapC D.calls } vl vc EL EC K) := Lib.hid (HA2.out.grow hgr3 (fun e => HFR.out.1 e.symm) HFR.out.2.1 HFR.out.2.2.1 HFR.out.2.2.2)
      have HG3 : Hid (GrowX (fun k => k = d) w w3) := Lib.hid (HG2.out.step hgr3 (fun q hq e => by have := HGB.out; omega))
      clear hbuf3 hgr3 hov cx0 cx1
      go_wp2_with fail
      go_roundw
      case rel => exact ⟨j + 1, by have := HJN.out; omega, by go_num, HA3.out, HG3.out, HB3.out⟩
      case measure => have := HJN.out; simp [intOf]; omega
    · have hyb : (((y1 : Nat) : Int) == ((i : Nat) : Int)) = false := by simp; omega
      have hyb2 : (y1 == i) = false := by simpa using hyi
      go_wp2_with fail
      go_roundw
      case rel => exact ⟨j + 1, by have := HJN.out; omega, by go_num, HA2.out, HG2.out, by rw [HTK.out, overC_snoc, if_neg hyi]; exact HB2.out⟩
      case measure => have := HJN.out; simp [intOf]; omega
end Go.Proofs.Ytdnjjdpenfhpeaa
