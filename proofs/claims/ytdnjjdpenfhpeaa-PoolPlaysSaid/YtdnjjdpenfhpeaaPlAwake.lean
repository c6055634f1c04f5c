/- layer 5: awake. Conditions: none. -/
import Derived.Test.YtdnjjdpenfhpeaaPlNew
import Derived.Test.YtdnjjdpenfhpeaaPlPage
namespace Go.Proofs.Ytdnjjdpenfhpeaa
set_option linter.unusedSimpArgs false
set_option linter.unusedVariables false
open Go.RowKit

theorem run_str_reads {P : Program} {w : World} {src dst e : TypeId} {n : Nat} {v : Value} (hs : P.underlying src = some (.slice e)) (he : P.underlying e = some (.int .u8)) (hd : P.underlying dst = some .string) (l : List UInt8) (hr : Reads 1 w v n (l.map B)) :
    (convert src dst v).run P w = .ok (.string ⟨l.toArray⟩) w := by
  obtain ⟨ao, cap, rfl, hl, hc, hcells⟩ := hr
  have hn : n = l.length := by simpa using hl.symm
  match ao, hcells with
  | none, hcells =>
    have : l = [] := by
      rcases Nat.eq_zero_or_pos n with e | e
      · subst hn; exact List.eq_nil_of_length_eq_zero e
      · obtain ⟨_, _, h, _⟩ := hcells e; cases h
    subst this
    rw [run_convert_bytes_nil (P := P) w src e hs he n cap dst hd]; rfl
  | some ad, hcells =>
    subst hn
    refine run_convert_bytes_back w src dst e ad cap l hs he hd (fun j hj => ?_)
    obtain ⟨b, off, hb, hlt, hc⟩ := hcells (by omega)
    obtain rfl := Option.some.inj hb
    rw [Addr.add_lit]
    exact hc j (B l[j]) (by simp [hj])
/-- a force that answers OK and keeps nothing -/
def QF (W0 : World) : Unit → (Nat → Prop) → World → Prop := fun _ S w => S = (fun _ => False) ∧ Below W0.heap.size W0 w
def step0 : Unit → Int → Int × Unit := fun _ _ => (0, ())
theorem quiet_force (W0 : World) (fn : Nat) (he : ∀ args w, (callFunc fn args).run Try.prog w = .ok (.enter fn args) w) (ha : ∀ l w, Calls Try.prog fn #[.int .i64 l] w fun e w' => e = .returned (.int .i64 0) ∧ w' = w) : ForceOf W0 fn #[] (QF W0) step0 (fun _ => True) where
  enter := he
  ans s S w l h _ := (ha l w).mono fun e w' ⟨h1, h2⟩ => ⟨S, h1, h2 ▸ h, h2 ▸ Foot.same (B := fun _ => False) (GrowX.refl _) (fun _ h => h.elim)⟩
  grow s S X w w' h hg hX hB := ⟨h.1, hB⟩
  lt s S w h := by rw [h.1]; exact fun k hk => hk.elim
  bel s S w h := h.2
theorem force_awake (W0 : World) : ForceOf W0 40 #[] (QF W0) step0 (fun _ => True) :=
  quiet_force W0 _ (enters_of Try.func40 (by kernel_rfl) rfl) (fun l w => by
    go_enter Try.func40, Try.ntmps40
    go_wp2
    go_ret
    exact ⟨rfl, rfl⟩)
theorem force_cleans (W0 : World) : ForceOf W0 9 #[] (QF W0) step0 (fun _ => True) :=
  quiet_force W0 _ (enters_of Try.func9 (by kernel_rfl) rfl) (fun l w => by
    go_enter Try.func9, Try.ntmps9
    go_wp2
    go_ret
    exact ⟨rfl, rfl⟩)
def zpage : List UInt8 := List.replicate 512 0
theorem new_sec (n i : Nat) : (Dv.new n).sec i = zsec := by
  unfold Dv.sec Dv.new padS
  simp only [overC, List.foldl_nil]
  rw [if_pos]
  rw [List.getD_eq_getElem?_getD, List.getElem?_replicate]
  split <;> rfl
theorem new_page (n q : Nat) : secsD (Dv.new n) q 4 = zpage := by
  simp only [secsD, new_sec, zsec, zpage, List.nil_append, List.replicate_append_replicate]
theorem new_good {n : Nat} (h : n ≤ 8192) : (Dv.new n).good := ⟨Dv.new_ok h, rfl, rfl⟩
theorem Buf.reads512 {w : World} {g : Nat} {l : List UInt8} (h : Buf w g l) (hl : l.length = 512) : Reads 1 w (.slice (some ⟨g, 0, none⟩) 512 512) 512 (l.map B) :=
  ⟨_, _, rfl, by rw [List.length_map, hl], Nat.le_refl _, fun _ => ⟨g, 0, rfl, h.lt, fun j u hu => by rw [Nat.zero_add]; exact h.cell j u hu⟩⟩
theorem str_self (b : List UInt8) : ((⟨b.toArray⟩ : ByteArray).toList == (⟨b.toArray⟩ : ByteArray).toList) = true := by simp
/-- a pool over a new device -/
theorem FV.ext {W0 w : World} {f d fr pg : Nat} {P P' : Nat → List UInt8} {S : Nat → Prop} (h : FV W0 f d fr pg P S w) (he : ∀ q, q < pg → P q = P' q) : FV W0 f d fr pg P' S w := by
  obtain ⟨D, S0, h1, h2, h3, h4, h5, h6, h7, h8, h9⟩ := h
  exact ⟨D, S0, h1, h2, h3, h4, h5, h6, h7, fun q hq => (h8 q hq).trans (he q hq), h9⟩
def P0 : Nat → List UInt8 := fun _ => zpage
theorem aw_put (b : List UInt8) (hb : b.length = 512) : Pl.put 4 step0 (Pl.new 1 P0) () 0 b 5 = (0, ⟨[⟨0, b, true, true, 5, 5⟩], 0, 0, P0⟩, ()) := by
  unfold Pl.put
  rw [if_pos ⟨by decide, by decide, hb, by decide⟩]
  rfl
theorem aw_get1 (b : List UInt8) : Pl.get 4 step0 ⟨[⟨0, b, true, true, 5, 5⟩], 0, 0, P0⟩ () 1 = (0, zpage, ⟨[⟨1, zpage, false, true, 0, 0⟩], 0, 1, putP P0 0 b⟩, ()) := by kernel_rfl
theorem aw_get0 (b : List UInt8) : Pl.get 4 step0 ⟨[⟨1, zpage, false, true, 0, 0⟩], 0, 1, putP P0 0 b⟩ () 0 = (0, b, ⟨[⟨0, b, false, true, 0, 0⟩], 0, 1, putP P0 0 b⟩, ()) := by kernel_rfl
theorem aw_dirty {b : List UInt8} {c : List (Int × Int)} (h : IsDirty [⟨0, b, true, true, 5, 5⟩] c) : c.length = 1 := h.perm.length_eq

def WAw10 (g HS cx : Nat) (ax : Option Addr) (b : List UInt8) (j b o : Nat) : Prop := False
def PAw10 (g HS cx : Nat) (ax : Option Addr) (b : List UInt8) (i : Nat) (v : Value) (lo hi : Nat) (w : World) : Prop :=
  match i with
  | 0 => v = .int .i64 0
  | 1 => v = .bool true
  | 2 => v = .bool true
  | 3 => v = .int .i64 0
  | 4 => v = .bool true
  | 5 => v = .bool true
  | 6 => v = .bool true
  | 7 => v = .int .i64 0
  | 8 => v = .bool true
  | 9 => v = .bool true
  | 10 => v = .bool true
  | 11 => v = .int .i64 1
  | 12 => v = .bool true
  | 13 => v = .bool true
  | 14 => v = .bool true
  | 15 => v = .pointer (some ⟨g, 0, none⟩)
  | 16 => v = .int .i64 1
  | 17 => v = .bool true
  | 18 => v = .bool true
  | 19 => v = .bool true
  | 20 => v = .slice ax 512 cx
  | 21 => v = .string ⟨b.toArray⟩
  | 22 => ∃ g, v = .slice (some ⟨g, 0, none⟩) 512 512 ∧ Buf w g b
  | 23 => v = .string ⟨b.toArray⟩
  | 24 => v = .bool true
  | 25 => v = .bool true
  | 26 => v = .bool true
  | 27 => v = .pointer (some ⟨g, 0, none⟩)
  | 28 => v = .bool true
  | 29 => v = .bool true
  | 30 => v = .bool true
  | 31 => v = .pointer (some ⟨g, 0, none⟩)
  | 32 => v = .bool false
  | 33 => v = .bool true
  | _ => True
theorem PAw10_stable (g HS cx : Nat) (ax : Option Addr) (b : List UInt8)  : ∀ i j, i < 34 → j < 34 → j ≠ i → j ∉ ([[], [0], [0, 1], [0, 1, 2], [0, 1, 2, 3], [0, 1, 2, 3, 4], [0, 1, 2, 3, 4, 5], [0, 1, 2, 3, 4, 5, 6], [0, 1, 2, 3, 4, 5, 6, 7], [0, 1, 2, 3, 4, 5, 6, 7, 8], [0, 1, 2, 3, 4, 5, 6, 7, 8, 9], [0, 1, 2, 3, 4, 5, 6, 7, 8, 9, 10], [0, 1, 2, 3, 4, 5, 6, 7, 8, 9, 10, 11], [0, 1, 2, 3, 4, 5, 6, 7, 8, 9, 10, 11, 12], [0, 1, 2, 3, 4, 5, 6, 7, 8, 9, 10, 11, 12, 13], [0, 1, 2, 3, 4, 5, 6, 7, 8, 9, 10, 11, 12, 13, 14], [0, 1, 2, 3, 4, 5, 6, 7, 8, 9, 10, 11, 12, 13, 14, 15], [0, 1, 2, 3, 4, 5, 6, 7, 8, 9, 10, 11, 12, 13, 14, 15, 16], [0, 1, 2, 3, 4, 5, 6, 7, 8, 9, 10, 11, 12, 13, 14, 15, 16, 17], [0, 1, 2, 3, 4, 5, 6, 7, 8, 9, 10, 11, 12, 13, 14, 15, 16, 17, 18], [0, 1, 2, 3, 4, 5, 6, 7, 8, 9, 10, 11, 12, 13, 14, 15, 16, 17, 18, 19], [0, 1, 2, 3, 4, 5, 6, 7, 8, 9, 10, 11, 12, 13, 14, 15, 16, 17, 18, 19, 20], [0, 1, 2, 3, 4, 5, 6, 7, 8, 9, 10, 11, 12, 13, 14, 15, 16, 17, 18, 19], [0, 1, 2, 3, 4, 5, 6, 7, 8, 9, 10, 11, 12, 13, 14, 15, 16, 17, 18, 19, 22], [0, 1, 2, 3, 4, 5, 6, 7, 8, 9, 10, 11, 12, 13, 14, 15, 16, 17, 18, 19, 20, 21, 22, 23], [0, 1, 2, 3, 4, 5, 6, 7, 8, 9, 10, 11, 12, 13, 14, 15, 16, 17, 18, 19, 20, 21, 22, 23, 24], [0, 1, 2, 3, 4, 5, 6, 7, 8, 9, 10, 11, 12, 13, 14, 15, 16, 17, 18, 19, 20, 21, 22, 23, 24, 25], [0, 1, 2, 3, 4, 5, 6, 7, 8, 9, 10, 11, 12, 13, 14, 15, 16, 17, 18, 19, 20, 21, 22, 23, 24, 25, 26], [0, 1, 2, 3, 4, 5, 6, 7, 8, 9, 10, 11, 12, 13, 14, 15, 16, 17, 18, 19, 20, 21, 22, 23, 24, 25, 26, 27], [0, 1, 2, 3, 4, 5, 6, 7, 8, 9, 10, 11, 12, 13, 14, 15, 16, 17, 18, 19, 20, 21, 22, 23, 24, 25, 26, 27, 28], [0, 1, 2, 3, 4, 5, 6, 7, 8, 9, 10, 11, 12, 13, 14, 15, 16, 17, 18, 19, 20, 21, 22, 23, 24, 25, 26, 27, 28, 29], [0, 1, 2, 3, 4, 5, 6, 7, 8, 9, 10, 11, 12, 13, 14, 15, 16, 17, 18, 19, 20, 21, 22, 23, 24, 25, 26, 27, 28, 29, 30], [0, 1, 2, 3, 4, 5, 6, 7, 8, 9, 10, 11, 12, 13, 14, 15, 16, 17, 18, 19, 20, 21, 22, 23, 24, 25, 26, 27, 28, 29, 30, 31], [0, 1, 2, 3, 4, 5, 6, 7, 8, 9, 10, 11, 12, 13, 14, 15, 16, 17, 18, 19, 20, 21, 22, 23, 24, 25, 26, 27, 28, 29, 30, 31, 32]] : List (List Nat)).getD i [] → ∀ v lo hi w w', PAw10 g HS cx ax b i v lo hi w → GrowC (WAw10 g HS cx ax b j) w w' → PAw10 g HS cx ax b i v lo hi w' := by
  intro i j hi hj hne hbs v lo hj2 w w' h hg
  match i, hi with
  | 0, _ =>
    simp only [PAw10] at h ⊢
    exact h
  | 1, _ =>
    simp only [PAw10] at h ⊢
    exact h
  | 2, _ =>
    simp only [PAw10] at h ⊢
    exact h
  | 3, _ =>
    simp only [PAw10] at h ⊢
    exact h
  | 4, _ =>
    simp only [PAw10] at h ⊢
    exact h
  | 5, _ =>
    simp only [PAw10] at h ⊢
    exact h
  | 6, _ =>
    simp only [PAw10] at h ⊢
    exact h
  | 7, _ =>
    simp only [PAw10] at h ⊢
    exact h
  | 8, _ =>
    simp only [PAw10] at h ⊢
    exact h
  | 9, _ =>
    simp only [PAw10] at h ⊢
    exact h
  | 10, _ =>
    simp only [PAw10] at h ⊢
    exact h
  | 11, _ =>
    simp only [PAw10] at h ⊢
    exact h
  | 12, _ =>
    simp only [PAw10] at h ⊢
    exact h
  | 13, _ =>
    simp only [PAw10] at h ⊢
    exact h
  | 14, _ =>
    simp only [PAw10] at h ⊢
    exact h
  | 15, _ =>
    simp only [PAw10] at h ⊢
    exact h
  | 16, _ =>
    simp only [PAw10] at h ⊢
    exact h
  | 17, _ =>
    simp only [PAw10] at h ⊢
    exact h
  | 18, _ =>
    simp only [PAw10] at h ⊢
    exact h
  | 19, _ =>
    simp only [PAw10] at h ⊢
    exact h
  | 20, _ =>
    simp only [PAw10] at h ⊢
    exact h
  | 21, _ =>
    simp only [PAw10] at h ⊢
    exact h
  | 22, _ =>
    simp only [PAw10] at h ⊢
    obtain ⟨g, h1, h2⟩ := h
    exact ⟨g, h1, h2.growx (GrowX.of_growC hg (Y := fun _ => False) (fun k o h => h)) (fun h => h)⟩
  | 23, _ =>
    simp only [PAw10] at h ⊢
    exact h
  | 24, _ =>
    simp only [PAw10] at h ⊢
    exact h
  | 25, _ =>
    simp only [PAw10] at h ⊢
    exact h
  | 26, _ =>
    simp only [PAw10] at h ⊢
    exact h
  | 27, _ =>
    simp only [PAw10] at h ⊢
    exact h
  | 28, _ =>
    simp only [PAw10] at h ⊢
    exact h
  | 29, _ =>
    simp only [PAw10] at h ⊢
    exact h
  | 30, _ =>
    simp only [PAw10] at h ⊢
    exact h
  | 31, _ =>
    simp only [PAw10] at h ⊢
    exact h
  | 32, _ =>
    simp only [PAw10] at h ⊢
    exact h
  | 33, _ =>
    simp only [PAw10] at h ⊢
    exact h
  | (q + 34), hq => exact absurd hq (by omega)

set_option maxRecDepth 100000 in
set_option maxHeartbeats 3200000 in
theorem awake_any (w : World) : Calls Try.prog 16 #[] w fun e w' => e = .returned (.bool true) ∧ Below w.heap.size w w' := by
  have HF := Lib.hid (force_awake w)
  obtain ⟨b, hb⟩ : ∃ b, pageL 1 1 = b := ⟨_, rfl⟩
  have HBP := Lib.hid hb
  have HBL : Hid (b.length = 512) := Lib.hid (by rw [← hb]; exact pageL_len _ _)
  clear hb
  go_enter Try.func16, Try.ntmps16
  go_wp2_with fail
  refine (dnew_dv w w (Below.refl _ _) 40 (by decide) (by decide)).mono ?_
  rintro e y1 ⟨dd, Sd, rfl, hdv, hnw, hbl⟩
  have HD := Lib.hid hdv
  clear hdv hnw hbl
  go_wp2_with fail
  refine (fopen_dv HD.out (new_good (by decide)) (by decide) 0 4 (by decide) (by decide) (new_sec _ _)).mono ?_
  rintro e y2 ⟨f, Sf, rfl, hfv, _⟩
  have HFV : Hid (FV w f dd 0 4 P0 Sf y2) := Lib.hid (hfv.ext (fun q hq => new_page _ _))
  clear hfv
  go_wp2_with fail
  refine (pnew_pv (n := 1) HF.out HFV.out (s := ()) (S2 := fun _ => False) ⟨rfl, HFV.out.bel⟩ (fun k _ h => h) (by decide) (by decide)).mono ?_
  rintro e y3 ⟨g, S3, rfl, hpv, _⟩
  have HPV3 := Lib.hid hpv
  clear hpv
  go_wp2_with fail
  refine (page_any _ 1 1).mono ?_
  rintro e y4 ⟨gb, rfl, hbuf, hgb, hgr⟩
  rw [HBP.out] at hbuf
  have hb4 : Below y3.heap.size y3 y4 := ⟨hgr.os, hgr.tape, hgr.output, hgr.size, fun k hk => hgr.block k hk (fun h => h)⟩
  have hpv4 := HPV3.out.below HF.out hb4
  have hput := put_good HF.out hpv4 0 ⟨by decide, by decide⟩ b HBL.out 5 (by decide) _ (hbuf.reads512 HBL.out) (fun k e hs => by have e2 : gb = k := (by simpa [Value.ownBlock] using e); have := (HPV3.out.lt HF.out k hs).2; omega) (by decide) trivial
  rw [aw_put b HBL.out] at hput
  have HPUT := Lib.hid hput
  clear hbuf hgb hgr hb4 hpv4 hput
  go_wp2_with fail
  refine HPUT.out.mono ?_
  rintro e y5 ⟨S5, rfl, hpv, _⟩
  have HPV5 := Lib.hid hpv
  clear hpv
  go_wp2_with fail
  refine (dirty_pv HF.out HPV5.out).mono ?_
  rintro e y6 ⟨c, ao, m, rfl, hdi, hcm, _, _, hpv, _⟩
  obtain rfl : m = 1 := hcm.symm.trans (aw_dirty hdi)
  have HPV6 := Lib.hid hpv
  clear hpv hdi hcm
  go_wp2_with fail
  have hget := get_pv HF.out HPV6.out 1 (by show 0 + 1 ≤ 1000000000; decide) trivial
  rw [aw_get1] at hget
  have HG1 := Lib.hid hget
  clear hget
  refine HG1.out.mono ?_
  rintro e y7 ⟨v7, S7, rfl, _, _, _, hpv, _⟩
  have HPV7 := Lib.hid hpv
  clear hpv
  go_wp2_with fail
  have hget := get_pv HF.out HPV7.out 0 (by show 1 + 1 ≤ 1000000000; decide) trivial
  rw [aw_get0] at hget
  have HG2 := Lib.hid hget
  clear hget
  refine HG2.out.mono ?_
  rintro e y8 ⟨v8, S8, rfl, hrow, _, _, hpv, _⟩
  have HPV := Lib.hid hpv
  have hrw := (hrow rfl).1
  obtain ⟨ax, cx, evx⟩ := own_shape hrw
  subst evx
  have HRD : Hid (Reads 1 y8 (.slice ax 512 cx) 512 (b.map B)) := Lib.hid (Reads.of_own hrw)
  clear hpv hrow hrw
  go_upto_region 10 with (fail)
  have hB : Below y8.heap.size y8 y8 := Below.refl _ _
  obtain ⟨HS, hHS⟩ : ∃ x, y8.heap.size = x := ⟨_, rfl⟩
  refine wp_region_partsDC (WAw10 g HS cx ax b) 34 [[], [0], [0, 1], [0, 1, 2], [0, 1, 2, 3], [0, 1, 2, 3, 4], [0, 1, 2, 3, 4, 5], [0, 1, 2, 3, 4, 5, 6], [0, 1, 2, 3, 4, 5, 6, 7], [0, 1, 2, 3, 4, 5, 6, 7, 8], [0, 1, 2, 3, 4, 5, 6, 7, 8, 9], [0, 1, 2, 3, 4, 5, 6, 7, 8, 9, 10], [0, 1, 2, 3, 4, 5, 6, 7, 8, 9, 10, 11], [0, 1, 2, 3, 4, 5, 6, 7, 8, 9, 10, 11, 12], [0, 1, 2, 3, 4, 5, 6, 7, 8, 9, 10, 11, 12, 13], [0, 1, 2, 3, 4, 5, 6, 7, 8, 9, 10, 11, 12, 13, 14], [0, 1, 2, 3, 4, 5, 6, 7, 8, 9, 10, 11, 12, 13, 14, 15], [0, 1, 2, 3, 4, 5, 6, 7, 8, 9, 10, 11, 12, 13, 14, 15, 16], [0, 1, 2, 3, 4, 5, 6, 7, 8, 9, 10, 11, 12, 13, 14, 15, 16, 17], [0, 1, 2, 3, 4, 5, 6, 7, 8, 9, 10, 11, 12, 13, 14, 15, 16, 17, 18], [0, 1, 2, 3, 4, 5, 6, 7, 8, 9, 10, 11, 12, 13, 14, 15, 16, 17, 18, 19], [0, 1, 2, 3, 4, 5, 6, 7, 8, 9, 10, 11, 12, 13, 14, 15, 16, 17, 18, 19, 20], [0, 1, 2, 3, 4, 5, 6, 7, 8, 9, 10, 11, 12, 13, 14, 15, 16, 17, 18, 19], [0, 1, 2, 3, 4, 5, 6, 7, 8, 9, 10, 11, 12, 13, 14, 15, 16, 17, 18, 19, 22], [0, 1, 2, 3, 4, 5, 6, 7, 8, 9, 10, 11, 12, 13, 14, 15, 16, 17, 18, 19, 20, 21, 22, 23], [0, 1, 2, 3, 4, 5, 6, 7, 8, 9, 10, 11, 12, 13, 14, 15, 16, 17, 18, 19, 20, 21, 22, 23, 24], [0, 1, 2, 3, 4, 5, 6, 7, 8, 9, 10, 11, 12, 13, 14, 15, 16, 17, 18, 19, 20, 21, 22, 23, 24, 25], [0, 1, 2, 3, 4, 5, 6, 7, 8, 9, 10, 11, 12, 13, 14, 15, 16, 17, 18, 19, 20, 21, 22, 23, 24, 25, 26], [0, 1, 2, 3, 4, 5, 6, 7, 8, 9, 10, 11, 12, 13, 14, 15, 16, 17, 18, 19, 20, 21, 22, 23, 24, 25, 26, 27], [0, 1, 2, 3, 4, 5, 6, 7, 8, 9, 10, 11, 12, 13, 14, 15, 16, 17, 18, 19, 20, 21, 22, 23, 24, 25, 26, 27, 28], [0, 1, 2, 3, 4, 5, 6, 7, 8, 9, 10, 11, 12, 13, 14, 15, 16, 17, 18, 19, 20, 21, 22, 23, 24, 25, 26, 27, 28, 29], [0, 1, 2, 3, 4, 5, 6, 7, 8, 9, 10, 11, 12, 13, 14, 15, 16, 17, 18, 19, 20, 21, 22, 23, 24, 25, 26, 27, 28, 29, 30], [0, 1, 2, 3, 4, 5, 6, 7, 8, 9, 10, 11, 12, 13, 14, 15, 16, 17, 18, 19, 20, 21, 22, 23, 24, 25, 26, 27, 28, 29, 30, 31], [0, 1, 2, 3, 4, 5, 6, 7, 8, 9, 10, 11, 12, 13, 14, 15, 16, 17, 18, 19, 20, 21, 22, 23, 24, 25, 26, 27, 28, 29, 30, 31, 32]] [some 49, some 50, some 51, some 52, some 53, some 54, some 55, some 56, some 57, some 58, some 59, some 60, some 61, some 62, some 63, some 64, some 65, some 66, some 67, some 68, some 69, some 70, some 71, some 72, some 73, some 74, some 75, some 76, some 77, some 78, some 79, some 80, some 81, some 82, some 83, some 0] (by kernel_rfl) (by kernel_rfl) rfl (PAw10 g HS cx ax b) (PAw10_stable g HS cx ax b ) ?pAw10 ?_
  case pAw10 =>
    intro i hi o ho vs lo hx_ w' hg hp
    match i, hi with
    | 0, _ =>
      obtain rfl := Option.some.inj ho
      clear ho
      simp only [actsD, List.getD_cons_zero, List.getD_cons_succ, List.foldl_cons, List.foldl_nil, Act.put, List.setIfInBounds_toArray, List.set_cons_succ, List.set_cons_zero]
      have hsz := hg.size
      have hgB : Below y8.heap.size y8 w' := hg.below (fun k hk => ⟨hk, fun o => by rintro ⟨j, _, _, _, hw⟩; exact False.elim hw⟩)
      go_wp2
      exact ⟨_, rfl, GrowC.refl _, rfl⟩
    | 1, _ =>
      obtain rfl := Option.some.inj ho
      clear ho
      simp only [actsD, List.getD_cons_zero, List.getD_cons_succ, List.foldl_cons, List.foldl_nil, Act.put, List.setIfInBounds_toArray, List.set_cons_succ, List.set_cons_zero]
      obtain ⟨_, _, _, h0⟩ := hp 0 (by simp)
      simp only [PAw10] at h0
      have hsz := hg.size
      have hgB : Below y8.heap.size y8 w' := hg.below (fun k hk => ⟨hk, fun o => by rintro ⟨j, _, _, _, hw⟩; exact False.elim hw⟩)
      rw [h0]
      go_wp2
      exact ⟨_, rfl, GrowC.refl _, rfl⟩
    | 2, _ =>
      obtain rfl := Option.some.inj ho
      clear ho
      simp only [actsD, List.getD_cons_zero, List.getD_cons_succ, List.foldl_cons, List.foldl_nil, Act.put, List.setIfInBounds_toArray, List.set_cons_succ, List.set_cons_zero]
      obtain ⟨_, _, _, h1⟩ := hp 1 (by simp)
      simp only [PAw10] at h1
      have hsz := hg.size
      have hgB : Below y8.heap.size y8 w' := hg.below (fun k hk => ⟨hk, fun o => by rintro ⟨j, _, _, _, hw⟩; exact False.elim hw⟩)
      rw [h1]
      go_wp2
      exact ⟨_, rfl, GrowC.refl _, rfl⟩
    | 3, _ =>
      obtain rfl := Option.some.inj ho
      clear ho
      simp only [actsD, List.getD_cons_zero, List.getD_cons_succ, List.foldl_cons, List.foldl_nil, Act.put, List.setIfInBounds_toArray, List.set_cons_succ, List.set_cons_zero]
      obtain ⟨_, _, _, h2⟩ := hp 2 (by simp)
      simp only [PAw10] at h2
      have hsz := hg.size
      have hgB : Below y8.heap.size y8 w' := hg.below (fun k hk => ⟨hk, fun o => by rintro ⟨j, _, _, _, hw⟩; exact False.elim hw⟩)
      rw [h2]
      go_wp2
      exact ⟨_, rfl, GrowC.refl _, rfl⟩
    | 4, _ =>
      obtain rfl := Option.some.inj ho
      clear ho
      simp only [actsD, List.getD_cons_zero, List.getD_cons_succ, List.foldl_cons, List.foldl_nil, Act.put, List.setIfInBounds_toArray, List.set_cons_succ, List.set_cons_zero]
      obtain ⟨_, _, _, h2⟩ := hp 2 (by simp)
      simp only [PAw10] at h2
      obtain ⟨_, _, _, h3⟩ := hp 3 (by simp)
      simp only [PAw10] at h3
      have hsz := hg.size
      have hgB : Below y8.heap.size y8 w' := hg.below (fun k hk => ⟨hk, fun o => by rintro ⟨j, _, _, _, hw⟩; exact False.elim hw⟩)
      rw [h2, h3]
      go_wp2
      exact ⟨_, rfl, GrowC.refl _, rfl⟩
    | 5, _ =>
      obtain rfl := Option.some.inj ho
      clear ho
      simp only [actsD, List.getD_cons_zero, List.getD_cons_succ, List.foldl_cons, List.foldl_nil, Act.put, List.setIfInBounds_toArray, List.set_cons_succ, List.set_cons_zero]
      obtain ⟨_, _, _, h2⟩ := hp 2 (by simp)
      simp only [PAw10] at h2
      obtain ⟨_, _, _, h4⟩ := hp 4 (by simp)
      simp only [PAw10] at h4
      have hsz := hg.size
      have hgB : Below y8.heap.size y8 w' := hg.below (fun k hk => ⟨hk, fun o => by rintro ⟨j, _, _, _, hw⟩; exact False.elim hw⟩)
      rw [h2, h4]
      go_wp2
      exact ⟨_, rfl, GrowC.refl _, rfl⟩
    | 6, _ =>
      obtain rfl := Option.some.inj ho
      clear ho
      simp only [actsD, List.getD_cons_zero, List.getD_cons_succ, List.foldl_cons, List.foldl_nil, Act.put, List.setIfInBounds_toArray, List.set_cons_succ, List.set_cons_zero]
      obtain ⟨_, _, _, h5⟩ := hp 5 (by simp)
      simp only [PAw10] at h5
      have hsz := hg.size
      have hgB : Below y8.heap.size y8 w' := hg.below (fun k hk => ⟨hk, fun o => by rintro ⟨j, _, _, _, hw⟩; exact False.elim hw⟩)
      rw [h5]
      go_wp2
      exact ⟨_, rfl, GrowC.refl _, rfl⟩
    | 7, _ =>
      obtain rfl := Option.some.inj ho
      clear ho
      simp only [actsD, List.getD_cons_zero, List.getD_cons_succ, List.foldl_cons, List.foldl_nil, Act.put, List.setIfInBounds_toArray, List.set_cons_succ, List.set_cons_zero]
      obtain ⟨_, _, _, h6⟩ := hp 6 (by simp)
      simp only [PAw10] at h6
      have hsz := hg.size
      have hgB : Below y8.heap.size y8 w' := hg.below (fun k hk => ⟨hk, fun o => by rintro ⟨j, _, _, _, hw⟩; exact False.elim hw⟩)
      rw [h6]
      go_wp2
      exact ⟨_, rfl, GrowC.refl _, rfl⟩
    | 8, _ =>
      obtain rfl := Option.some.inj ho
      clear ho
      simp only [actsD, List.getD_cons_zero, List.getD_cons_succ, List.foldl_cons, List.foldl_nil, Act.put, List.setIfInBounds_toArray, List.set_cons_succ, List.set_cons_zero]
      obtain ⟨_, _, _, h6⟩ := hp 6 (by simp)
      simp only [PAw10] at h6
      obtain ⟨_, _, _, h7⟩ := hp 7 (by simp)
      simp only [PAw10] at h7
      have hsz := hg.size
      have hgB : Below y8.heap.size y8 w' := hg.below (fun k hk => ⟨hk, fun o => by rintro ⟨j, _, _, _, hw⟩; exact False.elim hw⟩)
      rw [h6, h7]
      go_wp2
      exact ⟨_, rfl, GrowC.refl _, rfl⟩
    | 9, _ =>
      obtain rfl := Option.some.inj ho
      clear ho
      simp only [actsD, List.getD_cons_zero, List.getD_cons_succ, List.foldl_cons, List.foldl_nil, Act.put, List.setIfInBounds_toArray, List.set_cons_succ, List.set_cons_zero]
      obtain ⟨_, _, _, h6⟩ := hp 6 (by simp)
      simp only [PAw10] at h6
      obtain ⟨_, _, _, h8⟩ := hp 8 (by simp)
      simp only [PAw10] at h8
      have hsz := hg.size
      have hgB : Below y8.heap.size y8 w' := hg.below (fun k hk => ⟨hk, fun o => by rintro ⟨j, _, _, _, hw⟩; exact False.elim hw⟩)
      rw [h6, h8]
      go_wp2
      exact ⟨_, rfl, GrowC.refl _, rfl⟩
    | 10, _ =>
      obtain rfl := Option.some.inj ho
      clear ho
      simp only [actsD, List.getD_cons_zero, List.getD_cons_succ, List.foldl_cons, List.foldl_nil, Act.put, List.setIfInBounds_toArray, List.set_cons_succ, List.set_cons_zero]
      obtain ⟨_, _, _, h9⟩ := hp 9 (by simp)
      simp only [PAw10] at h9
      have hsz := hg.size
      have hgB : Below y8.heap.size y8 w' := hg.below (fun k hk => ⟨hk, fun o => by rintro ⟨j, _, _, _, hw⟩; exact False.elim hw⟩)
      rw [h9]
      go_wp2
      exact ⟨_, rfl, GrowC.refl _, rfl⟩
    | 11, _ =>
      obtain rfl := Option.some.inj ho
      clear ho
      simp only [actsD, List.getD_cons_zero, List.getD_cons_succ, List.foldl_cons, List.foldl_nil, Act.put, List.setIfInBounds_toArray, List.set_cons_succ, List.set_cons_zero]
      obtain ⟨_, _, _, h10⟩ := hp 10 (by simp)
      simp only [PAw10] at h10
      have hsz := hg.size
      have hgB : Below y8.heap.size y8 w' := hg.below (fun k hk => ⟨hk, fun o => by rintro ⟨j, _, _, _, hw⟩; exact False.elim hw⟩)
      rw [h10]
      go_wp2
      exact ⟨_, rfl, GrowC.refl _, rfl⟩
    | 12, _ =>
      obtain rfl := Option.some.inj ho
      clear ho
      simp only [actsD, List.getD_cons_zero, List.getD_cons_succ, List.foldl_cons, List.foldl_nil, Act.put, List.setIfInBounds_toArray, List.set_cons_succ, List.set_cons_zero]
      obtain ⟨_, _, _, h10⟩ := hp 10 (by simp)
      simp only [PAw10] at h10
      obtain ⟨_, _, _, h11⟩ := hp 11 (by simp)
      simp only [PAw10] at h11
      have hsz := hg.size
      have hgB : Below y8.heap.size y8 w' := hg.below (fun k hk => ⟨hk, fun o => by rintro ⟨j, _, _, _, hw⟩; exact False.elim hw⟩)
      rw [h10, h11]
      go_wp2
      exact ⟨_, rfl, GrowC.refl _, rfl⟩
    | 13, _ =>
      obtain rfl := Option.some.inj ho
      clear ho
      simp only [actsD, List.getD_cons_zero, List.getD_cons_succ, List.foldl_cons, List.foldl_nil, Act.put, List.setIfInBounds_toArray, List.set_cons_succ, List.set_cons_zero]
      obtain ⟨_, _, _, h10⟩ := hp 10 (by simp)
      simp only [PAw10] at h10
      obtain ⟨_, _, _, h12⟩ := hp 12 (by simp)
      simp only [PAw10] at h12
      have hsz := hg.size
      have hgB : Below y8.heap.size y8 w' := hg.below (fun k hk => ⟨hk, fun o => by rintro ⟨j, _, _, _, hw⟩; exact False.elim hw⟩)
      rw [h10, h12]
      go_wp2
      exact ⟨_, rfl, GrowC.refl _, rfl⟩
    | 14, _ =>
      obtain rfl := Option.some.inj ho
      clear ho
      simp only [actsD, List.getD_cons_zero, List.getD_cons_succ, List.foldl_cons, List.foldl_nil, Act.put, List.setIfInBounds_toArray, List.set_cons_succ, List.set_cons_zero]
      obtain ⟨_, _, _, h13⟩ := hp 13 (by simp)
      simp only [PAw10] at h13
      have hsz := hg.size
      have hgB : Below y8.heap.size y8 w' := hg.below (fun k hk => ⟨hk, fun o => by rintro ⟨j, _, _, _, hw⟩; exact False.elim hw⟩)
      rw [h13]
      go_wp2
      exact ⟨_, rfl, GrowC.refl _, rfl⟩
    | 15, _ =>
      obtain rfl := Option.some.inj ho
      clear ho
      simp only [actsD, List.getD_cons_zero, List.getD_cons_succ, List.foldl_cons, List.foldl_nil, Act.put, List.setIfInBounds_toArray, List.set_cons_succ, List.set_cons_zero]
      obtain ⟨_, _, _, h14⟩ := hp 14 (by simp)
      simp only [PAw10] at h14
      have hsz := hg.size
      have hgB : Below y8.heap.size y8 w' := hg.below (fun k hk => ⟨hk, fun o => by rintro ⟨j, _, _, _, hw⟩; exact False.elim hw⟩)
      rw [h14]
      go_wp2
      exact ⟨_, rfl, GrowC.refl _, rfl⟩
    | 16, _ =>
      obtain rfl := Option.some.inj ho
      clear ho
      simp only [actsD, List.getD_cons_zero, List.getD_cons_succ, List.foldl_cons, List.foldl_nil, Act.put, List.setIfInBounds_toArray, List.set_cons_succ, List.set_cons_zero]
      obtain ⟨_, _, _, h14⟩ := hp 14 (by simp)
      simp only [PAw10] at h14
      obtain ⟨_, _, _, h15⟩ := hp 15 (by simp)
      simp only [PAw10] at h15
      have hsz := hg.size
      have hgB : Below y8.heap.size y8 w' := hg.below (fun k hk => ⟨hk, fun o => by rintro ⟨j, _, _, _, hw⟩; exact False.elim hw⟩)
      rw [h14, h15]
      go_wp2_with fail
      refine (writes_pv (HPV.out.below HF.out hgB)).mono ?_
      rintro e wh ⟨rfl, rfl⟩
      go_wp2
      exact ⟨_, rfl, GrowC.refl _, rfl⟩
    | 17, _ =>
      obtain rfl := Option.some.inj ho
      clear ho
      simp only [actsD, List.getD_cons_zero, List.getD_cons_succ, List.foldl_cons, List.foldl_nil, Act.put, List.setIfInBounds_toArray, List.set_cons_succ, List.set_cons_zero]
      obtain ⟨_, _, _, h14⟩ := hp 14 (by simp)
      simp only [PAw10] at h14
      obtain ⟨_, _, _, h16⟩ := hp 16 (by simp)
      simp only [PAw10] at h16
      have hsz := hg.size
      have hgB : Below y8.heap.size y8 w' := hg.below (fun k hk => ⟨hk, fun o => by rintro ⟨j, _, _, _, hw⟩; exact False.elim hw⟩)
      rw [h14, h16]
      go_wp2
      exact ⟨_, rfl, GrowC.refl _, rfl⟩
    | 18, _ =>
      obtain rfl := Option.some.inj ho
      clear ho
      simp only [actsD, List.getD_cons_zero, List.getD_cons_succ, List.foldl_cons, List.foldl_nil, Act.put, List.setIfInBounds_toArray, List.set_cons_succ, List.set_cons_zero]
      obtain ⟨_, _, _, h14⟩ := hp 14 (by simp)
      simp only [PAw10] at h14
      obtain ⟨_, _, _, h17⟩ := hp 17 (by simp)
      simp only [PAw10] at h17
      have hsz := hg.size
      have hgB : Below y8.heap.size y8 w' := hg.below (fun k hk => ⟨hk, fun o => by rintro ⟨j, _, _, _, hw⟩; exact False.elim hw⟩)
      rw [h14, h17]
      go_wp2
      exact ⟨_, rfl, GrowC.refl _, rfl⟩
    | 19, _ =>
      obtain rfl := Option.some.inj ho
      clear ho
      simp only [actsD, List.getD_cons_zero, List.getD_cons_succ, List.foldl_cons, List.foldl_nil, Act.put, List.setIfInBounds_toArray, List.set_cons_succ, List.set_cons_zero]
      obtain ⟨_, _, _, h18⟩ := hp 18 (by simp)
      simp only [PAw10] at h18
      have hsz := hg.size
      have hgB : Below y8.heap.size y8 w' := hg.below (fun k hk => ⟨hk, fun o => by rintro ⟨j, _, _, _, hw⟩; exact False.elim hw⟩)
      rw [h18]
      go_wp2
      exact ⟨_, rfl, GrowC.refl _, rfl⟩
    | 20, _ =>
      obtain rfl := Option.some.inj ho
      clear ho
      simp only [actsD, List.getD_cons_zero, List.getD_cons_succ, List.foldl_cons, List.foldl_nil, Act.put, List.setIfInBounds_toArray, List.set_cons_succ, List.set_cons_zero]
      obtain ⟨_, _, _, h19⟩ := hp 19 (by simp)
      simp only [PAw10] at h19
      have hsz := hg.size
      have hgB : Below y8.heap.size y8 w' := hg.below (fun k hk => ⟨hk, fun o => by rintro ⟨j, _, _, _, hw⟩; exact False.elim hw⟩)
      rw [h19]
      go_wp2
      exact ⟨_, rfl, GrowC.refl _, rfl⟩
    | 21, _ =>
      obtain rfl := Option.some.inj ho
      clear ho
      simp only [actsD, List.getD_cons_zero, List.getD_cons_succ, List.foldl_cons, List.foldl_nil, Act.put, List.setIfInBounds_toArray, List.set_cons_succ, List.set_cons_zero]
      obtain ⟨_, _, _, h19⟩ := hp 19 (by simp)
      simp only [PAw10] at h19
      obtain ⟨_, _, _, h20⟩ := hp 20 (by simp)
      simp only [PAw10] at h20
      have hsz := hg.size
      have hgB : Below y8.heap.size y8 w' := hg.below (fun k hk => ⟨hk, fun o => by rintro ⟨j, _, _, _, hw⟩; exact False.elim hw⟩)
      rw [h19, h20]
      have hcv := run_str_reads Try.underlying37 Try.underlying5 Try.underlying9 b (HRD.out.growx (X := fun _ => False) (grow_below hgB) (fun _ _ h => h))
      go_wp2
      exact ⟨_, rfl, GrowC.refl _, rfl⟩
    | 22, _ =>
      obtain rfl := Option.some.inj ho
      clear ho
      simp only [actsD, List.getD_cons_zero, List.getD_cons_succ, List.foldl_cons, List.foldl_nil, Act.put, List.setIfInBounds_toArray, List.set_cons_succ, List.set_cons_zero]
      obtain ⟨_, _, _, h19⟩ := hp 19 (by simp)
      simp only [PAw10] at h19
      have hsz := hg.size
      have hgB : Below y8.heap.size y8 w' := hg.below (fun k hk => ⟨hk, fun o => by rintro ⟨j, _, _, _, hw⟩; exact False.elim hw⟩)
      rw [h19]
      go_wp2_with fail
      refine (page_any w' 1 1).mono ?_
      rintro e wh ⟨g2, rfl, h1, h2, h3⟩
      go_wp2
      exact ⟨_, rfl, GrowC.of_grow ⟨h3.os, h3.tape, h3.output, h3.size, fun k hk => h3.block k hk (fun h => h)⟩, g2, rfl, by rw [← HBP.out]; exact h1⟩
    | 23, _ =>
      obtain rfl := Option.some.inj ho
      clear ho
      simp only [actsD, List.getD_cons_zero, List.getD_cons_succ, List.foldl_cons, List.foldl_nil, Act.put, List.setIfInBounds_toArray, List.set_cons_succ, List.set_cons_zero]
      obtain ⟨_, _, _, h19⟩ := hp 19 (by simp)
      simp only [PAw10] at h19
      obtain ⟨_, _, _, h22⟩ := hp 22 (by simp)
      simp only [PAw10] at h22
      have hsz := hg.size
      have hgB : Below y8.heap.size y8 w' := hg.below (fun k hk => ⟨hk, fun o => by rintro ⟨j, _, _, _, hw⟩; exact False.elim hw⟩)
      rw [h19]
      obtain ⟨g2, e22, h22b⟩ := h22
      rw [e22]
      have hcv := run_str_reads Try.underlying37 Try.underlying5 Try.underlying9 b (h22b.reads512 HBL.out)
      go_wp2
      exact ⟨_, rfl, GrowC.refl _, rfl⟩
    | 24, _ =>
      obtain rfl := Option.some.inj ho
      clear ho
      simp only [actsD, List.getD_cons_zero, List.getD_cons_succ, List.foldl_cons, List.foldl_nil, Act.put, List.setIfInBounds_toArray, List.set_cons_succ, List.set_cons_zero]
      obtain ⟨_, _, _, h19⟩ := hp 19 (by simp)
      simp only [PAw10] at h19
      obtain ⟨_, _, _, h21⟩ := hp 21 (by simp)
      simp only [PAw10] at h21
      obtain ⟨_, _, _, h23⟩ := hp 23 (by simp)
      simp only [PAw10] at h23
      have hsz := hg.size
      have hgB : Below y8.heap.size y8 w' := hg.below (fun k hk => ⟨hk, fun o => by rintro ⟨j, _, _, _, hw⟩; exact False.elim hw⟩)
      rw [h19, h21, h23]
      have hst := str_self b
      go_wp2
      exact ⟨_, rfl, GrowC.refl _, rfl⟩
    | 25, _ =>
      obtain rfl := Option.some.inj ho
      clear ho
      simp only [actsD, List.getD_cons_zero, List.getD_cons_succ, List.foldl_cons, List.foldl_nil, Act.put, List.setIfInBounds_toArray, List.set_cons_succ, List.set_cons_zero]
      obtain ⟨_, _, _, h19⟩ := hp 19 (by simp)
      simp only [PAw10] at h19
      obtain ⟨_, _, _, h24⟩ := hp 24 (by simp)
      simp only [PAw10] at h24
      have hsz := hg.size
      have hgB : Below y8.heap.size y8 w' := hg.below (fun k hk => ⟨hk, fun o => by rintro ⟨j, _, _, _, hw⟩; exact False.elim hw⟩)
      rw [h19, h24]
      go_wp2
      exact ⟨_, rfl, GrowC.refl _, rfl⟩
    | 26, _ =>
      obtain rfl := Option.some.inj ho
      clear ho
      simp only [actsD, List.getD_cons_zero, List.getD_cons_succ, List.foldl_cons, List.foldl_nil, Act.put, List.setIfInBounds_toArray, List.set_cons_succ, List.set_cons_zero]
      obtain ⟨_, _, _, h25⟩ := hp 25 (by simp)
      simp only [PAw10] at h25
      have hsz := hg.size
      have hgB : Below y8.heap.size y8 w' := hg.below (fun k hk => ⟨hk, fun o => by rintro ⟨j, _, _, _, hw⟩; exact False.elim hw⟩)
      rw [h25]
      go_wp2
      exact ⟨_, rfl, GrowC.refl _, rfl⟩
    | 27, _ =>
      obtain rfl := Option.some.inj ho
      clear ho
      simp only [actsD, List.getD_cons_zero, List.getD_cons_succ, List.foldl_cons, List.foldl_nil, Act.put, List.setIfInBounds_toArray, List.set_cons_succ, List.set_cons_zero]
      obtain ⟨_, _, _, h26⟩ := hp 26 (by simp)
      simp only [PAw10] at h26
      have hsz := hg.size
      have hgB : Below y8.heap.size y8 w' := hg.below (fun k hk => ⟨hk, fun o => by rintro ⟨j, _, _, _, hw⟩; exact False.elim hw⟩)
      rw [h26]
      go_wp2
      exact ⟨_, rfl, GrowC.refl _, rfl⟩
    | 28, _ =>
      obtain rfl := Option.some.inj ho
      clear ho
      simp only [actsD, List.getD_cons_zero, List.getD_cons_succ, List.foldl_cons, List.foldl_nil, Act.put, List.setIfInBounds_toArray, List.set_cons_succ, List.set_cons_zero]
      obtain ⟨_, _, _, h26⟩ := hp 26 (by simp)
      simp only [PAw10] at h26
      obtain ⟨_, _, _, h27⟩ := hp 27 (by simp)
      simp only [PAw10] at h27
      have hsz := hg.size
      have hgB : Below y8.heap.size y8 w' := hg.below (fun k hk => ⟨hk, fun o => by rintro ⟨j, _, _, _, hw⟩; exact False.elim hw⟩)
      rw [h26, h27]
      go_wp2_with fail
      refine (has_pv HF.out (HPV.out.below HF.out hgB) 0).mono ?_
      rintro e wh ⟨rfl, _, h3⟩
      go_wp2
      exact ⟨_, rfl, GrowC.of_grow ⟨h3.os, h3.tape, h3.output, h3.size, fun k hk => h3.block k hk⟩, by rfl⟩
    | 29, _ =>
      obtain rfl := Option.some.inj ho
      clear ho
      simp only [actsD, List.getD_cons_zero, List.getD_cons_succ, List.foldl_cons, List.foldl_nil, Act.put, List.setIfInBounds_toArray, List.set_cons_succ, List.set_cons_zero]
      obtain ⟨_, _, _, h26⟩ := hp 26 (by simp)
      simp only [PAw10] at h26
      obtain ⟨_, _, _, h28⟩ := hp 28 (by simp)
      simp only [PAw10] at h28
      have hsz := hg.size
      have hgB : Below y8.heap.size y8 w' := hg.below (fun k hk => ⟨hk, fun o => by rintro ⟨j, _, _, _, hw⟩; exact False.elim hw⟩)
      rw [h26, h28]
      go_wp2
      exact ⟨_, rfl, GrowC.refl _, rfl⟩
    | 30, _ =>
      obtain rfl := Option.some.inj ho
      clear ho
      simp only [actsD, List.getD_cons_zero, List.getD_cons_succ, List.foldl_cons, List.foldl_nil, Act.put, List.setIfInBounds_toArray, List.set_cons_succ, List.set_cons_zero]
      obtain ⟨_, _, _, h29⟩ := hp 29 (by simp)
      simp only [PAw10] at h29
      have hsz := hg.size
      have hgB : Below y8.heap.size y8 w' := hg.below (fun k hk => ⟨hk, fun o => by rintro ⟨j, _, _, _, hw⟩; exact False.elim hw⟩)
      rw [h29]
      go_wp2
      exact ⟨_, rfl, GrowC.refl _, rfl⟩
    | 31, _ =>
      obtain rfl := Option.some.inj ho
      clear ho
      simp only [actsD, List.getD_cons_zero, List.getD_cons_succ, List.foldl_cons, List.foldl_nil, Act.put, List.setIfInBounds_toArray, List.set_cons_succ, List.set_cons_zero]
      obtain ⟨_, _, _, h30⟩ := hp 30 (by simp)
      simp only [PAw10] at h30
      have hsz := hg.size
      have hgB : Below y8.heap.size y8 w' := hg.below (fun k hk => ⟨hk, fun o => by rintro ⟨j, _, _, _, hw⟩; exact False.elim hw⟩)
      rw [h30]
      go_wp2
      exact ⟨_, rfl, GrowC.refl _, rfl⟩
    | 32, _ =>
      obtain rfl := Option.some.inj ho
      clear ho
      simp only [actsD, List.getD_cons_zero, List.getD_cons_succ, List.foldl_cons, List.foldl_nil, Act.put, List.setIfInBounds_toArray, List.set_cons_succ, List.set_cons_zero]
      obtain ⟨_, _, _, h30⟩ := hp 30 (by simp)
      simp only [PAw10] at h30
      obtain ⟨_, _, _, h31⟩ := hp 31 (by simp)
      simp only [PAw10] at h31
      have hsz := hg.size
      have hgB : Below y8.heap.size y8 w' := hg.below (fun k hk => ⟨hk, fun o => by rintro ⟨j, _, _, _, hw⟩; exact False.elim hw⟩)
      rw [h30, h31]
      go_wp2_with fail
      refine (has_pv HF.out (HPV.out.below HF.out hgB) 1).mono ?_
      rintro e wh ⟨rfl, _, h3⟩
      go_wp2
      exact ⟨_, rfl, GrowC.of_grow ⟨h3.os, h3.tape, h3.output, h3.size, fun k hk => h3.block k hk⟩, by rfl⟩
    | 33, _ =>
      obtain rfl := Option.some.inj ho
      clear ho
      simp only [actsD, List.getD_cons_zero, List.getD_cons_succ, List.foldl_cons, List.foldl_nil, Act.put, List.setIfInBounds_toArray, List.set_cons_succ, List.set_cons_zero]
      obtain ⟨_, _, _, h30⟩ := hp 30 (by simp)
      simp only [PAw10] at h30
      obtain ⟨_, _, _, h32⟩ := hp 32 (by simp)
      simp only [PAw10] at h32
      have hsz := hg.size
      have hgB : Below y8.heap.size y8 w' := hg.below (fun k hk => ⟨hk, fun o => by rintro ⟨j, _, _, _, hw⟩; exact False.elim hw⟩)
      rw [h30, h32]
      go_wp2
      exact ⟨_, rfl, GrowC.refl _, rfl⟩
    | (q + 34), hq => exact absurd hq (by omega)
  intro vS lo hi w5 hg hp hd
  obtain ⟨_, _, _, h0⟩ := hp 0 (by decide)
  obtain ⟨_, _, _, h1⟩ := hp 1 (by decide)
  obtain ⟨_, _, _, h2⟩ := hp 2 (by decide)
  obtain ⟨_, _, _, h3⟩ := hp 3 (by decide)
  obtain ⟨_, _, _, h4⟩ := hp 4 (by decide)
  obtain ⟨_, _, _, h5⟩ := hp 5 (by decide)
  obtain ⟨_, _, _, h6⟩ := hp 6 (by decide)
  obtain ⟨_, _, _, h7⟩ := hp 7 (by decide)
  obtain ⟨_, _, _, h8⟩ := hp 8 (by decide)
  obtain ⟨_, _, _, h9⟩ := hp 9 (by decide)
  obtain ⟨_, _, _, h10⟩ := hp 10 (by decide)
  obtain ⟨_, _, _, h11⟩ := hp 11 (by decide)
  obtain ⟨_, _, _, h12⟩ := hp 12 (by decide)
  obtain ⟨_, _, _, h13⟩ := hp 13 (by decide)
  obtain ⟨_, _, _, h14⟩ := hp 14 (by decide)
  obtain ⟨_, _, _, h15⟩ := hp 15 (by decide)
  obtain ⟨_, _, _, h16⟩ := hp 16 (by decide)
  obtain ⟨_, _, _, h17⟩ := hp 17 (by decide)
  obtain ⟨_, _, _, h18⟩ := hp 18 (by decide)
  obtain ⟨_, _, _, h19⟩ := hp 19 (by decide)
  obtain ⟨_, _, _, h20⟩ := hp 20 (by decide)
  obtain ⟨_, _, _, h21⟩ := hp 21 (by decide)
  obtain ⟨_, _, _, h22⟩ := hp 22 (by decide)
  obtain ⟨_, _, _, h23⟩ := hp 23 (by decide)
  obtain ⟨_, _, _, h24⟩ := hp 24 (by decide)
  obtain ⟨_, _, _, h25⟩ := hp 25 (by decide)
  obtain ⟨_, _, _, h26⟩ := hp 26 (by decide)
  obtain ⟨_, _, _, h27⟩ := hp 27 (by decide)
  obtain ⟨_, _, _, h28⟩ := hp 28 (by decide)
  obtain ⟨_, _, _, h29⟩ := hp 29 (by decide)
  obtain ⟨_, _, _, h30⟩ := hp 30 (by decide)
  obtain ⟨_, _, _, h31⟩ := hp 31 (by decide)
  obtain ⟨_, _, _, h32⟩ := hp 32 (by decide)
  obtain ⟨_, _, _, h33⟩ := hp 33 (by decide)
  simp only [PAw10] at h0 h1 h2 h3 h4 h5 h6 h7 h8 h9 h10 h11 h12 h13 h14 h15 h16 h17 h18 h19 h20 h21 h22 h23 h24 h25 h26 h27 h28 h29 h30 h31 h32 h33
  clear hp hd
  have hsz := hg.size
  replace hB := hB.trans (hg.below (fun k hk => ⟨by omega, fun o => by rintro ⟨j, _, hw⟩; exact False.elim hw⟩))
  have hr : List.range 34 = [0, 1, 2, 3, 4, 5, 6, 7, 8, 9, 10, 11, 12, 13, 14, 15, 16, 17, 18, 19, 20, 21, 22, 23, 24, 25, 26, 27, 28, 29, 30, 31, 32, 33] := rfl
  rw [hr]
  clear hr
  simp only [List.drop_succ_cons, List.drop_zero, List.drop_nil, actsD, List.getD_cons_zero, List.getD_cons_succ, List.foldl_cons, List.foldl_nil, Act.put, List.setIfInBounds_toArray, List.set_cons_succ, List.set_cons_zero, h0, h1, h2, h3, h4, h5, h6, h7, h8, h9, h10, h11, h12, h13, h14, h15, h16, h17, h18, h19, h20, h21, h23, h24, h25, h26, h27, h28, h29, h30, h31, h32, h33]
  clear h0 h1 h2 h3 h4 h5 h6 h7 h8 h9 h10 h11 h12 h13 h14 h15 h16 h17 h18 h19 h20 h21 h23 h24 h25 h26 h27 h28 h29 h30 h31 h32 h33
  go_wp2_with fail
  go_ret
  exact ⟨rfl, HPV.out.bel.trans (hB.mono HPV.out.bel.size)⟩
end Go.Proofs.Ytdnjjdpenfhpeaa
