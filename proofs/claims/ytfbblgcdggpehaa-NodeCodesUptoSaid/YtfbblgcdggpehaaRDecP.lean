/- What both Decodes and both Encodes answer, side by side. Conditions: short lists. -/
import Derived.Test.YtfbblgcdggpehaaRDecF
namespace Go.Proofs.Ytfbblgcdggpehaa
set_option linter.unusedSimpArgs false
set_option linter.unusedVariables false
open Go.RowKit

set_option maxRecDepth 100000 in
set_option maxHeartbeats 3200000 in
/-- not a page's length -/
theorem rdec_len (ao : Option Addr) (n c : Nat) (w : World) (hn : ¬ n = 504) :
    Calls Try.prog 18 #[.slice ao n c] w fun e w' => e = .returned (.tuple #[zeroN, .bool false]) ∧ Below w.heap.size w w' := by
  have d : ((n : Int) != 504) = true := by simp; omega
  obtain ⟨g, hg0⟩ : ∃ g, w.heap.size = g := ⟨_, rfl⟩
  have HB := Lib.hid ((Below.refl w.heap.size w).alloc (Nat.le_refl _) (.cells #[.bool false, .slice none 0 0, .slice none 0 0, .slice none 0 0, .int .i64 0] 38))
  have bz := Box.new w #[.bool false, .slice none 0 0, .slice none 0 0, .slice none 0 0, .int .i64 0] 38 hg0.symm
  have hz5 := Lib.hid (bz.set5 (.bool false) (.slice none 0 0) (.slice none 0 0) (.slice none 0 0) (.int .i64 0))
  have HG := Lib.hid hg0
  clear hn hg0 bz
  go_enter Try.func18, Try.ntmps18
  go_wp2
  refine bodyPost_ret (v := .tuple #[zeroN, .bool false]) (by simp [results, Try.results18, go_sem, zeroN]) rfl ?_
  exact ⟨rfl, (Below.refl w.heap.size w).alloc (Nat.le_refl _) _⟩

set_option maxRecDepth 100000 in
set_option maxHeartbeats 3200000 in
/-- not a node's first byte -/
theorem rdec_head (b o n c : Nat) (x : UInt8) (w : World) (hn : n = 504) (hb : b < w.heap.size) (hx : w.cell? ⟨b, o, none⟩ = some (.int .u8 (x.toNat : Int))) (h1 : ¬ x = 1) (h2 : ¬ x = 2) :
    Calls Try.prog 18 #[.slice (some ⟨b, o, none⟩) n c] w fun e w' => e = .returned (.tuple #[zeroN, .bool false]) ∧ Below w.heap.size w w' := by
  subst hn
  have d1 : ((x.toNat : Int) != 1) = true := by
    have : x.toNat ≠ 1 := fun h => h1 (UInt8.toNat_inj.1 h)
    simp; omega
  have d2 : ((x.toNat : Int) != 2) = true := by
    have : x.toNat ≠ 2 := fun h => h2 (UInt8.toNat_inj.1 h)
    simp; omega
  have hx2 := (((Below.refl w.heap.size w).alloc (Nat.le_refl _) (.cells #[.bool false, .slice none 0 0, .slice none 0 0, .slice none 0 0, .int .i64 0] 38)).cell (p := ⟨b, o, none⟩) hb).trans hx
  clear h1 h2 hx
  go_enter Try.func18, Try.ntmps18
  go_wp2
  refine bodyPost_ret (v := .tuple #[zeroN, .bool false]) (by simp [results, Try.results18, go_sem, zeroN]) rfl ?_
  exact ⟨rfl, (Below.refl w.heap.size w).alloc (Nat.le_refl _) _⟩

/-- bytes that read as a page -/
theorem LAt.of_reads {w : World} {v : Value} {L : List UInt8} {n : Nat} (h : Reads 1 w v n (L.map B)) (hn : n = L.length) (h0 : 0 < n) : ∃ b o c, v = .slice (some ⟨b, o, none⟩) n c ∧ n ≤ c ∧ LAt w b o L := by
  obtain ⟨ao, c, rfl, hl, hc, hcell⟩ := h
  obtain ⟨b, o, rfl, hb, hcc⟩ := hcell h0
  refine ⟨b, o, c, rfl, hc, hb, fun j u hu => ?_⟩
  exact hcc j (B u) (by rw [List.getElem?_map, hu]; rfl)

theorem dec_not {L : List UInt8} (h : L.length ≠ 504 ∨ ∃ x, L[0]? = some x ∧ ¬ x = 1 ∧ ¬ x = 2) : ∀ lf, ¬ DecOk L lf := by
  intro lf hd
  rcases h with h | ⟨x, hx, h1, h2⟩
  · exact h hd.1
  · have := hd.2.1
    rw [hx] at this
    cases lf
    · exact h2 (by simpa using this)
    · exact h1 (by simpa using this)

theorem pdec_any (L : List UInt8) (v : Value) (w : World) (hr : Reads 1 w v L.length (L.map B)) :
    Calls Try.prog 17 #[v] w fun e w' => DecEnd NodeAt L w e w' := by
  by_cases hn : L.length = 504
  · obtain ⟨b, o, c, rfl, hc, hl⟩ := LAt.of_reads hr rfl (by omega)
    rw [hn] at hc ⊢
    have h0 : 0 < L.length := by omega
    have hx : L[0]? = some L[0] := List.getElem?_eq_getElem h0
    by_cases h1 : L[0] = 1
    · rw [h1] at hx; exact pdec_true b o c L w hn hx hc hl
    · by_cases h2 : L[0] = 2
      · rw [h2] at hx; exact pdec_false b o c L w hn hx hc hl
      · refine (pdec_head b o 504 c L[0] w rfl hl.1 (hl.2 0 _ hx) h1 h2).mono ?_
        rintro e w' ⟨rfl, hb⟩
        exact ⟨hb, .inr ⟨dec_not (.inr ⟨_, hx, h1, h2⟩), rfl⟩⟩
  · obtain ⟨ao, c, rfl, hl, hc, hcell⟩ := hr
    refine (pdec_len ao _ c w hn).mono ?_
    rintro e w' ⟨rfl, hb⟩
    exact ⟨hb, .inr ⟨dec_not (.inl hn), rfl⟩⟩

theorem rdec_any (L : List UInt8) (v : Value) (w : World) (hr : Reads 1 w v L.length (L.map B)) :
    Calls Try.prog 18 #[v] w fun e w' => DecEnd RefAt L w e w' := by
  by_cases hn : L.length = 504
  · obtain ⟨b, o, c, rfl, hc, hl⟩ := LAt.of_reads hr rfl (by omega)
    rw [hn] at hc ⊢
    have h0 : 0 < L.length := by omega
    have hx : L[0]? = some L[0] := List.getElem?_eq_getElem h0
    by_cases h1 : L[0] = 1
    · rw [h1] at hx; exact rdec_true b o c L w hn hx hc hl
    · by_cases h2 : L[0] = 2
      · rw [h2] at hx; exact rdec_false b o c L w hn hx hc hl
      · refine (rdec_head b o 504 c L[0] w rfl hl.1 (hl.2 0 _ hx) h1 h2).mono ?_
        rintro e w' ⟨rfl, hb⟩
        exact ⟨hb, .inr ⟨dec_not (.inr ⟨_, hx, h1, h2⟩), rfl⟩⟩
  · obtain ⟨ao, c, rfl, hl, hc, hcell⟩ := hr
    refine (rdec_len ao _ c w hn).mono ?_
    rintro e w' ⟨rfl, hb⟩
    exact ⟨hb, .inr ⟨dec_not (.inl hn), rfl⟩⟩

/-- a Decode's answer -/
def DecIs (At : World → Value → Value → Value → Nd → Prop) (y : Nd) (ok : Bool) (w : World) (e : Ending) (w' : World) : Prop := Below w.heap.size w w' ∧
  ∃ ak nk ck av nv cv ad nd cd, e = .returned (.tuple #[.agg #[.bool y.leaf, .slice ak nk ck, .slice av nv cv, .slice ad nd cd, .int .i64 y.next], .bool ok]) ∧ At w' (.slice ak nk ck) (.slice av nv cv) (.slice ad nd cd) y

def zeroNd : Nd := ⟨false, [], [], [], 0⟩
theorem dec_both (L : List UInt8) (hL : L.length ≤ 1048576) : ∃ y ok, y.small ∧ (∀ w e w', DecEnd NodeAt L w e w' → DecIs NodeAt y ok w e w') ∧ (∀ w e w', DecEnd RefAt L w e w' → DecIs RefAt y ok w e w') := by
  by_cases h : ∃ lf, DecOk L lf
  · obtain ⟨lf, h⟩ := h
    have hu : ∀ lf', DecOk L lf' → lf' = lf := fun lf' h' => dec_lf (a := lf) h.2.1 h'
    refine ⟨dnode L lf, true, dnode_small hL lf, ?_, ?_⟩
    · rintro w e w' ⟨hb, ⟨lf', h', ks, vs, ds, rfl, hat⟩ | ⟨hn, _⟩⟩
      · obtain rfl := hu _ h'
        obtain ⟨_, ⟨ak, ck, rfl, _⟩, _⟩ := id hat.keys
        obtain ⟨_, ⟨av, cv, rfl, _⟩, _⟩ := id hat.vals
        obtain ⟨ad, cd, rfl⟩ := hat.kids.shape
        exact ⟨hb, ak, _, ck, av, _, cv, ad, _, cd, rfl, hat⟩
      · exact absurd h (hn lf)
    · rintro w e w' ⟨hb, ⟨lf', h', ks, vs, ds, rfl, hat⟩ | ⟨hn, _⟩⟩
      · obtain rfl := hu _ h'
        obtain ⟨ak, ck, rfl⟩ := hat.keys.shape
        obtain ⟨av, cv, rfl⟩ := hat.vals.shape
        obtain ⟨ad, cd, rfl⟩ := hat.kids.shape
        exact ⟨hb, ak, _, ck, av, _, cv, ad, _, cd, rfl, hat⟩
      · exact absurd h (hn lf)
  · refine ⟨zeroNd, false, ⟨by decide, by decide, by decide, by decide, by decide⟩, ?_, ?_⟩
    · rintro w e w' ⟨hb, ⟨lf', h', _⟩ | ⟨hn, rfl⟩⟩
      · exact absurd ⟨lf', h'⟩ h
      · exact ⟨hb, none, 0, 0, none, 0, 0, none, 0, 0, rfl, ⟨⟨[], Reads.empty, TextsAt.nil⟩, ⟨[], Reads.empty, TextsAt.nil⟩, Reads.empty⟩⟩
    · rintro w e w' ⟨hb, ⟨lf', h', _⟩ | ⟨hn, rfl⟩⟩
      · exact absurd ⟨lf', h'⟩ h
      · exact ⟨hb, none, 0, 0, none, 0, 0, none, 0, 0, rfl, ⟨Reads.empty, Reads.empty, Reads.empty⟩⟩

/-- an Encode's answer -/
def EncIs (l : List UInt8) (er : Int) (w : World) (e : Ending) (w' : World) : Prop := Below w.heap.size w w' ∧ ∃ ao c, e = .returned (.tuple #[.slice ao l.length c, .int .i64 er]) ∧ Reads 1 w' (.slice ao l.length c) l.length (l.map B)
theorem enc_both (x : Nd) : ∃ l er, ∀ w e w', EncEnd x w e w' → EncIs l er w e w' := by
  by_cases h1 : x.Fit
  · by_cases h2 : rsize x x.keys.length ≤ 504
    · refine ⟨page x, 0, ?_⟩
      rintro w e w' ⟨v, er, rfl, hb, ⟨hn, _⟩ | ⟨_, hs, _⟩ | ⟨_, _, rfl, hr⟩⟩
      · exact absurd h1 hn
      · omega
      · obtain ⟨ao, c, rfl, hl, hc, hx⟩ := id hr
        have hlen : (page x).length = 504 := by simpa using hl
        rw [← hlen] at hr
        refine ⟨hb, ao, c, by rw [hlen], hr⟩
    · refine ⟨[], 60, ?_⟩
      rintro w e w' ⟨v, er, rfl, hb, ⟨hn, _⟩ | ⟨_, hs, rfl, rfl⟩ | ⟨_, h, _⟩⟩
      · exact absurd h1 hn
      · exact ⟨hb, none, 0, rfl, Reads.empty⟩
      · exact absurd h h2
  · refine ⟨[], 1, ?_⟩
    rintro w e w' ⟨v, er, rfl, hb, ⟨_, rfl, rfl⟩ | ⟨hn, _⟩ | ⟨hn, _⟩⟩
    · exact ⟨hb, none, 0, rfl, Reads.empty⟩
    · exact absurd hn h1
    · exact absurd hn h1

end Go.Proofs.Ytfbblgcdggpehaa
