/- The law PoolPlays: behind the switch. Conditions: none. -/
import Derived.Test.YtdnjjdpenfhpeaaPlPlaysQ
import Derived.Test.YtdnjjdpenfhpeaaPlXop
import Derived.Deep.DeepCutAuto
import Derived.Deep.CutBlock
import Derived.BigQuiet
namespace Go.Proofs.Ytdnjjdpenfhpeaa
set_option linter.unusedSimpArgs false
set_option linter.unusedVariables false
open Go.RowKit

def endsBlock (k : Nat) : Code → Bool
  | .block j _ => j == k
  | .seq _ b => endsBlock k b
  | _ => false
def afterBlock (k : Nat) : Code → Option Code
  | .seq a b => if endsBlock k a then some b else match afterBlock k a with
    | some c => some c
    | none => afterBlock k b
  | .block _ c => afterBlock k c
  | .loop c => afterBlock k c
  | .scope c => afterBlock k c
  | .cond _ a b => match afterBlock k a with
    | some c => some c
    | none => afterBlock k b
  | _ => none
/-- the law's code behind the switch -/
noncomputable def restCode : Code := ((Try.f4.body.bind (afterBlock 2)).getD .skip)
def WPy31 (g r tb nn db cd fb cf hnd m wn m2 cx cy : Nat) (bad : Int) (ax ay : Option Addr) (dl : List (Int × Int)) (j b o : Nat) : Prop := False
def PPy31 (g r tb nn db cd fb cf hnd m wn m2 cx cy : Nat) (bad : Int) (ax ay : Option Addr) (dl : List (Int × Int)) (i : Nat) (v : Value) (lo hi : Nat) (w : World) : Prop :=
  match i with
  | 0 => v = .bool true
  | 1 => v = .bool false
  | 2 => v = .bool false
  | 3 => v = .pointer (some ⟨g, 0, none⟩)
  | 4 => v = .int .i64 ((wn : Nat) : Int)
  | 5 => v = .pointer (some ⟨r, 0, none⟩)
  | 6 => v = .pointer (some ⟨r, 0, none⟩)
  | 7 => v = .pointer (some ⟨r, 6, none⟩)
  | 8 => v = .int .i64 ((wn : Nat) : Int)
  | 9 => v = .bool false
  | 10 => v = .bool false
  | 11 => v = .bool false
  | 12 => v = .slice ax m cx
  | 13 => v = .int .i64 ((m : Nat) : Int)
  | 14 => v = .pointer (some ⟨r, 0, none⟩)
  | 15 => v = .pointer (some ⟨r, 0, none⟩)
  | 16 => v = .pointer (some ⟨r, 5, none⟩)
  | 17 => v = .slice ay m cy
  | 18 => v = .int .i64 ((m : Nat) : Int)
  | 19 => v = .bool false
  | 20 => v = .bool false
  | 21 => v = .bool false
  | 22 => v = .pointer (some ⟨g, 0, none⟩)
  | 23 => ∃ ao cp, v = .slice ao m2 cp ∧ Reads 2 w (.slice ao m2 cp) m2 (dcells dl)
  | 24 => v = .pointer (some ⟨r, 0, none⟩)
  | 25 => ∃ ao cp, v = .slice ao m2 cp ∧ Reads 2 w (.slice ao m2 cp) m2 (dcells dl)
  | 26 => v = .bool true
  | 27 => v = .bool false
  | 28 => v = .bool false
  | _ => True
theorem PPy31_stable (g r tb nn db cd fb cf hnd m wn m2 cx cy : Nat) (bad : Int) (ax ay : Option Addr) (dl : List (Int × Int))  : ∀ i j, i < 29 → j < 29 → j ≠ i → j ∉ ([[], [0], [0, 1], [0, 1, 2], [0, 1, 2, 3], [0, 1, 2], [0, 1, 2, 5], [0, 1, 2, 5, 6], [0, 1, 2, 5, 6, 7], [0, 1, 2, 3, 4, 5, 6, 7, 8], [0, 1, 2, 3, 4, 5, 6, 7, 8, 9], [0, 1, 2, 3, 4, 5, 6, 7, 8, 9, 10], [0, 1, 2, 3, 4, 5, 6, 7, 8, 9, 10, 11], [0, 1, 2, 3, 4, 5, 6, 7, 8, 9, 10, 11, 12], [0, 1, 2, 3, 4, 5, 6, 7, 8, 9, 10, 11], [0, 1, 2, 3, 4, 5, 6, 7, 8, 9, 10, 11, 14], [0, 1, 2, 3, 4, 5, 6, 7, 8, 9, 10, 11, 14, 15], [0, 1, 2, 3, 4, 5, 6, 7, 8, 9, 10, 11, 14, 15, 16], [0, 1, 2, 3, 4, 5, 6, 7, 8, 9, 10, 11, 14, 15, 16, 17], [0, 1, 2, 3, 4, 5, 6, 7, 8, 9, 10, 11, 12, 13, 14, 15, 16, 17, 18], [0, 1, 2, 3, 4, 5, 6, 7, 8, 9, 10, 11, 12, 13, 14, 15, 16, 17, 18, 19], [0, 1, 2, 3, 4, 5, 6, 7, 8, 9, 10, 11, 12, 13, 14, 15, 16, 17, 18, 19, 20], [0, 1, 2, 3, 4, 5, 6, 7, 8, 9, 10, 11, 12, 13, 14, 15, 16, 17, 18, 19, 20, 21], [0, 1, 2, 3, 4, 5, 6, 7, 8, 9, 10, 11, 12, 13, 14, 15, 16, 17, 18, 19, 20, 21, 22], [0, 1, 2, 3, 4, 5, 6, 7, 8, 9, 10, 11, 12, 13, 14, 15, 16, 17, 18, 19, 20, 21], [0, 1, 2, 3, 4, 5, 6, 7, 8, 9, 10, 11, 12, 13, 14, 15, 16, 17, 18, 19, 20, 21, 22, 23, 24], [0, 1, 2, 3, 4, 5, 6, 7, 8, 9, 10, 11, 12, 13, 14, 15, 16, 17, 18, 19, 20, 21, 22, 23, 24, 25], [0, 1, 2, 3, 4, 5, 6, 7, 8, 9, 10, 11, 12, 13, 14, 15, 16, 17, 18, 19, 20, 21, 22, 23, 24, 25, 26], [0, 1, 2, 3, 4, 5, 6, 7, 8, 9, 10, 11, 12, 13, 14, 15, 16, 17, 18, 19, 20, 21, 22, 23, 24, 25, 26, 27]] : List (List Nat)).getD i [] → ∀ v lo hi w w', PPy31 g r tb nn db cd fb cf hnd m wn m2 cx cy bad ax ay dl i v lo hi w → GrowC (WPy31 g r tb nn db cd fb cf hnd m wn m2 cx cy bad ax ay dl j) w w' → PPy31 g r tb nn db cd fb cf hnd m wn m2 cx cy bad ax ay dl i v lo hi w' := by
  intro i j hi hj hne hbs v lo hj2 w w' h hg
  match i, hi with
  | 0, _ =>
    simp only [PPy31] at h ⊢
    exact h
  | 1, _ =>
    simp only [PPy31] at h ⊢
    exact h
  | 2, _ =>
    simp only [PPy31] at h ⊢
    exact h
  | 3, _ =>
    simp only [PPy31] at h ⊢
    exact h
  | 4, _ =>
    simp only [PPy31] at h ⊢
    exact h
  | 5, _ =>
    simp only [PPy31] at h ⊢
    exact h
  | 6, _ =>
    simp only [PPy31] at h ⊢
    exact h
  | 7, _ =>
    simp only [PPy31] at h ⊢
    exact h
  | 8, _ =>
    simp only [PPy31] at h ⊢
    exact h
  | 9, _ =>
    simp only [PPy31] at h ⊢
    exact h
  | 10, _ =>
    simp only [PPy31] at h ⊢
    exact h
  | 11, _ =>
    simp only [PPy31] at h ⊢
    exact h
  | 12, _ =>
    simp only [PPy31] at h ⊢
    exact h
  | 13, _ =>
    simp only [PPy31] at h ⊢
    exact h
  | 14, _ =>
    simp only [PPy31] at h ⊢
    exact h
  | 15, _ =>
    simp only [PPy31] at h ⊢
    exact h
  | 16, _ =>
    simp only [PPy31] at h ⊢
    exact h
  | 17, _ =>
    simp only [PPy31] at h ⊢
    exact h
  | 18, _ =>
    simp only [PPy31] at h ⊢
    exact h
  | 19, _ =>
    simp only [PPy31] at h ⊢
    exact h
  | 20, _ =>
    simp only [PPy31] at h ⊢
    exact h
  | 21, _ =>
    simp only [PPy31] at h ⊢
    exact h
  | 22, _ =>
    simp only [PPy31] at h ⊢
    exact h
  | 23, _ =>
    simp only [PPy31] at h ⊢
    obtain ⟨ao, cp, h1, h2⟩ := h
    exact ⟨ao, cp, h1, h2.growx (GrowX.of_growC hg (Y := fun _ => False) (fun k o h => h)) (fun _ _ h => h)⟩
  | 24, _ =>
    simp only [PPy31] at h ⊢
    exact h
  | 25, _ =>
    simp only [PPy31] at h ⊢
    obtain ⟨ao, cp, h1, h2⟩ := h
    exact ⟨ao, cp, h1, h2.growx (GrowX.of_growC hg (Y := fun _ => False) (fun k o h => h)) (fun _ _ h => h)⟩
  | 26, _ =>
    simp only [PPy31] at h ⊢
    exact h
  | 27, _ =>
    simp only [PPy31] at h ⊢
    exact h
  | 28, _ =>
    simp only [PPy31] at h ⊢
    exact h
  | (q + 29), hq => exact absurd hq (by omega)
set_option maxRecDepth 1000000 in
set_option maxHeartbeats 25600000 in
theorem rest_any (w wc : World) (bad : Int) (n nn k g f dd tb bb r : Nat) (p' : Pl) (fo' : List Int) (S1' S2' : Nat → Prop) (z0 z1 z2 z3 z4 z5 z6 z7 z8 z9 z10 z13 z15 z17 z19 z20 z21 z22 z23 z24 z25 z26 z27 z28 z29 z30 z31 z32 z33 z34 z35 z36 z37 z38 z39 z40 z41 z42 z43 z44 z45 z46 z47 z48 z49 z50 z51 z52 z53 z54 z55 z56 z57 z58 z59 z60 z61 z62 z63 z64 z65 z66 z67 z68 z69 z70 z71 z72 z73 z74 z75 z76 z77 z78 z79 z80 z81 z82 z83 z84 z85 z86 z87 z88 z89 z90 z91 z92 z93 z94 z95 z96 z97 z98 z99 z100 z101 z102 z103 z104 z105 z106 z107 z108 z109 z110 z111 z112 z113 z114 z115 z116 z117 z118 z119 z120 z121 z122 z123 z124 z125 z126 z127 z128 z129 z130 z131 z132 z133 z134 z135 z136 z137 z138 z139 z140 z141 z142 z143 z144 z145 z146 z147 z148 z149 z150 z151 z152 z153 z154 z155 z156 z157 z158 z159 z160 z161 z162 z163 z164 z165 z166 z167 z168 z169 z170 z171 z172 z173 z174 z175 z176 z177 z178 z179 z180 z181 z182 z183 z184 z185 z186 z187 z188 z189 z190 z191 z192 z193 z194 z195 z196 z197 z198 z199 z200 z201 z202 z203 z204 z205 z206 z207 z208 z209 z210 z211 z212 z213 z214 z215 z216 z217 z218 z219 z220 z221 z222 z223 z224 z225 z226 z227 z228 z229 z230 z231 z232 z233 z234 z235 z236 z237 z238 z239 z240 z241 z242 z243 z244 z245 z246 z247 : Value) (hn : n ≤ 9223372036854775807) (hnn : 1 ≤ nn ∧ nn ≤ 64) (hkn : k < n) (hk1 : k < 100)
    (HF : Hid (ForceOf w 17 #[.pointer (some ⟨tb, 0, none⟩), .pointer (some ⟨bb, 0, none⟩)] (PF w tb bb bad) (stepP bad 60) fun fo => fo.length + 1 ≤ 1000000))
    (HA : Hid (QAt w g f dd nn tb bb r bad (k + 1) p' fo' S1' S2' wc)) (Q : Exit → Act → World → Prop)
    (HQQ : Hid (∀ (t6 t17 t18 t19 t20 t21 t22 t23 t24 t25 t26 t27 t28 t66 t67 t68 t69 t70 t71 t72 t73 t74 t75 t76 t77 t78 t79 t80 t81 t82 t83 t84 t85 t86 t87 t88 t89 t90 t91 t92 t93 t94 t95 t96 t97 t98 t99 t100 t101 t102 t103 t104 t105 t106 t107 t108 t109 t110 t111 t112 t113 t114 t115 t116 t117 t118 t119 t120 t121 t122 t123 t124 t125 t126 t127 t128 t129 t130 t131 t132 t133 t134 t135 t136 t137 t138 t139 t140 t141 t142 t143 t144 t145 t146 t147 t148 t149 t150 t151 t152 t153 t154 t155 t156 t157 t158 t159 t160 t161 t162 t163 t164 t165 t166 t167 t168 t169 t170 t171 t172 t173 t174 t175 t176 t177 t178 t179 t180 t181 t182 t183 t184 t185 t186 t187 t188 t189 t190 t191 t192 t193 t194 t195 t196 t197 t198 t199 t200 t201 t202 t203 t204 t205 t206 t207 t208 t209 t210 t211 t212 t213 t214 t215 t216 t217 t218 t219 t220 t221 t222 t223 t224 t225 t226 t227 t228 t229 : Value) (w' : World), QAt w g f dd nn tb bb r bad (k + 1) p' fo' S1' S2' w' → Q .normal ⟨#[z0, z1, z2, z3, z4, z5, t6, z7, z8, z9, z10, .pointer (some ⟨tb, 0, none⟩), .pointer (some ⟨g, 0, none⟩), z13, .pointer (some ⟨r, 0, none⟩), z15, .int .i64 (k : Nat), t17, t18, t19, t20, t21, t22, t23, t24, t25, t26, t27, t28, z29, z30, z31, z32, z33, z34, z35, z36, z37, z38, z39, z40, z41, z42, z43, z44, z45, z46, z47, z48, z49, z50, z51, z52, z53, z54, z55, z56, z57, z58, z59, z60, z61, z62, z63, z64, z65, t66, t67, t68, t69, t70, t71, t72, t73, t74, t75, t76, t77, t78, t79, t80, t81, t82, t83, t84, t85, t86, t87, t88, t89, t90, t91, t92, t93, t94, t95, t96, t97, t98, t99, t100, t101, t102, t103, t104, t105, t106, t107, t108, t109, t110, t111, t112, t113, t114, t115, t116, t117, t118, t119, t120, t121, t122, t123, t124, t125, t126, t127, t128, t129, t130, t131, t132, t133, t134, t135, t136, t137, t138, t139, t140, t141, t142, t143, t144, t145, t146, t147, t148, t149, t150, t151, t152, t153, t154, t155, t156, t157, t158, t159, t160, t161, t162, t163, t164, t165, t166, t167, t168, t169, t170, t171, t172, t173, t174, t175, t176, t177, t178, t179, t180, t181, t182, t183, t184, t185, t186, t187, t188, t189, t190, t191, t192, t193, t194, t195, t196, t197, t198, t199, t200, t201, t202, t203, t204, t205, t206, t207, t208, t209, t210, t211, t212, t213, t214, t215, t216, t217, t218, t219, t220, t221, t222, t223, t224, t225, t226, t227, t228, t229, z230, z231, z232, z233, z234, z235, z236, z237, z238, z239, z240, z241, z242, z243, z244, z245, z246, z247], []⟩ w')) :
    Code.wp Try.prog restCode Q ⟨#[z0, z1, z2, z3, z4, z5, z6, z7, z8, z9, z10, .pointer (some ⟨tb, 0, none⟩), .pointer (some ⟨g, 0, none⟩), z13, .pointer (some ⟨r, 0, none⟩), z15, .int .i64 (k : Nat), z17, .bool true, z19, z20, z21, z22, z23, z24, z25, z26, z27, z28, z29, z30, z31, z32, z33, z34, z35, z36, z37, z38, z39, z40, z41, z42, z43, z44, z45, z46, z47, z48, z49, z50, z51, z52, z53, z54, z55, z56, z57, z58, z59, z60, z61, z62, z63, z64, z65, z66, z67, z68, z69, z70, z71, z72, z73, z74, z75, z76, z77, z78, z79, z80, z81, z82, z83, z84, z85, z86, z87, z88, z89, z90, z91, z92, z93, z94, z95, z96, z97, z98, z99, z100, z101, z102, z103, z104, z105, z106, z107, z108, z109, z110, z111, z112, z113, z114, z115, z116, z117, z118, z119, z120, z121, z122, z123, z124, z125, z126, z127, z128, z129, z130, z131, z132, z133, z134, z135, z136, z137, z138, z139, z140, z141, z142, z143, z144, z145, z146, z147, z148, z149, z150, z151, z152, z153, z154, z155, z156, z157, z158, z159, z160, z161, z162, z163, z164, z165, z166, z167, z168, z169, z170, z171, z172, z173, z174, z175, z176, z177, z178, z179, z180, z181, z182, z183, z184, z185, z186, z187, z188, z189, z190, z191, z192, z193, z194, z195, z196, z197, z198, z199, z200, z201, z202, z203, z204, z205, z206, z207, z208, z209, z210, z211, z212, z213, z214, z215, z216, z217, z218, z219, z220, z221, z222, z223, z224, z225, z226, z227, z228, z229, z230, z231, z232, z233, z234, z235, z236, z237, z238, z239, z240, z241, z242, z243, z244, z245, z246, z247], []⟩ wc := by
  conv => arg 2; whnf
  obtain ⟨ax, cx, v1, _, _, _, _⟩ := HA.out.pv.vars
  obtain ⟨db, cd, fb, cf, ay, cy, u1, _, _, _, _⟩ := HA.out.rv.view
  obtain ⟨m, hm⟩ : ∃ m, fo'.length = m := ⟨_, rfl⟩
  obtain ⟨wn, hwn⟩ : ∃ m, p'.wr = m := ⟨_, rfl⟩
  obtain ⟨hnd, hhd⟩ : ∃ m, p'.hand = m := ⟨_, rfl⟩
  obtain ⟨dl, hdl⟩ : ∃ l, rdirtyL p'.F 6 = l := ⟨_, rfl⟩
  obtain ⟨m2, hm2⟩ : ∃ l, dl.length = l := ⟨_, rfl⟩
  have hm6 : m2 ≤ 6 := by
    rw [← hm2, ← hdl]
    exact Nat.le_trans (List.length_filterMap_le _ _) (by simp)
  have hmk : m ≤ k + 1 := by rw [← hm]; exact HA.out.m2
  have hwk : wn ≤ k + 1 := by rw [← hwn]; exact HA.out.m1
  rw [hm] at v1 u1
  rw [hwn, hhd] at u1
  have HWN := Lib.hid hwn
  have HDL := Lib.hid hdl
  have HM2 := Lib.hid hm2
  have HM6 : Hid (m2 ≤ 1000000) := Lib.hid (by omega)
  have br := u1
  have bt := v1
  have hB : Below wc.heap.size wc wc := Below.refl _ _
  have hne1 : ((wn : Int) != (wn : Int)) = false := by simp
  have hne2 : ((m : Int) != (m : Int)) = false := by simp
  clear hm hwn hhd hdl hm2 u1 v1 hm6
  go_upto_region 31 with (fail)
  refine wp_region_partsDC (WPy31 g r tb nn db cd fb cf hnd m wn m2 cx cy bad ax ay dl) 29 [[], [0], [0, 1], [0, 1, 2], [0, 1, 2, 3], [0, 1, 2], [0, 1, 2, 5], [0, 1, 2, 5, 6], [0, 1, 2, 5, 6, 7], [0, 1, 2, 3, 4, 5, 6, 7, 8], [0, 1, 2, 3, 4, 5, 6, 7, 8, 9], [0, 1, 2, 3, 4, 5, 6, 7, 8, 9, 10], [0, 1, 2, 3, 4, 5, 6, 7, 8, 9, 10, 11], [0, 1, 2, 3, 4, 5, 6, 7, 8, 9, 10, 11, 12], [0, 1, 2, 3, 4, 5, 6, 7, 8, 9, 10, 11], [0, 1, 2, 3, 4, 5, 6, 7, 8, 9, 10, 11, 14], [0, 1, 2, 3, 4, 5, 6, 7, 8, 9, 10, 11, 14, 15], [0, 1, 2, 3, 4, 5, 6, 7, 8, 9, 10, 11, 14, 15, 16], [0, 1, 2, 3, 4, 5, 6, 7, 8, 9, 10, 11, 14, 15, 16, 17], [0, 1, 2, 3, 4, 5, 6, 7, 8, 9, 10, 11, 12, 13, 14, 15, 16, 17, 18], [0, 1, 2, 3, 4, 5, 6, 7, 8, 9, 10, 11, 12, 13, 14, 15, 16, 17, 18, 19], [0, 1, 2, 3, 4, 5, 6, 7, 8, 9, 10, 11, 12, 13, 14, 15, 16, 17, 18, 19, 20], [0, 1, 2, 3, 4, 5, 6, 7, 8, 9, 10, 11, 12, 13, 14, 15, 16, 17, 18, 19, 20, 21], [0, 1, 2, 3, 4, 5, 6, 7, 8, 9, 10, 11, 12, 13, 14, 15, 16, 17, 18, 19, 20, 21, 22], [0, 1, 2, 3, 4, 5, 6, 7, 8, 9, 10, 11, 12, 13, 14, 15, 16, 17, 18, 19, 20, 21], [0, 1, 2, 3, 4, 5, 6, 7, 8, 9, 10, 11, 12, 13, 14, 15, 16, 17, 18, 19, 20, 21, 22, 23, 24], [0, 1, 2, 3, 4, 5, 6, 7, 8, 9, 10, 11, 12, 13, 14, 15, 16, 17, 18, 19, 20, 21, 22, 23, 24, 25], [0, 1, 2, 3, 4, 5, 6, 7, 8, 9, 10, 11, 12, 13, 14, 15, 16, 17, 18, 19, 20, 21, 22, 23, 24, 25, 26], [0, 1, 2, 3, 4, 5, 6, 7, 8, 9, 10, 11, 12, 13, 14, 15, 16, 17, 18, 19, 20, 21, 22, 23, 24, 25, 26, 27]] [some 166, some 167, some 168, some 169, some 170, some 171, some 172, some 173, some 174, some 175, some 176, some 177, some 178, some 179, some 180, some 181, some 182, some 183, some 184, some 185, some 186, some 187, some 188, some 189, some 190, some 191, some 192, some 193, some 194] (by kernel_rfl) (by kernel_rfl) rfl (PPy31 g r tb nn db cd fb cf hnd m wn m2 cx cy bad ax ay dl) (PPy31_stable g r tb nn db cd fb cf hnd m wn m2 cx cy bad ax ay dl ) ?pPy31 ?_
  case pPy31 =>
    intro i hi o ho vs lo hx_ w' hg hp
    match i, hi with
    | 0, _ =>
      obtain rfl := Option.some.inj ho
      clear ho
      simp only [actsD, List.getD_cons_zero, List.getD_cons_succ, List.foldl_cons, List.foldl_nil, Act.put, List.setIfInBounds_toArray, List.set_cons_succ, List.set_cons_zero]
      have hsz := hg.size
      have hgB : Below wc.heap.size wc w' := hg.below (fun k hk => ⟨hk, fun o => by rintro ⟨j, _, _, _, hw⟩; exact False.elim hw⟩)
      go_wp2
      exact ⟨_, rfl, GrowC.refl _, rfl⟩
    | 1, _ =>
      obtain rfl := Option.some.inj ho
      clear ho
      simp only [actsD, List.getD_cons_zero, List.getD_cons_succ, List.foldl_cons, List.foldl_nil, Act.put, List.setIfInBounds_toArray, List.set_cons_succ, List.set_cons_zero]
      obtain ⟨_, _, _, h0⟩ := hp 0 (by simp)
      simp only [PPy31] at h0
      have hsz := hg.size
      have hgB : Below wc.heap.size wc w' := hg.below (fun k hk => ⟨hk, fun o => by rintro ⟨j, _, _, _, hw⟩; exact False.elim hw⟩)
      rw [h0]
      go_wp2
      exact ⟨_, rfl, GrowC.refl _, rfl⟩
    | 2, _ =>
      obtain rfl := Option.some.inj ho
      clear ho
      simp only [actsD, List.getD_cons_zero, List.getD_cons_succ, List.foldl_cons, List.foldl_nil, Act.put, List.setIfInBounds_toArray, List.set_cons_succ, List.set_cons_zero]
      obtain ⟨_, _, _, h1⟩ := hp 1 (by simp)
      simp only [PPy31] at h1
      have hsz := hg.size
      have hgB : Below wc.heap.size wc w' := hg.below (fun k hk => ⟨hk, fun o => by rintro ⟨j, _, _, _, hw⟩; exact False.elim hw⟩)
      rw [h1]
      go_wp2
      exact ⟨_, rfl, GrowC.refl _, rfl⟩
    | 3, _ =>
      obtain rfl := Option.some.inj ho
      clear ho
      simp only [actsD, List.getD_cons_zero, List.getD_cons_succ, List.foldl_cons, List.foldl_nil, Act.put, List.setIfInBounds_toArray, List.set_cons_succ, List.set_cons_zero]
      obtain ⟨_, _, _, h2⟩ := hp 2 (by simp)
      simp only [PPy31] at h2
      have hsz := hg.size
      have hgB : Below wc.heap.size wc w' := hg.below (fun k hk => ⟨hk, fun o => by rintro ⟨j, _, _, _, hw⟩; exact False.elim hw⟩)
      rw [h2]
      go_wp2
      exact ⟨_, rfl, GrowC.refl _, rfl⟩
    | 4, _ =>
      obtain rfl := Option.some.inj ho
      clear ho
      simp only [actsD, List.getD_cons_zero, List.getD_cons_succ, List.foldl_cons, List.foldl_nil, Act.put, List.setIfInBounds_toArray, List.set_cons_succ, List.set_cons_zero]
      obtain ⟨_, _, _, h2⟩ := hp 2 (by simp)
      simp only [PPy31] at h2
      obtain ⟨_, _, _, h3⟩ := hp 3 (by simp)
      simp only [PPy31] at h3
      have hsz := hg.size
      have hgB : Below wc.heap.size wc w' := hg.below (fun k hk => ⟨hk, fun o => by rintro ⟨j, _, _, _, hw⟩; exact False.elim hw⟩)
      rw [h2, h3]
      go_wp2_with fail
      refine (writes_pv (HA.out.pv.below HF.out hgB)).mono ?_
      rintro e wh ⟨rfl, rfl⟩
      rw [HWN.out]
      go_wp2
      exact ⟨_, rfl, GrowC.refl _, rfl⟩
    | 5, _ =>
      obtain rfl := Option.some.inj ho
      clear ho
      simp only [actsD, List.getD_cons_zero, List.getD_cons_succ, List.foldl_cons, List.foldl_nil, Act.put, List.setIfInBounds_toArray, List.set_cons_succ, List.set_cons_zero]
      obtain ⟨_, _, _, h2⟩ := hp 2 (by simp)
      simp only [PPy31] at h2
      have hsz := hg.size
      have hgB : Below wc.heap.size wc w' := hg.below (fun k hk => ⟨hk, fun o => by rintro ⟨j, _, _, _, hw⟩; exact False.elim hw⟩)
      rw [h2]
      go_wp2
      exact ⟨_, rfl, GrowC.refl _, rfl⟩
    | 6, _ =>
      obtain rfl := Option.some.inj ho
      clear ho
      simp only [actsD, List.getD_cons_zero, List.getD_cons_succ, List.foldl_cons, List.foldl_nil, Act.put, List.setIfInBounds_toArray, List.set_cons_succ, List.set_cons_zero]
      obtain ⟨_, _, _, h2⟩ := hp 2 (by simp)
      simp only [PPy31] at h2
      obtain ⟨_, _, _, h5⟩ := hp 5 (by simp)
      simp only [PPy31] at h5
      have hsz := hg.size
      have hgB : Below wc.heap.size wc w' := hg.below (fun k hk => ⟨hk, fun o => by rintro ⟨j, _, _, _, hw⟩; exact False.elim hw⟩)
      rw [h2, h5]
      go_wp2
      exact ⟨_, rfl, GrowC.refl _, rfl⟩
    | 7, _ =>
      obtain rfl := Option.some.inj ho
      clear ho
      simp only [actsD, List.getD_cons_zero, List.getD_cons_succ, List.foldl_cons, List.foldl_nil, Act.put, List.setIfInBounds_toArray, List.set_cons_succ, List.set_cons_zero]
      obtain ⟨_, _, _, h2⟩ := hp 2 (by simp)
      simp only [PPy31] at h2
      obtain ⟨_, _, _, h6⟩ := hp 6 (by simp)
      simp only [PPy31] at h6
      have hsz := hg.size
      have hgB : Below wc.heap.size wc w' := hg.below (fun k hk => ⟨hk, fun o => by rintro ⟨j, _, _, _, hw⟩; exact False.elim hw⟩)
      rw [h2, h6]
      go_wp2
      exact ⟨_, rfl, GrowC.refl _, rfl⟩
    | 8, _ =>
      obtain rfl := Option.some.inj ho
      clear ho
      simp only [actsD, List.getD_cons_zero, List.getD_cons_succ, List.foldl_cons, List.foldl_nil, Act.put, List.setIfInBounds_toArray, List.set_cons_succ, List.set_cons_zero]
      obtain ⟨_, _, _, h2⟩ := hp 2 (by simp)
      simp only [PPy31] at h2
      obtain ⟨_, _, _, h7⟩ := hp 7 (by simp)
      simp only [PPy31] at h7
      have hsz := hg.size
      have hgB : Below wc.heap.size wc w' := hg.below (fun k hk => ⟨hk, fun o => by rintro ⟨j, _, _, _, hw⟩; exact False.elim hw⟩)
      rw [h2, h7]
      have e0 := (hg.cell (r) 6 br.lt (by rintro ⟨j, _, hne, hb, hw⟩; exact False.elim hw)).trans (br.cell 6 _ rfl)
      go_wp2
      exact ⟨_, rfl, GrowC.refl _, rfl⟩
    | 9, _ =>
      obtain rfl := Option.some.inj ho
      clear ho
      simp only [actsD, List.getD_cons_zero, List.getD_cons_succ, List.foldl_cons, List.foldl_nil, Act.put, List.setIfInBounds_toArray, List.set_cons_succ, List.set_cons_zero]
      obtain ⟨_, _, _, h2⟩ := hp 2 (by simp)
      simp only [PPy31] at h2
      obtain ⟨_, _, _, h4⟩ := hp 4 (by simp)
      simp only [PPy31] at h4
      obtain ⟨_, _, _, h8⟩ := hp 8 (by simp)
      simp only [PPy31] at h8
      have hsz := hg.size
      have hgB : Below wc.heap.size wc w' := hg.below (fun k hk => ⟨hk, fun o => by rintro ⟨j, _, _, _, hw⟩; exact False.elim hw⟩)
      rw [h2, h4, h8]
      go_wp2
      exact ⟨_, rfl, GrowC.refl _, rfl⟩
    | 10, _ =>
      obtain rfl := Option.some.inj ho
      clear ho
      simp only [actsD, List.getD_cons_zero, List.getD_cons_succ, List.foldl_cons, List.foldl_nil, Act.put, List.setIfInBounds_toArray, List.set_cons_succ, List.set_cons_zero]
      obtain ⟨_, _, _, h2⟩ := hp 2 (by simp)
      simp only [PPy31] at h2
      obtain ⟨_, _, _, h9⟩ := hp 9 (by simp)
      simp only [PPy31] at h9
      have hsz := hg.size
      have hgB : Below wc.heap.size wc w' := hg.below (fun k hk => ⟨hk, fun o => by rintro ⟨j, _, _, _, hw⟩; exact False.elim hw⟩)
      rw [h2, h9]
      go_wp2
      exact ⟨_, rfl, GrowC.refl _, rfl⟩
    | 11, _ =>
      obtain rfl := Option.some.inj ho
      clear ho
      simp only [actsD, List.getD_cons_zero, List.getD_cons_succ, List.foldl_cons, List.foldl_nil, Act.put, List.setIfInBounds_toArray, List.set_cons_succ, List.set_cons_zero]
      obtain ⟨_, _, _, h10⟩ := hp 10 (by simp)
      simp only [PPy31] at h10
      have hsz := hg.size
      have hgB : Below wc.heap.size wc w' := hg.below (fun k hk => ⟨hk, fun o => by rintro ⟨j, _, _, _, hw⟩; exact False.elim hw⟩)
      rw [h10]
      go_wp2
      exact ⟨_, rfl, GrowC.refl _, rfl⟩
    | 12, _ =>
      obtain rfl := Option.some.inj ho
      clear ho
      simp only [actsD, List.getD_cons_zero, List.getD_cons_succ, List.foldl_cons, List.foldl_nil, Act.put, List.setIfInBounds_toArray, List.set_cons_succ, List.set_cons_zero]
      obtain ⟨_, _, _, h11⟩ := hp 11 (by simp)
      simp only [PPy31] at h11
      have hsz := hg.size
      have hgB : Below wc.heap.size wc w' := hg.below (fun k hk => ⟨hk, fun o => by rintro ⟨j, _, _, _, hw⟩; exact False.elim hw⟩)
      rw [h11]
      have e0 := (hg.cell (tb) 0 bt.lt (by rintro ⟨j, _, hne, hb, hw⟩; exact False.elim hw)).trans (bt.cell 0 _ rfl)
      go_wp2
      exact ⟨_, rfl, GrowC.refl _, rfl⟩
    | 13, _ =>
      obtain rfl := Option.some.inj ho
      clear ho
      simp only [actsD, List.getD_cons_zero, List.getD_cons_succ, List.foldl_cons, List.foldl_nil, Act.put, List.setIfInBounds_toArray, List.set_cons_succ, List.set_cons_zero]
      obtain ⟨_, _, _, h11⟩ := hp 11 (by simp)
      simp only [PPy31] at h11
      obtain ⟨_, _, _, h12⟩ := hp 12 (by simp)
      simp only [PPy31] at h12
      have hsz := hg.size
      have hgB : Below wc.heap.size wc w' := hg.below (fun k hk => ⟨hk, fun o => by rintro ⟨j, _, _, _, hw⟩; exact False.elim hw⟩)
      rw [h11, h12]
      go_wp2
      exact ⟨_, rfl, GrowC.refl _, rfl⟩
    | 14, _ =>
      obtain rfl := Option.some.inj ho
      clear ho
      simp only [actsD, List.getD_cons_zero, List.getD_cons_succ, List.foldl_cons, List.foldl_nil, Act.put, List.setIfInBounds_toArray, List.set_cons_succ, List.set_cons_zero]
      obtain ⟨_, _, _, h11⟩ := hp 11 (by simp)
      simp only [PPy31] at h11
      have hsz := hg.size
      have hgB : Below wc.heap.size wc w' := hg.below (fun k hk => ⟨hk, fun o => by rintro ⟨j, _, _, _, hw⟩; exact False.elim hw⟩)
      rw [h11]
      go_wp2
      exact ⟨_, rfl, GrowC.refl _, rfl⟩
    | 15, _ =>
      obtain rfl := Option.some.inj ho
      clear ho
      simp only [actsD, List.getD_cons_zero, List.getD_cons_succ, List.foldl_cons, List.foldl_nil, Act.put, List.setIfInBounds_toArray, List.set_cons_succ, List.set_cons_zero]
      obtain ⟨_, _, _, h11⟩ := hp 11 (by simp)
      simp only [PPy31] at h11
      obtain ⟨_, _, _, h14⟩ := hp 14 (by simp)
      simp only [PPy31] at h14
      have hsz := hg.size
      have hgB : Below wc.heap.size wc w' := hg.below (fun k hk => ⟨hk, fun o => by rintro ⟨j, _, _, _, hw⟩; exact False.elim hw⟩)
      rw [h11, h14]
      go_wp2
      exact ⟨_, rfl, GrowC.refl _, rfl⟩
    | 16, _ =>
      obtain rfl := Option.some.inj ho
      clear ho
      simp only [actsD, List.getD_cons_zero, List.getD_cons_succ, List.foldl_cons, List.foldl_nil, Act.put, List.setIfInBounds_toArray, List.set_cons_succ, List.set_cons_zero]
      obtain ⟨_, _, _, h11⟩ := hp 11 (by simp)
      simp only [PPy31] at h11
      obtain ⟨_, _, _, h15⟩ := hp 15 (by simp)
      simp only [PPy31] at h15
      have hsz := hg.size
      have hgB : Below wc.heap.size wc w' := hg.below (fun k hk => ⟨hk, fun o => by rintro ⟨j, _, _, _, hw⟩; exact False.elim hw⟩)
      rw [h11, h15]
      go_wp2
      exact ⟨_, rfl, GrowC.refl _, rfl⟩
    | 17, _ =>
      obtain rfl := Option.some.inj ho
      clear ho
      simp only [actsD, List.getD_cons_zero, List.getD_cons_succ, List.foldl_cons, List.foldl_nil, Act.put, List.setIfInBounds_toArray, List.set_cons_succ, List.set_cons_zero]
      obtain ⟨_, _, _, h11⟩ := hp 11 (by simp)
      simp only [PPy31] at h11
      obtain ⟨_, _, _, h16⟩ := hp 16 (by simp)
      simp only [PPy31] at h16
      have hsz := hg.size
      have hgB : Below wc.heap.size wc w' := hg.below (fun k hk => ⟨hk, fun o => by rintro ⟨j, _, _, _, hw⟩; exact False.elim hw⟩)
      rw [h11, h16]
      have e0 := (hg.cell (r) 5 br.lt (by rintro ⟨j, _, hne, hb, hw⟩; exact False.elim hw)).trans (br.cell 5 _ rfl)
      go_wp2
      exact ⟨_, rfl, GrowC.refl _, rfl⟩
    | 18, _ =>
      obtain rfl := Option.some.inj ho
      clear ho
      simp only [actsD, List.getD_cons_zero, List.getD_cons_succ, List.foldl_cons, List.foldl_nil, Act.put, List.setIfInBounds_toArray, List.set_cons_succ, List.set_cons_zero]
      obtain ⟨_, _, _, h11⟩ := hp 11 (by simp)
      simp only [PPy31] at h11
      obtain ⟨_, _, _, h17⟩ := hp 17 (by simp)
      simp only [PPy31] at h17
      have hsz := hg.size
      have hgB : Below wc.heap.size wc w' := hg.below (fun k hk => ⟨hk, fun o => by rintro ⟨j, _, _, _, hw⟩; exact False.elim hw⟩)
      rw [h11, h17]
      go_wp2
      exact ⟨_, rfl, GrowC.refl _, rfl⟩
    | 19, _ =>
      obtain rfl := Option.some.inj ho
      clear ho
      simp only [actsD, List.getD_cons_zero, List.getD_cons_succ, List.foldl_cons, List.foldl_nil, Act.put, List.setIfInBounds_toArray, List.set_cons_succ, List.set_cons_zero]
      obtain ⟨_, _, _, h11⟩ := hp 11 (by simp)
      simp only [PPy31] at h11
      obtain ⟨_, _, _, h13⟩ := hp 13 (by simp)
      simp only [PPy31] at h13
      obtain ⟨_, _, _, h18⟩ := hp 18 (by simp)
      simp only [PPy31] at h18
      have hsz := hg.size
      have hgB : Below wc.heap.size wc w' := hg.below (fun k hk => ⟨hk, fun o => by rintro ⟨j, _, _, _, hw⟩; exact False.elim hw⟩)
      rw [h11, h13, h18]
      go_wp2
      exact ⟨_, rfl, GrowC.refl _, rfl⟩
    | 20, _ =>
      obtain rfl := Option.some.inj ho
      clear ho
      simp only [actsD, List.getD_cons_zero, List.getD_cons_succ, List.foldl_cons, List.foldl_nil, Act.put, List.setIfInBounds_toArray, List.set_cons_succ, List.set_cons_zero]
      obtain ⟨_, _, _, h11⟩ := hp 11 (by simp)
      simp only [PPy31] at h11
      obtain ⟨_, _, _, h19⟩ := hp 19 (by simp)
      simp only [PPy31] at h19
      have hsz := hg.size
      have hgB : Below wc.heap.size wc w' := hg.below (fun k hk => ⟨hk, fun o => by rintro ⟨j, _, _, _, hw⟩; exact False.elim hw⟩)
      rw [h11, h19]
      go_wp2
      exact ⟨_, rfl, GrowC.refl _, rfl⟩
    | 21, _ =>
      obtain rfl := Option.some.inj ho
      clear ho
      simp only [actsD, List.getD_cons_zero, List.getD_cons_succ, List.foldl_cons, List.foldl_nil, Act.put, List.setIfInBounds_toArray, List.set_cons_succ, List.set_cons_zero]
      obtain ⟨_, _, _, h20⟩ := hp 20 (by simp)
      simp only [PPy31] at h20
      have hsz := hg.size
      have hgB : Below wc.heap.size wc w' := hg.below (fun k hk => ⟨hk, fun o => by rintro ⟨j, _, _, _, hw⟩; exact False.elim hw⟩)
      rw [h20]
      go_wp2
      exact ⟨_, rfl, GrowC.refl _, rfl⟩
    | 22, _ =>
      obtain rfl := Option.some.inj ho
      clear ho
      simp only [actsD, List.getD_cons_zero, List.getD_cons_succ, List.foldl_cons, List.foldl_nil, Act.put, List.setIfInBounds_toArray, List.set_cons_succ, List.set_cons_zero]
      obtain ⟨_, _, _, h21⟩ := hp 21 (by simp)
      simp only [PPy31] at h21
      have hsz := hg.size
      have hgB : Below wc.heap.size wc w' := hg.below (fun k hk => ⟨hk, fun o => by rintro ⟨j, _, _, _, hw⟩; exact False.elim hw⟩)
      rw [h21]
      go_wp2
      exact ⟨_, rfl, GrowC.refl _, rfl⟩
    | 23, _ =>
      obtain rfl := Option.some.inj ho
      clear ho
      simp only [actsD, List.getD_cons_zero, List.getD_cons_succ, List.foldl_cons, List.foldl_nil, Act.put, List.setIfInBounds_toArray, List.set_cons_succ, List.set_cons_zero]
      obtain ⟨_, _, _, h21⟩ := hp 21 (by simp)
      simp only [PPy31] at h21
      obtain ⟨_, _, _, h22⟩ := hp 22 (by simp)
      simp only [PPy31] at h22
      have hsz := hg.size
      have hgB : Below wc.heap.size wc w' := hg.below (fun k hk => ⟨hk, fun o => by rintro ⟨j, _, _, _, hw⟩; exact False.elim hw⟩)
      rw [h21, h22]
      go_wp2_with fail
      refine (dirty_pv HF.out (HA.out.pv.below HF.out hgB)).mono ?_
      rintro e wh ⟨c, ao, m3, rfl, hc, hm3, _, hr, _, hbl⟩
      have hcd := (dirty_same HA.out.pv.ok HA.out.uq hc).trans HDL.out
      rw [hcd] at hr hm3
      obtain rfl : m2 = m3 := HM2.out.symm.trans hm3
      go_wp2
      exact ⟨_, rfl, GrowC.of_grow ⟨hbl.os, hbl.tape, hbl.output, hbl.size, hbl.block⟩, ao, _, rfl, hr⟩
    | 24, _ =>
      obtain rfl := Option.some.inj ho
      clear ho
      simp only [actsD, List.getD_cons_zero, List.getD_cons_succ, List.foldl_cons, List.foldl_nil, Act.put, List.setIfInBounds_toArray, List.set_cons_succ, List.set_cons_zero]
      obtain ⟨_, _, _, h21⟩ := hp 21 (by simp)
      simp only [PPy31] at h21
      have hsz := hg.size
      have hgB : Below wc.heap.size wc w' := hg.below (fun k hk => ⟨hk, fun o => by rintro ⟨j, _, _, _, hw⟩; exact False.elim hw⟩)
      rw [h21]
      go_wp2
      exact ⟨_, rfl, GrowC.refl _, rfl⟩
    | 25, _ =>
      obtain rfl := Option.some.inj ho
      clear ho
      simp only [actsD, List.getD_cons_zero, List.getD_cons_succ, List.foldl_cons, List.foldl_nil, Act.put, List.setIfInBounds_toArray, List.set_cons_succ, List.set_cons_zero]
      obtain ⟨_, _, _, h21⟩ := hp 21 (by simp)
      simp only [PPy31] at h21
      obtain ⟨_, _, _, h24⟩ := hp 24 (by simp)
      simp only [PPy31] at h24
      have hsz := hg.size
      have hgB : Below wc.heap.size wc w' := hg.below (fun k hk => ⟨hk, fun o => by rintro ⟨j, _, _, _, hw⟩; exact False.elim hw⟩)
      rw [h21, h24]
      go_wp2_with fail
      refine (rdirty_rv (HA.out.rv.below hgB) (by decide)).mono ?_
      rintro e wh ⟨v2, m3, rfl, hm3, hr, _, hbl⟩
      rw [HDL.out] at hr hm3
      obtain rfl : m2 = m3 := HM2.out.symm.trans hm3
      obtain ⟨a2, c2, rfl⟩ : ∃ a c, v2 = .slice a m2 c := by obtain ⟨a, c, e, _⟩ := hr; exact ⟨a, c, e⟩
      go_wp2
      exact ⟨_, rfl, GrowC.of_grow ⟨hbl.os, hbl.tape, hbl.output, hbl.size, hbl.block⟩, a2, c2, rfl, hr⟩
    | 26, _ =>
      obtain rfl := Option.some.inj ho
      clear ho
      simp only [actsD, List.getD_cons_zero, List.getD_cons_succ, List.foldl_cons, List.foldl_nil, Act.put, List.setIfInBounds_toArray, List.set_cons_succ, List.set_cons_zero]
      obtain ⟨_, _, _, h21⟩ := hp 21 (by simp)
      simp only [PPy31] at h21
      obtain ⟨_, _, _, h23⟩ := hp 23 (by simp)
      simp only [PPy31] at h23
      obtain ⟨_, _, _, h25⟩ := hp 25 (by simp)
      simp only [PPy31] at h25
      have hsz := hg.size
      have hgB : Below wc.heap.size wc w' := hg.below (fun k hk => ⟨hk, fun o => by rintro ⟨j, _, _, _, hw⟩; exact False.elim hw⟩)
      rw [h21]
      obtain ⟨a1, c1, e1, r1⟩ := h23
      obtain ⟨a2, c2, e2, r2⟩ := h25
      rw [e1, e2]
      go_wp2_with fail
      refine (same_dirty dl m2 HM2.out HM6.out _ _ _ r1 r2).mono ?_
      rintro e wh ⟨rfl, hbl⟩
      go_wp2
      exact ⟨_, rfl, GrowC.of_grow ⟨hbl.os, hbl.tape, hbl.output, hbl.size, hbl.block⟩, rfl⟩
    | 27, _ =>
      obtain rfl := Option.some.inj ho
      clear ho
      simp only [actsD, List.getD_cons_zero, List.getD_cons_succ, List.foldl_cons, List.foldl_nil, Act.put, List.setIfInBounds_toArray, List.set_cons_succ, List.set_cons_zero]
      obtain ⟨_, _, _, h21⟩ := hp 21 (by simp)
      simp only [PPy31] at h21
      obtain ⟨_, _, _, h26⟩ := hp 26 (by simp)
      simp only [PPy31] at h26
      have hsz := hg.size
      have hgB : Below wc.heap.size wc w' := hg.below (fun k hk => ⟨hk, fun o => by rintro ⟨j, _, _, _, hw⟩; exact False.elim hw⟩)
      rw [h21, h26]
      go_wp2
      exact ⟨_, rfl, GrowC.refl _, rfl⟩
    | 28, _ =>
      obtain rfl := Option.some.inj ho
      clear ho
      simp only [actsD, List.getD_cons_zero, List.getD_cons_succ, List.foldl_cons, List.foldl_nil, Act.put, List.setIfInBounds_toArray, List.set_cons_succ, List.set_cons_zero]
      obtain ⟨_, _, _, h21⟩ := hp 21 (by simp)
      simp only [PPy31] at h21
      obtain ⟨_, _, _, h27⟩ := hp 27 (by simp)
      simp only [PPy31] at h27
      have hsz := hg.size
      have hgB : Below wc.heap.size wc w' := hg.below (fun k hk => ⟨hk, fun o => by rintro ⟨j, _, _, _, hw⟩; exact False.elim hw⟩)
      rw [h21, h27]
      go_wp2
      exact ⟨_, rfl, GrowC.refl _, rfl⟩
    | (q + 29), hq => exact absurd hq (by omega)
  intro vS lo hi w5 hg hp hd
  obtain ⟨_, _, _, h0⟩ := hp 0 (by decide)
  obtain ⟨_, _, _, h1⟩ := hp 1 (by decide)
  obtain ⟨_, _, _, h2⟩ := hp 2 (by decide)
  obtain ⟨_, _, _, h3⟩ := hp 3 (by decide)
  obtain ⟨_, _, _, h4⟩ := hp 4 (by decide)
  obtain ⟨_, _, _, h5⟩ := hp 5 (by decide)
  obtain ⟨_, _, _, h6⟩ := hp 6 (by decide)
  obtain ⟨_, _, _, h7⟩ := hp 7 (by decide)
  obtain ⟨_, _, _, h8⟩ := hp 8 (by decide)
  obtain ⟨_, _, _, h9⟩ := hp 9 (by decide)
  obtain ⟨_, _, _, h10⟩ := hp 10 (by decide)
  obtain ⟨_, _, _, h11⟩ := hp 11 (by decide)
  obtain ⟨_, _, _, h12⟩ := hp 12 (by decide)
  obtain ⟨_, _, _, h13⟩ := hp 13 (by decide)
  obtain ⟨_, _, _, h14⟩ := hp 14 (by decide)
  obtain ⟨_, _, _, h15⟩ := hp 15 (by decide)
  obtain ⟨_, _, _, h16⟩ := hp 16 (by decide)
  obtain ⟨_, _, _, h17⟩ := hp 17 (by decide)
  obtain ⟨_, _, _, h18⟩ := hp 18 (by decide)
  obtain ⟨_, _, _, h19⟩ := hp 19 (by decide)
  obtain ⟨_, _, _, h20⟩ := hp 20 (by decide)
  obtain ⟨_, _, _, h21⟩ := hp 21 (by decide)
  obtain ⟨_, _, _, h22⟩ := hp 22 (by decide)
  obtain ⟨_, _, _, h23⟩ := hp 23 (by decide)
  obtain ⟨_, _, _, h24⟩ := hp 24 (by decide)
  obtain ⟨_, _, _, h25⟩ := hp 25 (by decide)
  obtain ⟨_, _, _, h26⟩ := hp 26 (by decide)
  obtain ⟨_, _, _, h27⟩ := hp 27 (by decide)
  obtain ⟨_, _, _, h28⟩ := hp 28 (by decide)
  simp only [PPy31] at h0 h1 h2 h3 h4 h5 h6 h7 h8 h9 h10 h11 h12 h13 h14 h15 h16 h17 h18 h19 h20 h21 h22 h23 h24 h25 h26 h27 h28
  clear hp hd
  have hsz := hg.size
  replace br := br.grow hg (by intro i _; rintro ⟨j, _, hw⟩; exact False.elim hw)
  replace bt := bt.grow hg (by intro i _; rintro ⟨j, _, hw⟩; exact False.elim hw)
  replace hB := hB.trans (hg.below (fun k hk => ⟨by omega, fun o => by rintro ⟨j, _, hw⟩; exact False.elim hw⟩))
  have hr : List.range 29 = [0, 1, 2, 3, 4, 5, 6, 7, 8, 9, 10, 11, 12, 13, 14, 15, 16, 17, 18, 19, 20, 21, 22, 23, 24, 25, 26, 27, 28] := rfl
  rw [hr]
  clear hr
  simp only [List.drop_succ_cons, List.drop_zero, List.drop_nil, actsD, List.getD_cons_zero, List.getD_cons_succ, List.foldl_cons, List.foldl_nil, Act.put, List.setIfInBounds_toArray, List.set_cons_succ, List.set_cons_zero, h0, h1, h2, h3, h4, h5, h6, h7, h8, h9, h10, h11, h12, h13, h14, h15, h16, h17, h18, h19, h20, h21, h22, h24, h26, h27, h28]
  clear h0 h1 h2 h3 h4 h5 h6 h7 h8 h9 h10 h11 h12 h13 h14 h15 h16 h17 h18 h19 h20 h21 h22 h24 h26 h27 h28
  have HA5 := Lib.hid (HA.out.below hB)
  clear hg hsz br bt hB hne1 hne2 HA
  go_wp2_with fail
  go_loopw [26] (fun z wq => ∃ qi : Int, -1 ≤ qi ∧ qi ≤ 7 ∧ z = .int .i64 qi ∧ QAt w g f dd nn tb bb r bad (k + 1) p' fo' S1' S2' wq) (fun z _ => (7 - intOf z).toNat)
  case atStart => exact ⟨-1, by omega, by omega, rfl, HA5.out⟩
  case round =>
    obtain ⟨qi, hq1, hq2, rfl, hat⟩ := hrel
    have HA := Lib.hid hat
    clear hat
    by_cases hq7 : qi < 7
    case neg =>
      have hqb : decide (qi < 7) = false := by simpa using hq7
      go_wp2_with fail
      refine HQQ.out _ _ _ _ _ _ _ _ _ _ _ _ _ _ _ _ _ _ _ _ _ _ _ _ _ _ _ _ _ _ _ _ _ _ _ _ _ _ _ _ _ _ _ _ _ _ _ _ _ _ _ _ _ _ _ _ _ _ _ _ _ _ _ _ _ _ _ _ _ _ _ _ _ _ _ _ _ _ _ _ _ _ _ _ _ _ _ _ _ _ _ _ _ _ _ _ _ _ _ _ _ _ _ _ _ _ _ _ _ _ _ _ _ _ _ _ _ _ _ _ _ _ _ _ _ _ _ _ _ _ _ _ _ _ _ _ _ _ _ _ _ _ _ _ _ _ _ _ _ _ _ _ _ _ _ _ _ _ _ _ _ _ _ _ _ _ _ _ _ _ _ _ _ _ _ _ _ _ HA.out
    have hqb : decide (qi < 7) = true := by simpa using hq7
    obtain ⟨db2, cd2, fb2, cf2, ay2, cy2, u1, u2, ufb, ucf, _⟩ := HA.out.rv.view
    have hr1 := u1.cell 1 _ rfl
    have rlt := u1.lt
    have hFl : p'.F.length = nn := HA.out.pv.ok.len
    have HFL := Lib.hid hFl
    have HU2 := Lib.hid u2
    clear u1 u2 hFl
    go_wp2_with fail
    go_loopw [27, 28] (fun zb zi wq => ∃ j : Nat, j ≤ nn ∧ zb = .bool ((p'.F.take j).any (isP qi)) ∧ zi = .int .i64 j ∧ QAt w g f dd nn tb bb r bad (k + 1) p' fo' S1' S2' wq ∧ wq = wr) (fun _ zi _ => nn - (intOf zi).toNat)
    case atStart => exact ⟨0, Nat.zero_le _, rfl, rfl, HA.out, rfl⟩
    case round =>
      obtain ⟨j, hj, rfl, rfl, hat, rfl⟩ := hrel
      clear hat
      by_cases hjn : j < nn
      case neg =>
        have hjb : decide ((j : Int) < (nn : Int)) = false := by simp; omega
        have hjb2 : decide (j < nn) = false := by simp; omega
        obtain ⟨hb, hhb⟩ : ∃ b, (findL p'.F qi).isSome = b := ⟨_, rfl⟩
        have hany : (p'.F.take j).any (isP qi) = hb := by
          rw [← hhb, ← any_all, HFL.out]
          congr 2
          omega
        have hcall := has_pv HF.out HA.out.pv qi
        rw [hhb] at hcall
        rw [hany]
        have HC := Lib.hid hcall
        clear hcall hany hhb
        go_wp2_with fail
        refine HC.out.mono ?_
        rintro e wh ⟨rfl, hpv, hbl⟩
        have HAB := Lib.hid (HA.out.below hbl)
        clear hpv hbl hr1 rlt ufb ucf
        cases hb with
        | true =>
          go_wp2_with fail
          go_roundw
          · exact ⟨qi + 1, by omega, by omega, by go_num, HAB.out⟩
          · simp [intOf]; omega
        | false =>
          go_wp2_with fail
          go_roundw
          · exact ⟨qi + 1, by omega, by omega, by go_num, HAB.out⟩
          · simp [intOf]; omega
      have hjb : decide ((j : Int) < (nn : Int)) = true := by simp; omega
      have hjb2 : decide (j < nn) = true := by simp; omega
      obtain ⟨xj, hxj⟩ : ∃ x, p'.F[j]? = some x := ⟨_, List.getElem?_eq_getElem (by rw [HFL.out]; exact hjn)⟩
      have hstep := any_take p'.F qi hxj
      have cx := HU2.out j xj hxj
      have hj0 : decide ((j : Int) < 0) = false := by simp
      obtain ⟨xp, hxp⟩ : ∃ x, xj.page = x := ⟨_, rfl⟩
      rw [hxp] at cx
      cases hb : (p'.F.take j).any (isP qi) with
      | true =>
        rw [hb, Bool.true_or] at hstep
        have HST := Lib.hid hstep
        clear hstep hb hxj hxp
        go_wp2_with fail
        go_roundw
        · exact ⟨j + 1, by omega, by rw [HST.out], by go_num, HA.out, trivial⟩
        · simp [intOf]; omega
      | false =>
        rw [hb, Bool.false_or] at hstep
        by_cases h0 : 0 ≤ qi
        case neg =>
          have h0b : decide (qi ≥ 0) = false := by simpa using h0
          have h0c : decide (0 ≤ qi) = false := by simpa using h0
          have HST : Hid ((p'.F.take (j + 1)).any (isP qi) = false) := Lib.hid (by rw [hstep, isP]; split <;> simp [h0])
          clear hstep hb hxj hxp h0
          go_wp2_with fail
          go_roundw
          · exact ⟨j + 1, by omega, by rw [HST.out], by go_num, HA.out, trivial⟩
          · simp [intOf]; omega
        have h0b : decide (qi ≥ 0) = true := by simpa using h0
        have h0c : decide (0 ≤ qi) = true := by simpa using h0
        by_cases hpq : xp = qi
        case pos =>
          have hpb : (xp == qi) = true := by simpa using hpq
          have HST : Hid ((p'.F.take (j + 1)).any (isP qi) = true) := Lib.hid (by rw [hstep, isP, if_pos (by rw [hxp]; exact hpq)]; simpa using h0)
          clear hstep hb hxj hxp h0 hpq
          go_wp2_with fail
          go_roundw
          · exact ⟨j + 1, by omega, by rw [HST.out], by go_num, HA.out, trivial⟩
          · simp [intOf]; omega
        case neg =>
          have hpb : (xp == qi) = false := by simpa using hpq
          have HST : Hid ((p'.F.take (j + 1)).any (isP qi) = false) := Lib.hid (by rw [hstep, isP, if_neg (by rw [hxp]; exact hpq)])
          clear hstep hb hxj hxp h0 hpq
          go_wp2_with fail
          go_roundw
          · exact ⟨j + 1, by omega, by rw [HST.out], by go_num, HA.out, trivial⟩
          · simp [intOf]; omega

end Go.Proofs.Ytdnjjdpenfhpeaa
