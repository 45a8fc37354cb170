/-
  Blocks, Stack and Cut: the program's answers and the references', as raw data.
-/
import Derived.Test.YtbhenelehhiakaaGreatSum37
import Derived.Test.YtbhenelehhiakaaGreatSum38
import Derived.Test.YtbhenelehhiakaaGreatSum29
import Derived.Test.YtbhenelehhiakaaGreatSum31
set_option linter.unusedVariables false
set_option linter.unusedSimpArgs false
namespace Go.Proofs.YtbhenelehhiakaaGreat
open Go.RowKit

/-- the normal form's denominator and numerators -/
def nrmD (qss : List (List Rat)) : Nat := comDen qss.flatten
def nrmZ (qss : List (List Rat)) : List (List Int) := qss.map fun qs => qs.map (comNum (nrmD qss))
def rawM (zss : List (List Int)) : List (List It) := zss.map fun zs => zs.map rawI

theorem ratv_den_dvd (z d : Int) (hd : d ≠ 0) : (ratv z d).den ∣ d.natAbs := by
  have key : ∀ z d : Int, 0 < d → (ratv z d).den ∣ d.natAbs := fun z d hd => by
    have h1 := ratv_den (z := z) hd
    have h2 : ((Int.gcd z d : Nat) : Int) ∣ d := Int.gcd_dvd_right ..
    obtain ⟨t, ht⟩ := h2
    have hg : ((Int.gcd z d : Nat) : Int) ≠ 0 := fun e => by rw [e, Int.zero_mul] at ht; omega
    have h3 : d / ((Int.gcd z d : Nat) : Int) = t := by
      conv => lhs; lhs; rw [ht]
      exact Int.mul_ediv_cancel_left _ hg
    rw [h3] at h1
    have h4 : (((ratv z d).den : Nat) : Int) ∣ d := ⟨((Int.gcd z d : Nat) : Int), by rw [h1, Int.mul_comm]; exact ht⟩
    have h5 : (((ratv z d).den : Nat) : Int) ∣ ((d.natAbs : Nat) : Int) := by rw [Int.natAbs_of_nonneg (by omega)]; exact h4
    exact Int.natCast_dvd_natCast.1 h5
  by_cases h : 0 < d
  · exact key z d h
  · have := key (-z) (-d) (by omega)
    rwa [ratv_neg, Int.natAbs_neg] at this
theorem nrmD_dvd (D : Int) (hD : D ≠ 0) (B : List (List Int)) : nrmD (fracs D B) ∣ D.natAbs := by
  refine comDen_dvd _ _ fun q hq => ?_
  obtain ⟨qs, hqs, hq⟩ := List.mem_flatten.1 hq
  obtain ⟨zs, _, rfl⟩ := List.mem_map.1 hqs
  obtain ⟨z, _, rfl⟩ := List.mem_map.1 hq
  exact ratv_den_dvd z D hD
theorem nrmD_nl (D : Int) (hD : D ≠ 0) (B : List (List Int)) (K : Nat) (h : nl D.natAbs ≤ K) : nl (nrmD (fracs D B)) ≤ K :=
  Nat.le_trans (nl_mono (Nat.le_of_dvd (Int.natAbs_pos.2 hD) (nrmD_dvd D hD B))) h
theorem made_nrm (D : Int) (hD : D ≠ 0) (B : List (List Int)) (hev : ∀ zs ∈ B, zs.length = colsOf B) : madeDen D B = ((nrmD (fracs D B) : Nat) : Int) ∧ madeRows D B = nrmZ (fracs D B) := by
  obtain ⟨h1, h2⟩ := made_normal D hD B hev
  exact ⟨h1.symm, h2.symm⟩

theorem rawIntsB {B : Nat} {w : World} {a : Option Addr} {n c : Nat} {zs : List Int} (h : Sl rIntN B w a n c zs) : Sl rInt B w a n c (zs.map rawI) :=
  h.mapw (s := rInt) rawI (Nat.le_refl _) rfl fun _ _ ⟨a, n, c, e, hs⟩ => ⟨[.bool _], [.slice a n c], e, rfl, a, n, c, rfl, hs⟩
theorem rawRowsB {B : Nat} {w : World} {a : Option Addr} {n c : Nat} {zss : List (List Int)} (h : Sl rRowsN B w a n c zss) : Sl rInts B w a n c (zss.map fun zs => zs.map rawI) :=
  h.mapw (s := rInts) (fun zs => zs.map rawI) (Nat.le_refl _) rfl fun _ _ ⟨a, n, c, e, hs⟩ => ⟨a, n, c, e, rawIntsB hs⟩
/-- an answer of the program: an error and nothing, or a matrix in normal form -/
def RAns (w : World) (s : Int) (qss : List (List Rat)) (e : Ending) (w' : World) : Prop := ∃ b a n c a2 n2 c2, e = .returned (.tuple #[.agg #[.bool b, .slice a n c, .slice a2 n2 c2], .int .i64 s]) ∧ Ext w w' ∧ (s ≠ 0 → b = false ∧ a = none ∧ n = 0 ∧ c = 0 ∧ a2 = none ∧ n2 = 0 ∧ c2 = 0) ∧ (s = 0 → b = false ∧ NatS w.heap.size w' a n c (limbs (nrmD qss)) ∧ Sl rInts w.heap.size w' a2 n2 c2 (rawM (nrmZ qss)))
theorem RMatErr.ans {w w' : World} {s : Int} {e : Ending} (h : RMatErr w s e w') (hs : s ≠ 0) (qss : List (List Rat)) : RAns w s qss e w' := by
  obtain ⟨he, hE⟩ := h
  exact ⟨false, none, 0, 0, none, 0, 0, he, hE, fun _ => ⟨rfl, rfl, rfl, rfl, rfl, rfl, rfl⟩, fun h => absurd h hs⟩
theorem RMatOk.ans {w w' : World} {D : Int} {B : List (List Int)} {e : Ending} (h : RMatOk w (madeDen D B) (madeRows D B) e w') (hD : D ≠ 0) (hev : ∀ zs ∈ B, zs.length = colsOf B) (qss : List (List Rat)) (hq : fracs D B = qss) : RAns w 0 qss e w' := by
  obtain ⟨h1, h2⟩ := made_nrm D hD B hev
  rw [h1, h2, hq] at h
  obtain ⟨a, n, c, a2, n2, c2, he, g1, g2, g3⟩ := h
  have hb : decide (((nrmD qss : Nat) : Int) < 0) = false := by simp
  rw [hb] at he
  exact ⟨false, a, n, c, a2, n2, c2, he, g3, fun h => absurd rfl h, fun _ => ⟨rfl, g1, rawRowsB g2⟩⟩
/-- an answer of the reference -/
def RRef (w : World) (qss : List (List Rat)) (e : Ending) (w' : World) : Prop := ∃ a n c a2 n2 c2, e = .returned (.agg #[.bool false, .slice a n c, .slice a2 n2 c2]) ∧ NatS 0 w' a n c (limbs (nrmD qss)) ∧ Sl rInts 0 w' a2 n2 c2 (rawM (nrmZ qss)) ∧ Ext w w'
theorem RFrom.ref {w w' : World} {qss : List (List Rat)} {e : Ending} (h : RFrom w (nrmD qss) (qss.map fun qs => qs.map (comNum (nrmD qss))) e w') : RRef w qss e w' := h.raw

theorem colsOf_all {α : Type} (B : List (List α)) (m : Nat) (h : ∀ xs ∈ B, xs.length = m) : ∀ xs ∈ B, xs.length = colsOf B := fun xs hx => by
  cases B with
  | nil => simp at hx
  | cons y B => rw [h xs hx]; exact (h y (List.mem_cons_self ..)).symm

end Go.Proofs.YtbhenelehhiakaaGreat
/-
  Cut's answers, the references of Stack and Cut, and 'both'.
-/
namespace Go.Proofs.YtbhenelehhiakaaGreat
open Go.RowKit

/-! ### both -/
theorem checksE_two (x y : Int × List (List Int)) : checksE [x, y] = if checkE x.1 x.2 ≠ 0 then checkE x.1 x.2 else checkE y.1 y.2 := by
  unfold checksE
  by_cases h : checkE x.1 x.2 = 0
  · rw [if_pos h, if_neg (by simpa using h)]
    unfold checksE
    by_cases h2 : checkE y.1 y.2 = 0
    · rw [if_pos h2, h2]; rfl
    · rw [if_neg h2]
  · rw [if_neg h, if_pos h]

set_option maxHeartbeats 4000000 in
theorem both_any (K : Nat) (hK : K ≤ 8796093022208) (w : World) (b : Bool) (a a2 : Option Addr) (n c n2 c2 : Nat) (x : Int × List (List Int)) (h : MatS K w b a n c a2 n2 c2 x.1 x.2) (b' : Bool) (a' a2' : Option Addr) (n' c' n2' c2' : Nat) (y : Int × List (List Int)) (h' : MatS K w b' a' n' c' a2' n2' c2' y.1 y.2) (s : Int) (hs : Hid (checksE [x, y] = s)) :
    Calls Tryz.prog 40 #[.agg #[.bool b, .slice a n c, .slice a2 n2 c2], .agg #[.bool b', .slice a' n' c', .slice a2' n2' c2']] w fun e w' => e = .returned (.int .i64 s) ∧ Ext w w' := by
  have hs2 := hs.out
  rw [checksE_two] at hs2
  by_cases h0 : checkE x.1 x.2 = 0
  · rw [if_neg (by simpa using h0)] at hs2
    have HS := Lib.hid hs2
    have H0 := Lib.hid h0
    clear hs2 h0
    go_enter Tryz.func40, Tryz.ntmps40
    go_wp2_with fail
    have p0 := Blk.new w 28 #[.bool b, .slice a n c, .slice a2 n2 c2]
    have p1 := Blk.new (w.alloc (Obj.cells #[.bool b, .slice a n c, .slice a2 n2 c2] 28)) 28 #[.bool b', .slice a' n' c', .slice a2' n2' c2']
    replace p0 := p0.ext ((Below.refl _ _).alloc (Nat.le_refl _) (Obj.cells #[.bool b', .slice a' n' c', .slice a2' n2' c2'] 28))
    have hEW : Ext w ((w.alloc (Obj.cells #[.bool b, .slice a n c, .slice a2 n2 c2] 28)).alloc (Obj.cells #[.bool b', .slice a' n' c', .slice a2' n2' c2'] 28)) := (((Below.refl _ w).alloc (by simp) _).alloc (by simp) _)
    generalize hgW : (w.alloc (Obj.cells #[.bool b, .slice a n c, .slice a2 n2 c2] 28)).alloc (Obj.cells #[.bool b', .slice a' n' c', .slice a2' n2' c2'] 28) = W at *
    clear hgW
    simp only [World.size_alloc] at p1
    have p0_ne_p1 : ¬ w.heap.size = w.heap.size + 1 := by omega
    have p1_ne_p0 : ¬ w.heap.size + 1 = w.heap.size := by omega
    replace p0_0 := p0.cell (i := 0) rfl
    replace p0_1 := p0.cell (i := 1) rfl
    replace p0_2 := p0.cell (i := 2) rfl
    replace p1_0 := p1.cell (i := 0) rfl
    replace p1_1 := p1.cell (i := 1) rfl
    replace p1_2 := p1.cell (i := 2) rfl
    refine (r11Check_any K hK W b a a2 n c n2 c2 x.1 x.2 (h.ext hEW) 0 H0).mono ?_
    rintro e w1 ⟨rfl, hE1⟩
    replace p1 := p1.ext hE1; replace p1_0 := p1.cell (i := 0) rfl; replace p1_1 := p1.cell (i := 1) rfl; replace p1_2 := p1.cell (i := 2) rfl
    have hE0 := Ext.trans hEW hE1
    have h1 := h'.ext hE0
    clear h h' hEW hE1
    go_wp2_with fail
    refine (r11Check_any K hK w1 b' a' a2' n' c' n2' c2' y.1 y.2 h1 s HS).mono ?_
    rintro e w2 ⟨rfl, hE2⟩
    have HE := Lib.hid (Ext.trans hE0 hE2)
    clear h1 hE0 hE2
    go_wp2_with fail
    go_ret
    exact ⟨rfl, HE.out⟩
  · rw [if_pos h0] at hs2
    have hs0 : (s != 0) = true := by rw [← hs2]; simpa using h0
    have HS := Lib.hid hs2
    clear hs2 h0
    go_enter Tryz.func40, Tryz.ntmps40
    go_wp2_with fail
    have p0 := Blk.new w 28 #[.bool b, .slice a n c, .slice a2 n2 c2]
    have p1 := Blk.new (w.alloc (Obj.cells #[.bool b, .slice a n c, .slice a2 n2 c2] 28)) 28 #[.bool b', .slice a' n' c', .slice a2' n2' c2']
    replace p0 := p0.ext ((Below.refl _ _).alloc (Nat.le_refl _) (Obj.cells #[.bool b', .slice a' n' c', .slice a2' n2' c2'] 28))
    have hEW : Ext w ((w.alloc (Obj.cells #[.bool b, .slice a n c, .slice a2 n2 c2] 28)).alloc (Obj.cells #[.bool b', .slice a' n' c', .slice a2' n2' c2'] 28)) := (((Below.refl _ w).alloc (by simp) _).alloc (by simp) _)
    generalize hgW : (w.alloc (Obj.cells #[.bool b, .slice a n c, .slice a2 n2 c2] 28)).alloc (Obj.cells #[.bool b', .slice a' n' c', .slice a2' n2' c2'] 28) = W at *
    clear hgW
    simp only [World.size_alloc] at p1
    have p0_ne_p1 : ¬ w.heap.size = w.heap.size + 1 := by omega
    have p1_ne_p0 : ¬ w.heap.size + 1 = w.heap.size := by omega
    replace p0_0 := p0.cell (i := 0) rfl
    replace p0_1 := p0.cell (i := 1) rfl
    replace p0_2 := p0.cell (i := 2) rfl
    replace p1_0 := p1.cell (i := 0) rfl
    replace p1_1 := p1.cell (i := 1) rfl
    replace p1_2 := p1.cell (i := 2) rfl
    refine (r11Check_any K hK W b a a2 n c n2 c2 x.1 x.2 (h.ext hEW) s HS).mono ?_
    rintro e w1 ⟨rfl, hE1⟩
    have HE := Lib.hid (Ext.trans hEW hE1)
    clear h h' hEW hE1
    go_wp2_with fail
    go_ret
    exact ⟨rfl, HE.out⟩
end Go.Proofs.YtbhenelehhiakaaGreat
