/-
  The references' matrices, part 1: fill.
-/
import Derived.Test.YtbhenelehhiakaaGreatProd25
import Derived.Test.YtbhenelehhiakaaGreatProd24
set_option linter.unusedVariables false
set_option linter.unusedSimpArgs false
namespace Go.Proofs.YtbhenelehhiakaaGreat
open Go.RowKit

theorem ratK_of {K B : Nat} {w : World} {a a2 : Option Addr} {n c n2 c2 : Nat} {q : Rat} (h : NatS B w a n c (limbs q.num.natAbs)) (h2 : NatS B w a2 n2 c2 (limbs q.den)) (hK : nl q.num.natAbs ≤ K) (hK2 : nl q.den ≤ K) (b : Bool) (hb : decide (q.num < 0) = b) : (rRatK K).ok B w [.bool b, .slice a n c, .bool false, .slice a2 n2 c2] q := by
  subst hb
  refine ⟨_, a, n, c, _, a2, n2, c2, rfl, _, _, h, h2, ?_, ?_, ?_, ?_⟩
  · rw [ival_limbs]; simp; have := q.den_pos; omega
  · rw [ival_norm, ival_limbs]; exact ratv_self q
  · have := h.len; rw [length_limbs] at this; omega
  · have := h2.len; rw [length_limbs] at this; omega

theorem ext_set4' {w w' : World} {b : Nat} (h : Ext w w') (o : Nat) (v0 v1 v2 v3 : Value) (hb : w.heap.size ≤ b := by first | exact Nat.le_refl _ | omega) : Ext w ((((w'.setCell ⟨b, o, none⟩ v0).setCell ⟨b, o + 1, none⟩ v1).setCell ⟨b, o + 2, none⟩ v2).setCell ⟨b, o + 3, none⟩ v3) :=
  Below.setCell (Below.setCell (Below.setCell (Below.setCell h (p := ⟨b, o, none⟩) hb _) (p := ⟨b, o + 1, none⟩) hb _) (p := ⟨b, o + 2, none⟩) hb _) (p := ⟨b, o + 3, none⟩) hb _
/-- where a list of its own lies -/
theorem own_head {w : World} {base e s n k c : Nat} {b o : Nat} {xs : List Value} (h : w.ownsRow base e s (.slice (some ⟨b, o, none⟩) k c) n xs) : (Value.slice (some ⟨b, o, none⟩) k c).ownBlock = some b := by
  rcases h.2 with ⟨h0, _⟩ | ⟨g, cap, cur, h1, _⟩
  · cases h0
  · cases h1; simp [Value.ownBlock]

/-- a grid of noughts, each row in a block of its own -/
def RFill (r c : Nat) (w : World) (e : Ending) (w' : World) : Prop := ∃ a c2 L, e = .returned (.slice a r c2) ∧ MG 1 w.heap.size w' a r c2 c L ∧ L.map Prod.snd = List.replicate r (List.replicate c (0 : Rat)) ∧ Ext w w'

structure FillSt (w : World) (c i : Nat) (vo : Value) (wr : World) : Prop where
  ex : ∃ L css, Grp (rRowG 1 c) w.heap.size 68 wr vo i L css ∧ L.map Prod.snd = List.replicate i (List.replicate c (0 : Rat)) ∧ (L.map Prod.fst).Pairwise (· ≠ ·) ∧ ∀ x ∈ L, x.1 < wr.heap.size ∧ vo.ownBlock ≠ some x.1

set_option maxRecDepth 100000 in
set_option maxHeartbeats 8000000 in
theorem fill_any (r c : Nat) (hr : r ≤ 1099511627776) (hc : c ≤ 1099511627776) (w : World) :
    Calls Tryz.prog 72 #[.int .i64 (r : Int), .int .i64 (c : Int)] w (RFill r c w) := by
  obtain ⟨cur, hcur, hmk⟩ := make_any under_rats info_rat c c (Nat.le_refl _) (by omega) (by omega)
  have hmk : ∀ w, (Instr.makeSlice 68 (.int .i64 (c : Int)) (.int .i64 (c : Int))).run Tryz.prog w = .ok (.slice (some ⟨w.heap.size, 0, none⟩) c c) (w.alloc (.cells cur 75)) := hmk
  have HCur := Lib.hid hcur
  clear hcur
  go_enter Tryz.func72, Tryz.ntmps72
  go_wp2_with fail
  go_loopg [5, 6] r (fun k vo vi wr => ∃ (i : Nat), i ≤ r ∧ k = r - i ∧ vi = .int .i64 (i : Int) ∧ Hid (FillSt w c i vo wr) ∧ Hid (Ext w wr))
  case atStart => exact ⟨0, Nat.zero_le _, by omega, rfl, Lib.hid ⟨[], [], Grp.nil _ _ _ _, rfl, List.Pairwise.nil, fun x hx => absurd hx (by simp)⟩, Lib.hid (Ext.refl _)⟩
  case round =>
    obtain ⟨i, hi, hk, rfl, HF, HE⟩ := hrel
    by_cases hir : i < r
    · obtain ⟨wo, rfl⟩ : ∃ wo : World, wo = wr := ⟨_, rfl⟩
      have hEA : Ext wo (wo.alloc (Obj.cells cur 75)) := (Below.refl _ _).alloc (Nat.le_refl _) _
      have HG0 : Hid (Grp (rRatK 1) wo.heap.size 75 (wo.alloc (Obj.cells cur 75)) (.slice (some ⟨wo.heap.size, 0, none⟩) 0 c) 0 [] []) := Lib.hid ⟨rfl, rfl, World.ownsRow_made wo cur c (Nat.le_refl _) (by unfold maxLen; omega) HCur.out, fun k hk => absurd hk (by simp)⟩
      go_wp2_with fail
      go_loopg [18] c (fun k vi w2 => ∃ (j : Nat), j ≤ c ∧ k = c - j ∧ vi = .int .i64 (j : Int) ∧ Hid (∃ css, Grp (rRatK 1) wo.heap.size 75 w2 (.slice (some ⟨wo.heap.size, 0, none⟩) j c) j (List.replicate j (0 : Rat)) css) ∧ Hid (Ext wo w2))
      case atStart => exact ⟨0, Nat.zero_le _, by omega, rfl, Lib.hid ⟨[], HG0.out⟩, Lib.hid hEA⟩
      case round =>
        obtain ⟨j, hj, hk2, rfl, HGj, HEj⟩ := hrel
        by_cases hjc : j < c
        · obtain ⟨css, hGj⟩ := HGj.out
          have hgl := hGj.cell.1
          have hjc' : (j : Int) < (c : Int) := by omega
          go_wp2_with fail
          refine (r5Of_any 0 wr (by omega) (by omega)).mono ?_
          rintro e w5 ⟨a7, n7, c7, a8, n8, c8, rfl, h7, h8, hE5⟩
          rw [show decide (((0 : Int) : Rat).num < 0) = false from rfl]
          have hG5 := hGj.keep hE5.size (fun b _ h2 => hE5.block b h2)
          obtain ⟨hg1, hg2, hg3⟩ := hG5.cell
          have q0 := hg3 (j * 4) (show j * 4 < c * 4 by omega)
          have q1 := hg3 (j * 4 + 1) (show j * 4 + 1 < c * 4 by omega)
          have q2 := hg3 (j * 4 + 2) (show j * 4 + 2 < c * 4 by omega)
          have q3 := hg3 (j * 4 + 3) (show j * 4 + 3 < c * 4 by omega)
          obtain ⟨⟨u0, s0⟩, f0⟩ := q0
          obtain ⟨⟨u1, s1⟩, f1⟩ := q1
          obtain ⟨⟨u2, s2⟩, f2⟩ := q2
          obtain ⟨⟨u3, s3⟩, f3⟩ := q3
          have HP := Lib.hid (hG5.put hjc (x := (0 : Rat)) (cs := [.bool false, .slice a7 n7 c7, .bool false, .slice a8 n8 c8]) (Bx := wr.heap.size) (ratK_of (q := (0 : Rat)) (K := 1) h7 h8 (by decide) (by decide) false rfl) HEj.out.size hgl)
          have HEP := Lib.hid (Ext.trans HEj.out hE5)
          clear hG5 hg3 h7 h8 hE5 hGj
          go_wp2_with fail
          go_roundg (c - (j + 1))
          case measure => omega
          case rel =>
            refine ⟨j + 1, by omega, rfl, by go_num, Lib.hid ⟨css ++ [[.bool false, .slice a7 n7 c7, .bool false, .slice a8 n8 c8]], ?_⟩, Lib.hid (ext_set4' HEP.out (j * 4) _ _ _ _)⟩
            rw [List.replicate_succ']
            exact HP.out
        · obtain rfl : j = c := by omega
          obtain ⟨css, hGj⟩ := HGj.out
          obtain ⟨ar, cr, hv, hsr⟩ := hGj.sl
          cases hv
          have hgl := hGj.cell.1
          have hEB : Ext wr (wr.alloc (Obj.cells #[.slice (some ⟨wo.heap.size, 0, none⟩) j j] 68)) := (Below.refl _ _).alloc (Nat.le_refl _) _
          have hEB2 := Ext.trans HEj.out hEB
          obtain ⟨L, css2, hGo, hL1, hL2, hL3⟩ := HF.out.ex
          have hlt11 := hGo.own.lt
          have hG11 := Lib.hid (hGo.keep hEB2.size (fun b _ h2 => hEB2.block b h2))
          have H11 := Lib.hid (hsr.ext (Nat.le_refl _) hEB)
          have HE11 := Lib.hid (Ext.trans HE.out hEB2)
          have HEs := HE.out.size
          have hszB := hEB2.size
          have hnews : ∀ (j' : Nat) (u : Value), [Value.slice (some ⟨wo.heap.size, 0, none⟩) j j][j']? = some u → (wr.alloc (Obj.cells #[.slice (some ⟨wo.heap.size, 0, none⟩) j j] 68)).cell? ((⟨wr.heap.size, 0, none⟩ : Addr).add j') = some u := fun j' u hu => by
            match j', hu with
            | 0, hu => cases hu; exact (Blk.new wr 68 #[.slice (some ⟨wo.heap.size, 0, none⟩) j j]).cell (i := 0) rfl
            | k + 1, hu => simp at hu
          obtain ⟨i0, hi0, hz0, hz1, hz2⟩ := info_parts info_rats
          have HL1 := Lib.hid hL1
          have HL2 := Lib.hid hL2
          have HL3 := Lib.hid hL3
          clear hGo hGj hEB2 hsr hEB hL1 hL2 hL3
          go_wp2_with (at_builtin; refine wpList_append_own_at _ rfl _ _ 53 rfl w.heap.size 68 i0 _ 1 24 under_ratss hi0 hz0 hz1 hz2 rfl (by decide) _ _ _ rfl hG11.out.own ⟨wr.heap.size, 0, none⟩ 1 1 [.slice (some ⟨wo.heap.size, 0, none⟩) j j] rfl rfl hnews (by simp [Value.oneCell']) (by unfold maxLen; omega) (by omega) (by exact HE11.out.size) ?_; intro v' w1 hown' hgrow _ hat)
          go_roundg (r - (i + 1))
          case measure => omega
          case rel =>
            refine ⟨i + 1, by omega, rfl, by go_num, Lib.hid ⟨L ++ [(wo.heap.size, List.replicate j 0)], css2 ++ [[.slice (some ⟨wo.heap.size, 0, none⟩) j j]], ?_, ?_, ?_, ?_⟩, Lib.hid (HE11.out.grown hgrow HE11.out.size (fun k e => (hlt11 k e).1))⟩
            · exact hG11.out.add hown' hgrow hat (x := (wo.heap.size, List.replicate j 0)) (Bx := wo.heap.size) ⟨rfl, H11.out⟩ HEs (fun k e => (hlt11 k e).2)
            · rw [List.map_append, HL1.out, List.replicate_succ']; rfl
            · rw [List.map_append, List.pairwise_append]
              refine ⟨HL2.out, List.pairwise_singleton _ _, fun x hx y hy => ?_⟩
              obtain ⟨z, hz, rfl⟩ := List.mem_map.1 hx
              have := (HL3.out z hz).1
              simp at hy
              omega
            · have hgs := hgrow.size
              rw [World.size_alloc] at hgs
              intro x hx
              rcases List.mem_append.1 hx with hx | hx
              · obtain ⟨h1, h2⟩ := HL3.out x hx
                refine ⟨by omega, ?_⟩
                rcases hat with hat | hat
                · rw [hat]; exact h2
                · rw [hat, World.size_alloc]; intro e; have e2 := Option.some.inj e; (try simp only at e2); omega
              · obtain rfl : x = (wo.heap.size, List.replicate j 0) := by simpa using hx
                refine ⟨by show wo.heap.size < _; omega, ?_⟩
                rcases hat with hat | hat
                · rw [hat]; intro e; have := (hlt11 _ e).2; exact absurd this (Nat.lt_irrefl _)
                · rw [hat, World.size_alloc]; intro e; have e2 := Option.some.inj e; (try simp only at e2); omega
    · obtain rfl : i = r := by omega
      obtain ⟨L, css, hG, hL1, hL2, hL3⟩ := HF.out.ex
      obtain ⟨aa, ca, rfl, hsl⟩ := hG.sl
      have HR : Hid (RFill i c w (.returned (.slice aa i ca)) wr) := Lib.hid ⟨aa, ca, L, rfl, ⟨hsl, fun b o e x hx => by
        subst e
        have := (hL3 x hx).2
        intro e; subst e
        exact this (own_head hG.own), hL2⟩, hL1, HE.out⟩
      clear hG hsl hL1 hL2 hL3
      go_wp2_with fail
      go_ret
      exact HR.out
end Go.Proofs.YtbhenelehhiakaaGreat
