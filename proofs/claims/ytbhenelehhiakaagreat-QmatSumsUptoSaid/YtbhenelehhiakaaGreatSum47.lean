/-
  A matrix as raw data and as numbers at once; the reference's Copy.
-/
import Derived.Test.YtbhenelehhiakaaGreatSum40
import Derived.Test.YtbhenelehhiakaaGreatSum39
import Derived.Test.YtbhenelehhiakaaGreatSum44
import Derived.Test.YtbhenelehhiakaaGreatSum45
import Derived.Test.YtbhenelehhiakaaGreatSum46
import Derived.Test.YtbhenelehhiakaaGreatSum35
import Derived.Test.YtbhenelehhiakaaGreatSum34
set_option linter.unusedVariables false
set_option linter.unusedSimpArgs false
namespace Go.Proofs.YtbhenelehhiakaaGreat
open Go.RowKit

theorem colsOf_le {zss : List (List Int)} {k : Nat} (h : ∀ zs ∈ zss, zs.length ≤ k) : colsOf zss ≤ k := by
  cases zss with
  | nil => exact Nat.zero_le _
  | cons z zs => exact h z (List.mem_cons_self ..)
def ivR (xss : List (List It)) : List (List Int) := xss.map fun xs => xs.map fun x => ival x.1 x.2
/-- raw data behind a reading: another reading with the same cells -/
theorem Sl.behind {α β : Type} {r : Rd α} {s : Rd β} {B B' : Nat} {w : World} {a : Option Addr} {n c : Nat} {xs : List α} (P : α → β → Prop) (h : Sl r B w a n c xs) (hB : B' ≤ B) (hs : r.size = s.size) (hok : ∀ cs x, x ∈ xs → r.ok B w cs x → ∃ y, s.ok B' w cs y ∧ P x y) : ∃ ys : List β, Sl s B' w a n c ys ∧ ys.length = xs.length ∧ ∀ i (h1 : i < xs.length) (h2 : i < ys.length), P xs[i] ys[i] := by
  obtain ⟨ys, hl, hys⟩ := exists_list (α := β) (n := xs.length) (fun i y => ∃ hi : i < xs.length, ∃ b o cs, a = some ⟨b, o, none⟩ ∧ s.ok B' w cs y ∧ P xs[i] y ∧ ∀ j (hj : j < cs.length), Cel B' w b (o + i * s.size + j) cs[j]) (fun i hi => by
    obtain ⟨b, o, cs, ha, hr, hc⟩ := h.at_ i hi
    obtain ⟨y, h1, h2⟩ := hok _ _ (List.getElem_mem _) hr
    refine ⟨y, hi, b, o, cs, ha, h1, h2, fun j hj => ?_⟩
    obtain ⟨g1, g2, g3⟩ := hc j hj
    rw [← hs]
    exact ⟨Nat.le_trans hB g1, g2, g3⟩)
  refine ⟨ys, ⟨by rw [hl]; exact h.len, h.cap, h.most, h.nil, fun i hi => ?_⟩, hl, fun i h1 h2 => ?_⟩
  · obtain ⟨_, b, o, cs, ha, h1, _, h3⟩ := hys i hi
    exact ⟨b, o, cs, ha, h1, h3⟩
  · obtain ⟨_, _, _, _, _, _, h3, _⟩ := hys i h2
    exact h3
/-- as mapw, for the members alone -/
theorem Sl.mapm {α β : Type} {r : Rd α} {s : Rd β} {B B' : Nat} {w : World} {a : Option Addr} {n c : Nat} {xs : List α} (f : α → β) (h : Sl r B w a n c xs) (hB : B' ≤ B) (hs : r.size = s.size) (hok : ∀ cs x, x ∈ xs → r.ok B w cs x → s.ok B' w cs (f x)) : Sl s B' w a n c (xs.map f) :=
  ⟨by rw [List.length_map]; exact h.len, h.cap, h.most, h.nil, fun i hi => by
    obtain ⟨b, o, cs, ha, hr, hc⟩ := h.at_ i (by simpa using hi)
    refine ⟨b, o, cs, ha, by rw [List.getElem_map]; exact hok _ _ (List.getElem_mem _) hr, fun j hj => ?_⟩
    obtain ⟨h1, h2, h3⟩ := hc j hj
    rw [← hs]
    exact ⟨Nat.le_trans hB h1, h2, h3⟩⟩

theorem Sl.rawK {K B : Nat} {w : World} {a : Option Addr} {n c : Nat} {zs : List Int} (h : Sl (rIntK K) B w a n c zs) : ∃ xs : List It, Sl rInt B w a n c xs ∧ (xs.map fun x => ival x.1 x.2) = zs ∧ ∀ x ∈ xs, x.2.length ≤ K := by
  obtain ⟨xs, h1, hl, hp⟩ := h.behind (s := rInt) (fun z x => ival x.1 x.2 = z ∧ x.2.length ≤ K) (Nat.le_refl _) rfl (fun cs z _ ⟨b, a, n, c, l, e, hs, hz, hn⟩ => ⟨(b, l), ⟨[.bool b], [.slice a n c], e, rfl, a, n, c, rfl, hs⟩, hz, by show l.length ≤ K; rw [hs.len]; exact hn⟩)
  refine ⟨xs, h1, List.ext_getElem (by simp [hl]) fun i g1 g2 => ?_, fun x hx => ?_⟩
  · rw [List.getElem_map]
    exact (hp i g2 (by omega)).1
  · obtain ⟨i, hi, rfl⟩ := List.getElem_of_mem hx
    exact (hp i (by omega) hi).2
theorem Sl.rawKs {K B : Nat} {w : World} {a : Option Addr} {n c : Nat} {zss : List (List Int)} (h : Sl (rIntK K).slice B w a n c zss) : ∃ xss : List (List It), Sl rInts B w a n c xss ∧ ivR xss = zss ∧ ∀ xs ∈ xss, ∀ x ∈ xs, x.2.length ≤ K := by
  obtain ⟨xss, h1, hl, hp⟩ := h.behind (s := rInts) (fun zs xs => (xs.map fun x => ival x.1 x.2) = zs ∧ ∀ x ∈ xs, x.2.length ≤ K) (Nat.le_refl _) rfl (fun cs zs _ ⟨a, n, c, e, hs⟩ => by
    obtain ⟨xs, g1, g2, g3⟩ := hs.rawK
    exact ⟨xs, ⟨a, n, c, e, g1⟩, g2, g3⟩)
  refine ⟨xss, h1, (show (xss.map fun xs => xs.map fun x => ival x.1 x.2) = zss from List.ext_getElem (by simp [hl]) fun i g1 g2 => ?_), fun x hx => ?_⟩
  · rw [List.getElem_map]
    exact (hp i g2 (by omega)).1
  · obtain ⟨i, hi, rfl⟩ := List.getElem_of_mem hx
    exact (hp i (by omega) hi).2
theorem Sl.ofRaw {K B : Nat} {w : World} {a : Option Addr} {n c : Nat} {xss : List (List It)} (h : Sl rInts B w a n c xss) (hK : ∀ xs ∈ xss, ∀ x ∈ xs, x.2.length ≤ K) : Sl (rIntK K).slice B w a n c (ivR xss) :=
  h.mapm (s := (rIntK K).slice) (fun xs => xs.map fun x => ival x.1 x.2) (Nat.le_refl _) rfl fun cs xs hxs ⟨a, n, c, e, hs⟩ => ⟨a, n, c, e, hs.mapm (s := rIntK K) (fun x => ival x.1 x.2) (Nat.le_refl _) rfl fun cs x hx ⟨c1, c2, e, h1, a, n, c, h2, h3⟩ => by
    obtain ⟨b, l⟩ := x
    obtain rfl : c1 = [.bool b] := h1
    exact ⟨b, a, n, c, l, by rw [e, h2]; rfl, h3, rfl, by have := hK xs hxs _ hx; rw [h3.len] at this; exact this⟩⟩

/-- a matrix as it lies: its numbers and its raw data -/
def RawB (B : Nat) (K : Nat) (w : World) (b : Bool) (a : Option Addr) (n c : Nat) (a2 : Option Addr) (n2 c2 : Nat) (d : Int) (zss : List (List Int)) (l : Nt) (xss : List (List It)) : Prop :=
  NatS B w a n c l ∧ Sl rInts B w a2 n2 c2 xss ∧ ival b l = d ∧ n ≤ K ∧ ivR xss = zss ∧ ∀ xs ∈ xss, ∀ x ∈ xs, x.2.length ≤ K
abbrev RawM := RawB 0
theorem MatS.raw {K : Nat} {w : World} {b : Bool} {a a2 : Option Addr} {n c n2 c2 : Nat} {d : Int} {zss : List (List Int)} (h : MatS K w b a n c a2 n2 c2 d zss) : ∃ l xss, RawM K w b a n c a2 n2 c2 d zss l xss := by
  obtain ⟨l, h1, h2, h3, h4⟩ := h
  obtain ⟨xss, g1, g2, g3⟩ := h4.rawKs
  exact ⟨l, xss, h1, g1, h2, h3, g2, g3⟩
theorem RawM.mat {K : Nat} {w : World} {b : Bool} {a a2 : Option Addr} {n c n2 c2 : Nat} {d : Int} {zss : List (List Int)} {l : Nt} {xss : List (List It)} (h : RawM K w b a n c a2 n2 c2 d zss l xss) : MatS K w b a n c a2 n2 c2 d zss := by
  obtain ⟨h1, h2, h3, h4, rfl, h6⟩ := h
  exact ⟨l, h1, h3, h4, h2.ofRaw h6⟩
theorem RawB.zero {B K : Nat} {w : World} {b : Bool} {a a2 : Option Addr} {n c n2 c2 : Nat} {d : Int} {zss : List (List Int)} {l : Nt} {xss : List (List It)} (h : RawB B K w b a n c a2 n2 c2 d zss l xss) : RawM K w b a n c a2 n2 c2 d zss l xss :=
  ⟨h.1.mono (Nat.zero_le _) (Kept.refl _ _), h.2.1.mono (Nat.zero_le _) (Kept.refl _ _), h.2.2⟩
theorem RawB.mono {B B' K : Nat} {w w' : World} {b : Bool} {a a2 : Option Addr} {n c n2 c2 : Nat} {d : Int} {zss : List (List Int)} {l : Nt} {xss : List (List It)} (h : RawB B K w b a n c a2 n2 c2 d zss l xss) (hB : B' ≤ B) (hk : Kept B w w') : RawB B' K w' b a n c a2 n2 c2 d zss l xss :=
  ⟨h.1.mono hB hk, h.2.1.mono hB hk, h.2.2⟩
theorem RawB.mat {B K : Nat} {w : World} {b : Bool} {a a2 : Option Addr} {n c n2 c2 : Nat} {d : Int} {zss : List (List Int)} {l : Nt} {xss : List (List It)} (h : RawB B K w b a n c a2 n2 c2 d zss l xss) : MatS K w b a n c a2 n2 c2 d zss := h.zero.mat
theorem RawB.nat {B K : Nat} {w : World} {b : Bool} {a a2 : Option Addr} {n c n2 c2 : Nat} {d : Int} {zss : List (List Int)} {l : Nt} {xss : List (List It)} (h : RawB B K w b a n c a2 n2 c2 d zss l xss) : NatS B w a n c l := h.1
theorem RawB.rows {B K : Nat} {w : World} {b : Bool} {a a2 : Option Addr} {n c n2 c2 : Nat} {d : Int} {zss : List (List Int)} {l : Nt} {xss : List (List It)} (h : RawB B K w b a n c a2 n2 c2 d zss l xss) : Sl rInts B w a2 n2 c2 xss := h.2.1
theorem RawB.ext {B K : Nat} {w w' : World} {b : Bool} {a a2 : Option Addr} {n c n2 c2 : Nat} {d : Int} {zss : List (List Int)} {l : Nt} {xss : List (List It)} (h : RawB B K w b a n c a2 n2 c2 d zss l xss) (hE : Ext w w') : RawB B K w' b a n c a2 n2 c2 d zss l xss :=
  ⟨h.1.ext (Nat.le_refl _) hE, h.2.1.ext (Nat.le_refl _) hE, h.2.2⟩

def RCopyR (K : Nat) (w : World) (b : Bool) (n n2 : Nat) (d : Int) (zss : List (List Int)) (l : Nt) (xss : List (List It)) (e : Ending) (w' : World) : Prop := ∃ a c a2 c2, e = .returned (.agg #[.bool b, .slice a n c, .slice a2 n2 c2]) ∧ RawB w.heap.size K w' b a n c a2 n2 c2 d zss l xss ∧ Ext w w'
theorem copy_raw (K : Nat) (hK : K ≤ 1099511627776) (w : World) (b : Bool) (a a2 : Option Addr) (n c n2 c2 : Nat) (d : Int) (zss : List (List Int)) (l : Nt) (xss : List (List It)) (h : RawM K w b a n c a2 n2 c2 d zss l xss) (hrow : Hid (∀ zs ∈ zss, zs.length ≤ 1099511627776)) (hn2 : n2 ≤ 1099511627776) :
    Calls Tryz.prog 22 #[.agg #[.bool b, .slice a n c, .slice a2 n2 c2]] w (RCopyR K w b n n2 d zss l xss) := by
  obtain ⟨h1, h2, h3, h4, h5, h6⟩ := h
  refine (r11Copy_any w b a a2 n c n2 c2 l xss h1 h2 (Lib.hid fun xs hxs => ⟨?_, fun x hx => Nat.le_trans (h6 xs hxs x hx) hK⟩) (by omega) hn2).mono ?_
  · have := hrow.out (xs.map fun x => ival x.1 x.2) (by rw [← h5]; exact List.mem_map.2 ⟨xs, hxs, rfl⟩)
    rwa [List.length_map] at this
  · rintro e w' ⟨a', c', a2', c2', rfl, g1, g2, hE⟩
    exact ⟨a', c', a2', c2', rfl, ⟨g1, g2, h3, h4, h5, h6⟩, hE⟩

end Go.Proofs.YtbhenelehhiakaaGreat
/-
  The references: Sub of matrices.
-/
namespace Go.Proofs.YtbhenelehhiakaaGreat
open Go.RowKit

theorem ivR_rawM (zss : List (List Int)) : ivR (rawM zss) = zss := by
  unfold ivR rawM
  rw [List.map_map]
  conv => rhs; rw [← List.map_id zss]
  refine List.map_congr_left fun zs _ => ?_
  show (zs.map rawI).map (fun x => ival x.1 x.2) = zs
  rw [List.map_map]
  conv => rhs; rw [← List.map_id zs]
  exact List.map_congr_left fun z _ => ival_norm z
theorem fracs_nrm (qss : List (List Rat)) : fracs ((nrmD qss : Nat) : Int) (nrmZ qss) = qss := by
  unfold fracs nrmZ
  rw [List.map_map]
  conv => rhs; rw [← List.map_id qss]
  refine List.map_congr_left fun qs hq => ?_
  show (qs.map (comNum (nrmD qss))).map (fun z => ratv z ((nrmD qss : Nat) : Int)) = qs
  rw [List.map_map]
  conv => rhs; rw [← List.map_id qs]
  refine List.map_congr_left fun q hq2 => ?_
  exact ratv_comNum _ (comDen_pos _) q (den_dvd_comDen _ _ (List.mem_flatten.2 ⟨qs, hq, hq2⟩))
/-- an answer of the reference as a matrix -/
theorem nrm_mat {K1 KD K : Nat} {w : World} {a a2 : Option Addr} {n c n2 c2 : Nat} {qss : List (List Rat)} (h : NatS 0 w a n c (limbs (nrmD qss))) (h2 : Sl rInts 0 w a2 n2 c2 (rawM (nrmZ qss))) (hD : nl (nrmD qss) ≤ KD) (hq : ∀ qs ∈ qss, ∀ q ∈ qs, nl q.num.natAbs ≤ K1) (hK : K1 + KD ≤ K) : MatS K w false a n c a2 n2 c2 ((nrmD qss : Nat) : Int) (nrmZ qss) := by
  refine ⟨_, h, by rw [ival_limbs]; rfl, by have := len_norm h; omega, ?_⟩
  have := h2.ofRaw (K := K) (fun xs hxs x hx => by
    obtain ⟨zs, hzs, rfl⟩ := List.mem_map.1 hxs
    obtain ⟨z, hz, rfl⟩ := List.mem_map.1 hx
    obtain ⟨qs, hqs, rfl⟩ := List.mem_map.1 hzs
    obtain ⟨q, hq2, rfl⟩ := List.mem_map.1 hz
    show (limbs (comNum (nrmD qss) q).natAbs).length ≤ K
    rw [length_limbs]
    exact Nat.le_trans (nl_comNum (hq qs hqs q hq2) hD) hK)
  rwa [ivR_rawM] at this

theorem rawM_len (Q : List (List Rat)) : (rawM (nrmZ Q)).length = Q.length := by simp [rawM, nrmZ]
theorem MatS.weak {K K' : Nat} {w : World} {b : Bool} {a a2 : Option Addr} {n c n2 c2 : Nat} {d : Int} {zss : List (List Int)} (h : MatS K w b a n c a2 n2 c2 d zss) (hK : K ≤ K') : MatS K' w b a n c a2 n2 c2 d zss := by
  obtain ⟨l, h1, h2, h3, h4⟩ := h
  exact ⟨l, h1, h2, Nat.le_trans h3 hK, h4.weak (s := (rIntK K').slice) (Nat.le_refl _) rfl fun cs zs ⟨a, n, c, e, hs⟩ => ⟨a, n, c, e, hs.weak (s := rIntK K') (Nat.le_refl _) rfl fun cs z ⟨b, a, n, c, l, e, g1, g2, g3⟩ => ⟨b, a, n, c, l, e, g1, g2, Nat.le_trans g3 hK⟩⟩⟩
set_option maxRecDepth 100000 in
set_option maxHeartbeats 16000000 in
theorem r11Sub_any (K : Nat) (hK : 16 * K + 8 ≤ 549755813888) (hK1 : 1 ≤ K) (w : World) (b : Bool) (a a2 : Option Addr) (n c n2 c2 : Nat) (d : Int) (zss : List (List Int)) (h : MatS K w b a n c a2 n2 c2 d zss) (b' : Bool) (a' a2' : Option Addr) (n' c' c2' : Nat) (d' : Int) (zss' : List (List Int)) (h' : MatS K w b' a' n' c' a2' n2 c2' d' zss') (hd0 : d ≠ 0) (hd1 : d' ≠ 0) (m : Nat) (hrow : Hid (∀ zs ∈ zss, zs.length = m)) (hrow' : Hid (∀ zs ∈ zss', zs.length = m)) (hn2 : n2 ≤ 1048576) (hm : m ≤ 1048576) (qss : List (List Rat)) (hq : Hid (joinQ (· - ·) (fracs d zss) (fracs d' zss') n2 m = qss)) :
    Calls Tryz.prog 48 #[.agg #[.bool b, .slice a n c, .slice a2 n2 c2], .agg #[.bool b', .slice a' n' c', .slice a2' n2 c2']] w (RRef w qss) := by
  obtain ⟨x, hx⟩ : ∃ x : Rat, ((-1 : Int) : Rat) = x := ⟨_, rfl⟩
  obtain ⟨Q2, hQ2⟩ : ∃ Q, scaleQ (fracs d' zss') x n2 m = Q := ⟨_, rfl⟩
  have hr1 : ratv (-1) 1 = x := by rw [ratv_one, hx]
  have hxn : x.num = -1 := by rw [← hx, Rat.num_intCast]
  have hxd : x.den = 1 := by rw [← hx, Rat.den_intCast]
  have hQe : fracs (d' * 1) (tableZ (fun i k => entry zss' i k * (-1)) n2 m) = Q2 := by rw [scaleZ_eq, hr1, hQ2]
  have hd1' : d' * 1 ≠ 0 := by rw [Int.mul_one]; exact hd1
  obtain ⟨l', g1', g2', g3', g4'⟩ := id h'
  have hdK : nl (d' * 1).natAbs ≤ K := by rw [Int.mul_one]; exact Nat.le_trans (nl_of g1' (Lib.hid g2')) g3'
  have hzK : ∀ i k, nl (entry zss' i k).natAbs ≤ K := entry_nl g4'
  have hND : nl (nrmD Q2) ≤ K := by rw [← hQe]; exact nrmD_nl _ hd1' _ K hdK
  have hQK : ∀ qs ∈ Q2, ∀ q ∈ qs, nl q.num.natAbs ≤ K := by
    intro qs hqs q hq2
    rw [← hQe, fracs_table] at hqs
    obtain ⟨i, hi, rfl⟩ := List.getElem_of_mem hqs
    obtain ⟨k, hk, rfl⟩ := List.getElem_of_mem hq2
    simp only [tabQ, List.getElem_map, List.getElem_range]
    have h1 := (ratv_le (entry zss' i k * (-1)) (d' * 1) hd1').1
    have h2 : (entry zss' i k * (-1)).natAbs = (entry zss' i k).natAbs := by rw [Int.natAbs_mul]; simp
    rw [h2] at h1
    exact Nat.le_trans (nl_mono h1) (hzK i k)
  have hQL : ∀ qs ∈ Q2, qs.length = m := by rw [← hQ2]; exact row_tabQ _ _ _
  have HRZ : Hid (∀ zs ∈ nrmZ Q2, zs.length = m) := Lib.hid (fun zs hz => by
    obtain ⟨qs, hqs, rfl⟩ := List.mem_map.1 hz
    rw [List.length_map]; exact hQL qs hqs)
  have HFQ : Hid (joinQ (· + ·) (fracs d zss) (fracs ((nrmD Q2 : Nat) : Int) (nrmZ Q2)) n2 m = qss) := Lib.hid (by
    rw [fracs_nrm, ← hq.out, ← hQ2]
    refine tabQ_congr fun i k hi hk => ?_
    show entQ _ i k + entQ (scaleQ _ _ _ _) i k = entQ _ i k - entQ _ i k
    unfold scaleQ
    rw [entQ_tabQ _ _ _ _ _ hi hk, ← hx]
    grind)
  have hND0 : ((nrmD Q2 : Nat) : Int) ≠ 0 := by have := comDen_pos Q2.flatten; show ((comDen Q2.flatten : Nat) : Int) ≠ 0; omega
  have HQLEN : Hid (Q2.length = n2) := Lib.hid (by rw [← hQ2]; exact length_tabQ _ _ _)
  have HQ2 := Lib.hid hQ2
  have HQK := Lib.hid hQK
  have HX := Lib.hid hx
  have HXN := Lib.hid hxn
  have HXD := Lib.hid hxd
  clear hQe hr1 hQ2 hQK hQL g1' g2' g4' hzK hx hxn hxd
  go_enter Tryz.func48, Tryz.ntmps48
  go_wp2_with fail
  have p0 := Blk.new w 28 #[.bool b, .slice a n c, .slice a2 n2 c2]
  have p1 := Blk.new (w.alloc (Obj.cells #[.bool b, .slice a n c, .slice a2 n2 c2] 28)) 28 #[.bool b', .slice a' n' c', .slice a2' n2 c2']
  replace p0 := p0.ext ((Below.refl _ _).alloc (Nat.le_refl _) (Obj.cells #[.bool b', .slice a' n' c', .slice a2' n2 c2'] 28))
  have r0 := Blk.new ((w.alloc (Obj.cells #[.bool b, .slice a n c, .slice a2 n2 c2] 28)).alloc (Obj.cells #[.bool b', .slice a' n' c', .slice a2' n2 c2'] 28)) 28 #[.bool false, .slice none 0 0, .slice none 0 0]
  replace p0 := p0.ext ((Below.refl _ _).alloc (Nat.le_refl _) (Obj.cells #[.bool false, .slice none 0 0, .slice none 0 0] 28))
  replace p1 := p1.ext ((Below.refl _ _).alloc (Nat.le_refl _) (Obj.cells #[.bool false, .slice none 0 0, .slice none 0 0] 28))
  have hEW : Ext w (((w.alloc (Obj.cells #[.bool b, .slice a n c, .slice a2 n2 c2] 28)).alloc (Obj.cells #[.bool b', .slice a' n' c', .slice a2' n2 c2'] 28)).alloc (Obj.cells #[.bool false, .slice none 0 0, .slice none 0 0] 28)) := ((((Below.refl _ w).alloc (by simp) _).alloc (by simp) _).alloc (by simp; omega) _)
  generalize hgW : ((w.alloc (Obj.cells #[.bool b, .slice a n c, .slice a2 n2 c2] 28)).alloc (Obj.cells #[.bool b', .slice a' n' c', .slice a2' n2 c2'] 28)).alloc (Obj.cells #[.bool false, .slice none 0 0, .slice none 0 0] 28) = W at *
  clear hgW
  simp only [World.size_alloc] at p1 r0
  have p0_ne_p1 : ¬ w.heap.size = w.heap.size + 1 := by omega
  have p0_ne_r0 : ¬ w.heap.size = w.heap.size + 1 + 1 := by omega
  have p1_ne_p0 : ¬ w.heap.size + 1 = w.heap.size := by omega
  have p1_ne_r0 : ¬ w.heap.size + 1 = w.heap.size + 1 + 1 := by omega
  have r0_ne_p0 : ¬ w.heap.size + 1 + 1 = w.heap.size := by omega
  have r0_ne_p1 : ¬ w.heap.size + 1 + 1 = w.heap.size + 1 := by omega
  replace p0_0 := p0.cell (i := 0) rfl
  replace p0_1 := p0.cell (i := 1) rfl
  replace p0_2 := p0.cell (i := 2) rfl
  replace p1_0 := p1.cell (i := 0) rfl
  replace p1_1 := p1.cell (i := 1) rfl
  replace p1_2 := p1.cell (i := 2) rfl
  replace r0_0 := r0.cell (i := 0) rfl
  replace r0_1 := r0.cell (i := 1) rfl
  replace r0_2 := r0.cell (i := 2) rfl
  replace r0_f0 := r0.free 0
  replace r0_f1 := r0.free 1
  replace r0_f2 := r0.free 2
  replace r0_lt := r0.lt
  have hW : w.heap.size + 1 + 1 < W.heap.size := r0.lt
  have hEd : Ext W W.drew := (Below.refl _ _).drew
  replace p0 := p0.ext hEd; replace p0_0 := p0.cell (i := 0) rfl; replace p0_1 := p0.cell (i := 1) rfl; replace p0_2 := p0.cell (i := 2) rfl; replace p1 := p1.ext hEd; replace p1_0 := p1.cell (i := 0) rfl; replace p1_1 := p1.cell (i := 1) rfl; replace p1_2 := p1.cell (i := 2) rfl; replace r0 := r0.ext hEd; replace r0_0 := r0.cell (i := 0) rfl; replace r0_1 := r0.cell (i := 1) rfl; replace r0_2 := r0.cell (i := 2) rfl; replace r0_f0 := r0.free 0; replace r0_f1 := r0.free 1; replace r0_f2 := r0.free 2; replace r0_lt := r0.lt
  have hE0 := Ext.trans hEW hEd
  have hsz := hEd.size
  clear hEW hEd
  go_region_held3 (fun w' => w'.cell? ⟨w.heap.size, 0, none⟩ = some (.bool b) ∧ w'.cell? ⟨w.heap.size, 1, none⟩ = some (.slice a n c) ∧ w'.cell? ⟨w.heap.size, 2, none⟩ = some (.slice a2 n2 c2) ∧ w'.cell? ⟨w.heap.size + 1, 0, none⟩ = some (.bool b') ∧ w'.cell? ⟨w.heap.size + 1, 1, none⟩ = some (.slice a' n' c') ∧ w'.cell? ⟨w.heap.size + 1, 2, none⟩ = some (.slice a2' n2 c2')) (first | exact ⟨p0_0, p0_1, p0_2, p1_0, p1_1, p1_2⟩ | go_keep)
    (first
    | (go_at_call 101; (with_reducible refine (r5Of_any (-1) _ (by decide) (by decide)).mono ?_); rw [HX.out]; rintro e w1 ⟨ax, nx, cx, ay, ny, cy, rfl, gx, gy, hE1⟩; have hx1 := ratS_mk (K := K) gx gy (by rw [HXN.out]; exact Nat.le_trans (by decide) hK1) (by rw [HXD.out]; exact Nat.le_trans (by decide) hK1); replace p0 := p0.ext hE1; replace p0_0 := p0.cell (i := 0) rfl; replace p0_1 := p0.cell (i := 1) rfl; replace p0_2 := p0.cell (i := 2) rfl; replace p1 := p1.ext hE1; replace p1_0 := p1.cell (i := 0) rfl; replace p1_1 := p1.cell (i := 1) rfl; replace p1_2 := p1.cell (i := 2) rfl; replace r0 := r0.ext hE1; replace r0_0 := r0.cell (i := 0) rfl; replace r0_1 := r0.cell (i := 1) rfl; replace r0_2 := r0.cell (i := 2) rfl; replace r0_f0 := r0.free 0; replace r0_f1 := r0.free 1; replace r0_f2 := r0.free 2; replace r0_lt := r0.lt; replace hsz := Nat.le_trans hsz hE1.size; replace hE0 := Ext.trans hE0 hE1)
    | (go_at_call 49; (with_reducible refine (r11Scale_any K (by omega) _ b' a' a2' n' c' n2 c2' d' zss' (h'.ext hE0) _ _ ax ay nx cx ny cy x hx1 hd1 m hrow' hn2 hm Q2 HQ2).mono ?_); rintro e w2 ⟨a5, n5, c5, a6, n6, c6, rfl, g5, g6, hE1⟩; obtain rfl : n2 = n6 := HQLEN.out.symm.trans ((rawM_len Q2).symm.trans g6.len); replace p0 := p0.ext hE1; replace p0_0 := p0.cell (i := 0) rfl; replace p0_1 := p0.cell (i := 1) rfl; replace p0_2 := p0.cell (i := 2) rfl; replace p1 := p1.ext hE1; replace p1_0 := p1.cell (i := 0) rfl; replace p1_1 := p1.cell (i := 1) rfl; replace p1_2 := p1.cell (i := 2) rfl; replace r0 := r0.ext hE1; replace r0_0 := r0.cell (i := 0) rfl; replace r0_1 := r0.cell (i := 1) rfl; replace r0_2 := r0.cell (i := 2) rfl; replace r0_f0 := r0.free 0; replace r0_f1 := r0.free 1; replace r0_f2 := r0.free 2; replace r0_lt := r0.lt; replace hsz := Nat.le_trans hsz hE1.size; replace hE0 := Ext.trans hE0 hE1)
    | (go_at_call 47; (with_reducible refine (r11Add_b (K + K) (by omega) _ b a a2 n c n2 c2 d zss ((h.ext hE0).weak (by omega)) false a5 a6 n5 c5 c6 _ _ (nrm_mat (K1 := K) (KD := K) (g5.ext (Nat.le_refl _) (Ext.refl _)) g6 hND HQK.out (Nat.le_refl _)) hd0 hND0 m hrow HRZ hn2 hm qss HFQ).mono ?_); rintro e w3 ⟨a7, n7, c7, a8, n8, c8, rfl, g7, g8, hE1⟩; replace p0 := p0.ext hE1; replace p0_0 := p0.cell (i := 0) rfl; replace p0_1 := p0.cell (i := 1) rfl; replace p0_2 := p0.cell (i := 2) rfl; replace p1 := p1.ext hE1; replace p1_0 := p1.cell (i := 0) rfl; replace p1_1 := p1.cell (i := 1) rfl; replace p1_2 := p1.cell (i := 2) rfl; replace r0 := r0.ext hE1; replace r0_0 := r0.cell (i := 0) rfl; replace r0_1 := r0.cell (i := 1) rfl; replace r0_2 := r0.cell (i := 2) rfl; replace r0_f0 := r0.free 0; replace r0_f1 := r0.free 1; replace r0_f2 := r0.free 2; replace r0_lt := r0.lt; have hsz3 := hsz; replace hsz := Nat.le_trans hsz hE1.size; replace hE0 := Ext.trans hE0 hE1))
  have HF : Hid (RRef w qss (.returned (.agg #[.bool false, .slice a7 n7 c7, .slice a8 n8 c8])) (((w3.setCell ⟨w.heap.size + 1 + 1, 0, none⟩ (.bool false)).setCell ⟨w.heap.size + 1 + 1, 1, none⟩ (.slice a7 n7 c7)).setCell ⟨w.heap.size + 1 + 1, 2, none⟩ (.slice a8 n8 c8))) := Lib.hid ⟨a7, n7, c7, a8, n8, c8, rfl, ((g7.mono (Nat.le_refl _) (kept_set3 _ _ _ _ (by omega))).mono (Nat.zero_le _) (Kept.refl _ _)), ((g8.mono (Nat.le_refl _) (kept_set3 _ _ _ _ (by omega))).mono (Nat.zero_le _) (Kept.refl _ _)), ext_set3 hE0 _ _ _ (by omega)⟩
  have r02 : Blk ((((w3).setCell ⟨w.heap.size + 1 + 1, 0, none⟩ (.bool false)).setCell ⟨w.heap.size + 1 + 1, 1, none⟩ (.slice a7 n7 c7)).setCell ⟨w.heap.size + 1 + 1, 2, none⟩ (.slice a8 n8 c8)) _ _ #[.bool false, .slice a7 n7 c7, .slice a8 n8 c8] := (((r0).set 0 (.bool false)).set 1 (.slice a7 n7 c7)).set 2 (.slice a8 n8 c8)
  have hr00 := r02.cell (i := 0) rfl
  have hr01 := r02.cell (i := 1) rfl
  have hr02 := r02.cell (i := 2) rfl
  go_wp2_with fail
  exact bodyPost_ret (v := .agg #[.bool false, .slice a7 n7 c7, .slice a8 n8 c8]) (by simp [results, Tryz.results48, go_sem, hr00, hr01, hr02]) rfl HF.out
end Go.Proofs.YtbhenelehhiakaaGreat
