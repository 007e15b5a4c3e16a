/-
  The own walk and what it shows, part 7 of 7.
-/
import Derived.Test.YtmambbfnjbdfgaaJ1
import Derived.Test.YtmambbfnjbdfgaaJ2
import Derived.Test.YtmambbfnjbdfgaaJ3
import Derived.Test.YtmambbfnjbdfgaaJ4
import Derived.Test.YtmambbfnjbdfgaaJ5
import Derived.Test.YtmambbfnjbdfgaaJ6
set_option exponentiation.threshold 30000
namespace Go.Proofs.Ytmambbfnjbdfgaa.R
open Go
noncomputable section
set_option linter.unusedVariables false
set_option linter.unusedSimpArgs false
set_option maxRecDepth 100000
set_option maxHeartbeats 4000000
/-! ### function 41 -/
def S41_4 (s : ByteArray) (p : Int) (n : Nat) (g : Nat → F) (x6 : Int) (x7 : Int) : St := ⟨[(U.hp 0 0), .bad, .bad, .bad, .bad, (U.hs 1 n 0 n), (U.f (F.int .i64 x6)), (U.f (F.int .i64 x7)), .bad, .bad, .bad, .bad, .bad, .bad, .bad, .bad, .bad, .bad, .bad, .bad, .bad, .bad, .bad, .bad, .bad, .bad, .bad, .bad, .bad, .bad, .bad, .bad, .bad, .bad, .bad, .bad, .bad, .bad, .bad, .bad, .bad, .bad, .bad, .bad, .bad, .bad, .bad, .bad, .bad, .bad, .bad, .bad, .bad, .bad, .bad, .bad, .bad, .bad, .bad, .bad, .bad, .bad, .bad, .bad, .bad, .bad, .bad, .bad, .bad, .bad, .bad, .bad, .bad, .bad, .bad, .bad, .bad, .bad, .bad, .bad, .bad, .bad, .bad, .bad, .bad, .bad, .bad, .bad, .bad, .bad, .bad, .bad, .bad, .bad, .bad, .bad, .bad, .bad, .bad, .bad, .bad, .bad, .bad, .bad, .bad, .bad, .bad, .bad, .bad, .bad, .bad, .bad, .bad, .bad], [HO.box [U.f (bytesF s), U.f (F.int .i64 p)], HO.arr 4 n g]⟩
def S41_4v (s : ByteArray) (p : Int) (n : Nat) (o : List Sg) (x6 : Int) (x7 : Int) : St := ⟨[(U.hp 0 0), .bad, .bad, .bad, .bad, (U.hs 1 n 0 n), (U.f (F.int .i64 x6)), (U.f (F.int .i64 x7)), .bad, .bad, .bad, .bad, .bad, .bad, .bad, .bad, .bad, .bad, .bad, .bad, .bad, .bad, .bad, .bad, .bad, .bad, .bad, .bad, .bad, .bad, .bad, .bad, .bad, .bad, .bad, .bad, .bad, .bad, .bad, .bad, .bad, .bad, .bad, .bad, .bad, .bad, .bad, .bad, .bad, .bad, .bad, .bad, .bad, .bad, .bad, .bad, .bad, .bad, .bad, .bad, .bad, .bad, .bad, .bad, .bad, .bad, .bad, .bad, .bad, .bad, .bad, .bad, .bad, .bad, .bad, .bad, .bad, .bad, .bad, .bad, .bad, .bad, .bad, .bad, .bad, .bad, .bad, .bad, .bad, .bad, .bad, .bad, .bad, .bad, .bad, .bad, .bad, .bad, .bad, .bad, .bad, .bad, .bad, .bad, .bad, .bad, .bad, .bad, .bad, .bad, .bad, .bad, .bad, .bad], [HO.box [U.f (bytesF s), U.f (F.int .i64 p)], HO.arr 4 n (fun i => sgF (o.getD i Sg.zero))]⟩
def T41_4 {ρ : Type} (ret : (Nat) → (Nat → F) → (Int) → Option ρ) (c4 : (ByteArray) → (Int) → (Nat) → (Nat → F) → (Int) → (Int) → Option ρ) (s : ByteArray) (p : Int) (n : Nat) (o : List Sg) (x6 : Int) (x7 : Int) : Option ρ :=
 (bsel (decide (x7 < x6))
 (bsel (isBytes (bytesF s) && rdOk (unBytes (bytesF s)) p && true)
 (bsel (isBytes (bytesF s) && rdOk (unBytes (bytesF s)) (resSpot [] (unBytes (bytesF s)) p).snd && true)
 (bsel (decide (x7 > 0) == true)
 (bsel (isBytes (bytesF s) && rdOk (unBytes (bytesF s)) (resSpot [] (unBytes (bytesF s)) (resSpot [] (unBytes (bytesF s)) p).snd).snd)
 (bsel ((onceV (unBytes (bytesF s)) (resSpot [] (unBytes (bytesF s)) (resSpot [] (unBytes (bytesF s)) p).snd).snd 3).fst)
 (bsel (decide (n = n))
 (bsel (decide (0 ≤ IntKind.i64.wrap (x7 - 1)))
 (bsel (decide (IntKind.i64.wrap (x7 - 1) < (↑n : Int)))
 (bsel (decide (n = n))
 (bsel (decide (n = n))
 (bsel (decide (0 + (IntKind.i64.wrap (x7 - 1)).toNat < n))
 (bsel (decide (x7 > 0) == true)
 (bsel (isBytes (bytesF s) && rdOk (unBytes (bytesF s)) (onceV (unBytes (bytesF s)) (resSpot [] (unBytes (bytesF s)) (resSpot [] (unBytes (bytesF s)) p).snd).snd 3).snd)
 (bsel ((onceV (unBytes (bytesF s)) (onceV (unBytes (bytesF s)) (resSpot [] (unBytes (bytesF s)) (resSpot [] (unBytes (bytesF s)) p).snd).snd 3).snd 6).fst)
 (bsel (decide (n = n))
 (bsel (decide (0 ≤ IntKind.i64.wrap (x7 - 1)))
 (bsel (decide (IntKind.i64.wrap (x7 - 1) < (↑n : Int)))
 (bsel (decide (n = n))
 (bsel (decide (n = n))
 (bsel (decide (0 + (IntKind.i64.wrap (x7 - 1)).toNat < n))
 (bsel (decide (n = n))
 (bsel (decide (0 ≤ IntKind.i64.wrap (x7 - 1)))
 (bsel (decide (IntKind.i64.wrap (x7 - 1) < (↑n : Int)))
 (bsel (decide (n = n))
 (bsel (decide (n = n))
 (bsel (decide (n = n))
 (bsel (decide (0 + (IntKind.i64.wrap (x7 - 1)).toNat < n))
 (bsel (decide (n = n))
 (bsel (decide (0 ≤ IntKind.i64.wrap (x7 - 1)))
 (bsel (decide (IntKind.i64.wrap (x7 - 1) < (↑n : Int)))
 (bsel (decide (n = n))
 (bsel (decide (n = n))
 (bsel (decide (n = n))
 (bsel (decide (0 + (IntKind.i64.wrap (x7 - 1)).toNat < n))
 (bsel (decide (n = n))
 (bsel (decide (0 ≤ IntKind.i64.wrap (x7 - 1)))
 (bsel (decide (IntKind.i64.wrap (x7 - 1) < (↑n : Int)))
 (bsel (decide (n = n))
 (bsel (decide (n = n))
 (bsel (decide (n = n))
 (bsel (decide (0 + (IntKind.i64.wrap (x7 - 1)).toNat < n))
 (bsel (decide (n = n))
 (bsel (decide (0 ≤ IntKind.i64.wrap (x7 - 1)))
 (bsel (decide (IntKind.i64.wrap (x7 - 1) < (↑n : Int)))
 (bsel (decide (n = n))
 (bsel (decide (n = n))
 (bsel (decide (n = n))
 (bsel (decide (0 + (IntKind.i64.wrap (x7 - 1)).toNat < n))
 (bsel ((o.getD (0 + (IntKind.i64.wrap (x7 - 1)).toNat) Sg.zero).x0 == IntKind.i64.wrap (IntKind.i64.wrap (2 * (o.getD (0 + (IntKind.i64.wrap (x7 - 1)).toNat) Sg.zero).x1) - (o.getD (0 + (IntKind.i64.wrap (x7 - 1)).toNat) Sg.zero).x0) && ((o.getD (0 + (IntKind.i64.wrap (x7 - 1)).toNat) Sg.zero).y0 == IntKind.i64.wrap (IntKind.i64.wrap (2 * (o.getD (0 + (IntKind.i64.wrap (x7 - 1)).toNat) Sg.zero).y1) - (o.getD (0 + (IntKind.i64.wrap (x7 - 1)).toNat) Sg.zero).y0) && true))
 (bsel (decide (n = n))
 (bsel (decide (n = n))
 (bsel (decide ((↑(n + 1) : Int) * (((32 : Nat) : Int) + 1) ≤ (↑limit : Int)))
 (c4 (s) ((onceV (unBytes (bytesF s)) (onceV (unBytes (bytesF s)) (resSpot [] (unBytes (bytesF s)) (resSpot [] (unBytes (bytesF s)) p).snd).snd 3).snd 6).snd) (n + 1) (fun j ↦ if j < n then F.agg [F.int .i64 (o.getD j Sg.zero).x0, F.int .i64 (o.getD j Sg.zero).y0, F.int .i64 (o.getD j Sg.zero).x1, F.int .i64 (o.getD j Sg.zero).y1] else F.agg [F.int .i64 (segOfV (o.getD (0 + (IntKind.i64.wrap (x7 - 1)).toNat) Sg.zero).x0 (o.getD (0 + (IntKind.i64.wrap (x7 - 1)).toNat) Sg.zero).y0 (IntKind.i64.wrap (IntKind.i64.wrap (2 * (o.getD (0 + (IntKind.i64.wrap (x7 - 1)).toNat) Sg.zero).x1) - (o.getD (0 + (IntKind.i64.wrap (x7 - 1)).toNat) Sg.zero).x0)) (IntKind.i64.wrap (IntKind.i64.wrap (IntKind.i64.wrap (2 * (o.getD (0 + (IntKind.i64.wrap (x7 - 1)).toNat) Sg.zero).y1) - (o.getD (0 + (IntKind.i64.wrap (x7 - 1)).toNat) Sg.zero).y0) + 1))).fst.x0, F.int .i64 (segOfV (o.getD (0 + (IntKind.i64.wrap (x7 - 1)).toNat) Sg.zero).x0 (o.getD (0 + (IntKind.i64.wrap (x7 - 1)).toNat) Sg.zero).y0 (IntKind.i64.wrap (IntKind.i64.wrap (2 * (o.getD (0 + (IntKind.i64.wrap (x7 - 1)).toNat) Sg.zero).x1) - (o.getD (0 + (IntKind.i64.wrap (x7 - 1)).toNat) Sg.zero).x0)) (IntKind.i64.wrap (IntKind.i64.wrap (IntKind.i64.wrap (2 * (o.getD (0 + (IntKind.i64.wrap (x7 - 1)).toNat) Sg.zero).y1) - (o.getD (0 + (IntKind.i64.wrap (x7 - 1)).toNat) Sg.zero).y0) + 1))).fst.y0, F.int .i64 (segOfV (o.getD (0 + (IntKind.i64.wrap (x7 - 1)).toNat) Sg.zero).x0 (o.getD (0 + (IntKind.i64.wrap (x7 - 1)).toNat) Sg.zero).y0 (IntKind.i64.wrap (IntKind.i64.wrap (2 * (o.getD (0 + (IntKind.i64.wrap (x7 - 1)).toNat) Sg.zero).x1) - (o.getD (0 + (IntKind.i64.wrap (x7 - 1)).toNat) Sg.zero).x0)) (IntKind.i64.wrap (IntKind.i64.wrap (IntKind.i64.wrap (2 * (o.getD (0 + (IntKind.i64.wrap (x7 - 1)).toNat) Sg.zero).y1) - (o.getD (0 + (IntKind.i64.wrap (x7 - 1)).toNat) Sg.zero).y0) + 1))).fst.x1, F.int .i64 (segOfV (o.getD (0 + (IntKind.i64.wrap (x7 - 1)).toNat) Sg.zero).x0 (o.getD (0 + (IntKind.i64.wrap (x7 - 1)).toNat) Sg.zero).y0 (IntKind.i64.wrap (IntKind.i64.wrap (2 * (o.getD (0 + (IntKind.i64.wrap (x7 - 1)).toNat) Sg.zero).x1) - (o.getD (0 + (IntKind.i64.wrap (x7 - 1)).toNat) Sg.zero).x0)) (IntKind.i64.wrap (IntKind.i64.wrap (IntKind.i64.wrap (2 * (o.getD (0 + (IntKind.i64.wrap (x7 - 1)).toNat) Sg.zero).y1) - (o.getD (0 + (IntKind.i64.wrap (x7 - 1)).toNat) Sg.zero).y0) + 1))).fst.y1]) (x6) (IntKind.i64.wrap (x7 + 1)))
 none)
 none)
 none)
 (bsel (decide (n = n))
 (bsel (decide (n = n))
 (bsel (decide ((↑(n + 1) : Int) * (((32 : Nat) : Int) + 1) ≤ (↑limit : Int)))
 (c4 (s) ((onceV (unBytes (bytesF s)) (onceV (unBytes (bytesF s)) (resSpot [] (unBytes (bytesF s)) (resSpot [] (unBytes (bytesF s)) p).snd).snd 3).snd 6).snd) (n + 1) (fun j ↦ if j < n then F.agg [F.int .i64 (o.getD j Sg.zero).x0, F.int .i64 (o.getD j Sg.zero).y0, F.int .i64 (o.getD j Sg.zero).x1, F.int .i64 (o.getD j Sg.zero).y1] else F.agg [F.int .i64 (segOfV (o.getD (0 + (IntKind.i64.wrap (x7 - 1)).toNat) Sg.zero).x0 (o.getD (0 + (IntKind.i64.wrap (x7 - 1)).toNat) Sg.zero).y0 (IntKind.i64.wrap (IntKind.i64.wrap (2 * (o.getD (0 + (IntKind.i64.wrap (x7 - 1)).toNat) Sg.zero).x1) - (o.getD (0 + (IntKind.i64.wrap (x7 - 1)).toNat) Sg.zero).x0)) (IntKind.i64.wrap (IntKind.i64.wrap (2 * (o.getD (0 + (IntKind.i64.wrap (x7 - 1)).toNat) Sg.zero).y1) - (o.getD (0 + (IntKind.i64.wrap (x7 - 1)).toNat) Sg.zero).y0))).fst.x0, F.int .i64 (segOfV (o.getD (0 + (IntKind.i64.wrap (x7 - 1)).toNat) Sg.zero).x0 (o.getD (0 + (IntKind.i64.wrap (x7 - 1)).toNat) Sg.zero).y0 (IntKind.i64.wrap (IntKind.i64.wrap (2 * (o.getD (0 + (IntKind.i64.wrap (x7 - 1)).toNat) Sg.zero).x1) - (o.getD (0 + (IntKind.i64.wrap (x7 - 1)).toNat) Sg.zero).x0)) (IntKind.i64.wrap (IntKind.i64.wrap (2 * (o.getD (0 + (IntKind.i64.wrap (x7 - 1)).toNat) Sg.zero).y1) - (o.getD (0 + (IntKind.i64.wrap (x7 - 1)).toNat) Sg.zero).y0))).fst.y0, F.int .i64 (segOfV (o.getD (0 + (IntKind.i64.wrap (x7 - 1)).toNat) Sg.zero).x0 (o.getD (0 + (IntKind.i64.wrap (x7 - 1)).toNat) Sg.zero).y0 (IntKind.i64.wrap (IntKind.i64.wrap (2 * (o.getD (0 + (IntKind.i64.wrap (x7 - 1)).toNat) Sg.zero).x1) - (o.getD (0 + (IntKind.i64.wrap (x7 - 1)).toNat) Sg.zero).x0)) (IntKind.i64.wrap (IntKind.i64.wrap (2 * (o.getD (0 + (IntKind.i64.wrap (x7 - 1)).toNat) Sg.zero).y1) - (o.getD (0 + (IntKind.i64.wrap (x7 - 1)).toNat) Sg.zero).y0))).fst.x1, F.int .i64 (segOfV (o.getD (0 + (IntKind.i64.wrap (x7 - 1)).toNat) Sg.zero).x0 (o.getD (0 + (IntKind.i64.wrap (x7 - 1)).toNat) Sg.zero).y0 (IntKind.i64.wrap (IntKind.i64.wrap (2 * (o.getD (0 + (IntKind.i64.wrap (x7 - 1)).toNat) Sg.zero).x1) - (o.getD (0 + (IntKind.i64.wrap (x7 - 1)).toNat) Sg.zero).x0)) (IntKind.i64.wrap (IntKind.i64.wrap (2 * (o.getD (0 + (IntKind.i64.wrap (x7 - 1)).toNat) Sg.zero).y1) - (o.getD (0 + (IntKind.i64.wrap (x7 - 1)).toNat) Sg.zero).y0))).fst.y1]) (x6) (IntKind.i64.wrap (x7 + 1)))
 none)
 none)
 none))
 none)
 none)
 none)
 none)
 none)
 none)
 none)
 none)
 none)
 none)
 none)
 none)
 none)
 none)
 none)
 none)
 none)
 none)
 none)
 none)
 none)
 none)
 none)
 none)
 none)
 none)
 none)
 none)
 none)
 none)
 none)
 none)
 none)
 none)
 (bsel ((o.getD (0 + (IntKind.i64.wrap (x7 - 1)).toNat) Sg.zero).x1 == (spotV (unBytes (bytesF s)) (resSpot [] (unBytes (bytesF s)) p).snd).fst && ((o.getD (0 + (IntKind.i64.wrap (x7 - 1)).toNat) Sg.zero).y1 == (spotV (unBytes (bytesF s)) (resSpot [] (unBytes (bytesF s)) p).snd).snd.fst && true))
 (bsel (decide (n = n))
 (bsel (decide (n = n))
 (bsel (decide ((↑(n + 1) : Int) * (((32 : Nat) : Int) + 1) ≤ (↑limit : Int)))
 (c4 (s) ((onceV (unBytes (bytesF s)) (onceV (unBytes (bytesF s)) (resSpot [] (unBytes (bytesF s)) (resSpot [] (unBytes (bytesF s)) p).snd).snd 3).snd 6).snd) (n + 1) (fun j ↦ if j < n then F.agg [F.int .i64 (o.getD j Sg.zero).x0, F.int .i64 (o.getD j Sg.zero).y0, F.int .i64 (o.getD j Sg.zero).x1, F.int .i64 (o.getD j Sg.zero).y1] else F.agg [F.int .i64 (segOfV (o.getD (0 + (IntKind.i64.wrap (x7 - 1)).toNat) Sg.zero).x1 (o.getD (0 + (IntKind.i64.wrap (x7 - 1)).toNat) Sg.zero).y1 (spotV (unBytes (bytesF s)) (resSpot [] (unBytes (bytesF s)) p).snd).fst (IntKind.i64.wrap ((spotV (unBytes (bytesF s)) (resSpot [] (unBytes (bytesF s)) p).snd).snd.fst + 1))).fst.x0, F.int .i64 (segOfV (o.getD (0 + (IntKind.i64.wrap (x7 - 1)).toNat) Sg.zero).x1 (o.getD (0 + (IntKind.i64.wrap (x7 - 1)).toNat) Sg.zero).y1 (spotV (unBytes (bytesF s)) (resSpot [] (unBytes (bytesF s)) p).snd).fst (IntKind.i64.wrap ((spotV (unBytes (bytesF s)) (resSpot [] (unBytes (bytesF s)) p).snd).snd.fst + 1))).fst.y0, F.int .i64 (segOfV (o.getD (0 + (IntKind.i64.wrap (x7 - 1)).toNat) Sg.zero).x1 (o.getD (0 + (IntKind.i64.wrap (x7 - 1)).toNat) Sg.zero).y1 (spotV (unBytes (bytesF s)) (resSpot [] (unBytes (bytesF s)) p).snd).fst (IntKind.i64.wrap ((spotV (unBytes (bytesF s)) (resSpot [] (unBytes (bytesF s)) p).snd).snd.fst + 1))).fst.x1, F.int .i64 (segOfV (o.getD (0 + (IntKind.i64.wrap (x7 - 1)).toNat) Sg.zero).x1 (o.getD (0 + (IntKind.i64.wrap (x7 - 1)).toNat) Sg.zero).y1 (spotV (unBytes (bytesF s)) (resSpot [] (unBytes (bytesF s)) p).snd).fst (IntKind.i64.wrap ((spotV (unBytes (bytesF s)) (resSpot [] (unBytes (bytesF s)) p).snd).snd.fst + 1))).fst.y1]) (x6) (IntKind.i64.wrap (x7 + 1)))
 none)
 none)
 none)
 (bsel (decide (n = n))
 (bsel (decide (n = n))
 (bsel (decide ((↑(n + 1) : Int) * (((32 : Nat) : Int) + 1) ≤ (↑limit : Int)))
 (c4 (s) ((onceV (unBytes (bytesF s)) (onceV (unBytes (bytesF s)) (resSpot [] (unBytes (bytesF s)) (resSpot [] (unBytes (bytesF s)) p).snd).snd 3).snd 6).snd) (n + 1) (fun j ↦ if j < n then F.agg [F.int .i64 (o.getD j Sg.zero).x0, F.int .i64 (o.getD j Sg.zero).y0, F.int .i64 (o.getD j Sg.zero).x1, F.int .i64 (o.getD j Sg.zero).y1] else F.agg [F.int .i64 (segOfV (o.getD (0 + (IntKind.i64.wrap (x7 - 1)).toNat) Sg.zero).x1 (o.getD (0 + (IntKind.i64.wrap (x7 - 1)).toNat) Sg.zero).y1 (spotV (unBytes (bytesF s)) (resSpot [] (unBytes (bytesF s)) p).snd).fst (spotV (unBytes (bytesF s)) (resSpot [] (unBytes (bytesF s)) p).snd).snd.fst).fst.x0, F.int .i64 (segOfV (o.getD (0 + (IntKind.i64.wrap (x7 - 1)).toNat) Sg.zero).x1 (o.getD (0 + (IntKind.i64.wrap (x7 - 1)).toNat) Sg.zero).y1 (spotV (unBytes (bytesF s)) (resSpot [] (unBytes (bytesF s)) p).snd).fst (spotV (unBytes (bytesF s)) (resSpot [] (unBytes (bytesF s)) p).snd).snd.fst).fst.y0, F.int .i64 (segOfV (o.getD (0 + (IntKind.i64.wrap (x7 - 1)).toNat) Sg.zero).x1 (o.getD (0 + (IntKind.i64.wrap (x7 - 1)).toNat) Sg.zero).y1 (spotV (unBytes (bytesF s)) (resSpot [] (unBytes (bytesF s)) p).snd).fst (spotV (unBytes (bytesF s)) (resSpot [] (unBytes (bytesF s)) p).snd).snd.fst).fst.x1, F.int .i64 (segOfV (o.getD (0 + (IntKind.i64.wrap (x7 - 1)).toNat) Sg.zero).x1 (o.getD (0 + (IntKind.i64.wrap (x7 - 1)).toNat) Sg.zero).y1 (spotV (unBytes (bytesF s)) (resSpot [] (unBytes (bytesF s)) p).snd).fst (spotV (unBytes (bytesF s)) (resSpot [] (unBytes (bytesF s)) p).snd).snd.fst).fst.y1]) (x6) (IntKind.i64.wrap (x7 + 1)))
 none)
 none)
 none)))
 none)
 (bsel ((o.getD (0 + (IntKind.i64.wrap (x7 - 1)).toNat) Sg.zero).x1 == (spotV (unBytes (bytesF s)) (resSpot [] (unBytes (bytesF s)) p).snd).fst && ((o.getD (0 + (IntKind.i64.wrap (x7 - 1)).toNat) Sg.zero).y1 == (spotV (unBytes (bytesF s)) (resSpot [] (unBytes (bytesF s)) p).snd).snd.fst && true))
 (bsel (decide (n = n))
 (bsel (decide (n = n))
 (bsel (decide ((↑(n + 1) : Int) * (((32 : Nat) : Int) + 1) ≤ (↑limit : Int)))
 (c4 (s) ((onceV (unBytes (bytesF s)) (resSpot [] (unBytes (bytesF s)) (resSpot [] (unBytes (bytesF s)) p).snd).snd 3).snd) (n + 1) (fun j ↦ if j < n then F.agg [F.int .i64 (o.getD j Sg.zero).x0, F.int .i64 (o.getD j Sg.zero).y0, F.int .i64 (o.getD j Sg.zero).x1, F.int .i64 (o.getD j Sg.zero).y1] else F.agg [F.int .i64 (segOfV (o.getD (0 + (IntKind.i64.wrap (x7 - 1)).toNat) Sg.zero).x1 (o.getD (0 + (IntKind.i64.wrap (x7 - 1)).toNat) Sg.zero).y1 (spotV (unBytes (bytesF s)) (resSpot [] (unBytes (bytesF s)) p).snd).fst (IntKind.i64.wrap ((spotV (unBytes (bytesF s)) (resSpot [] (unBytes (bytesF s)) p).snd).snd.fst + 1))).fst.x0, F.int .i64 (segOfV (o.getD (0 + (IntKind.i64.wrap (x7 - 1)).toNat) Sg.zero).x1 (o.getD (0 + (IntKind.i64.wrap (x7 - 1)).toNat) Sg.zero).y1 (spotV (unBytes (bytesF s)) (resSpot [] (unBytes (bytesF s)) p).snd).fst (IntKind.i64.wrap ((spotV (unBytes (bytesF s)) (resSpot [] (unBytes (bytesF s)) p).snd).snd.fst + 1))).fst.y0, F.int .i64 (segOfV (o.getD (0 + (IntKind.i64.wrap (x7 - 1)).toNat) Sg.zero).x1 (o.getD (0 + (IntKind.i64.wrap (x7 - 1)).toNat) Sg.zero).y1 (spotV (unBytes (bytesF s)) (resSpot [] (unBytes (bytesF s)) p).snd).fst (IntKind.i64.wrap ((spotV (unBytes (bytesF s)) (resSpot [] (unBytes (bytesF s)) p).snd).snd.fst + 1))).fst.x1, F.int .i64 (segOfV (o.getD (0 + (IntKind.i64.wrap (x7 - 1)).toNat) Sg.zero).x1 (o.getD (0 + (IntKind.i64.wrap (x7 - 1)).toNat) Sg.zero).y1 (spotV (unBytes (bytesF s)) (resSpot [] (unBytes (bytesF s)) p).snd).fst (IntKind.i64.wrap ((spotV (unBytes (bytesF s)) (resSpot [] (unBytes (bytesF s)) p).snd).snd.fst + 1))).fst.y1]) (x6) (IntKind.i64.wrap (x7 + 1)))
 none)
 none)
 none)
 (bsel (decide (n = n))
 (bsel (decide (n = n))
 (bsel (decide ((↑(n + 1) : Int) * (((32 : Nat) : Int) + 1) ≤ (↑limit : Int)))
 (c4 (s) ((onceV (unBytes (bytesF s)) (resSpot [] (unBytes (bytesF s)) (resSpot [] (unBytes (bytesF s)) p).snd).snd 3).snd) (n + 1) (fun j ↦ if j < n then F.agg [F.int .i64 (o.getD j Sg.zero).x0, F.int .i64 (o.getD j Sg.zero).y0, F.int .i64 (o.getD j Sg.zero).x1, F.int .i64 (o.getD j Sg.zero).y1] else F.agg [F.int .i64 (segOfV (o.getD (0 + (IntKind.i64.wrap (x7 - 1)).toNat) Sg.zero).x1 (o.getD (0 + (IntKind.i64.wrap (x7 - 1)).toNat) Sg.zero).y1 (spotV (unBytes (bytesF s)) (resSpot [] (unBytes (bytesF s)) p).snd).fst (spotV (unBytes (bytesF s)) (resSpot [] (unBytes (bytesF s)) p).snd).snd.fst).fst.x0, F.int .i64 (segOfV (o.getD (0 + (IntKind.i64.wrap (x7 - 1)).toNat) Sg.zero).x1 (o.getD (0 + (IntKind.i64.wrap (x7 - 1)).toNat) Sg.zero).y1 (spotV (unBytes (bytesF s)) (resSpot [] (unBytes (bytesF s)) p).snd).fst (spotV (unBytes (bytesF s)) (resSpot [] (unBytes (bytesF s)) p).snd).snd.fst).fst.y0, F.int .i64 (segOfV (o.getD (0 + (IntKind.i64.wrap (x7 - 1)).toNat) Sg.zero).x1 (o.getD (0 + (IntKind.i64.wrap (x7 - 1)).toNat) Sg.zero).y1 (spotV (unBytes (bytesF s)) (resSpot [] (unBytes (bytesF s)) p).snd).fst (spotV (unBytes (bytesF s)) (resSpot [] (unBytes (bytesF s)) p).snd).snd.fst).fst.x1, F.int .i64 (segOfV (o.getD (0 + (IntKind.i64.wrap (x7 - 1)).toNat) Sg.zero).x1 (o.getD (0 + (IntKind.i64.wrap (x7 - 1)).toNat) Sg.zero).y1 (spotV (unBytes (bytesF s)) (resSpot [] (unBytes (bytesF s)) p).snd).fst (spotV (unBytes (bytesF s)) (resSpot [] (unBytes (bytesF s)) p).snd).snd.fst).fst.y1]) (x6) (IntKind.i64.wrap (x7 + 1)))
 none)
 none)
 none)))
 none)
 none)
 none)
 none)
 none)
 none)
 (bsel (decide (x7 > 0) == true)
 (bsel (isBytes (bytesF s) && rdOk (unBytes (bytesF s)) (onceV (unBytes (bytesF s)) (resSpot [] (unBytes (bytesF s)) (resSpot [] (unBytes (bytesF s)) p).snd).snd 3).snd)
 (bsel ((onceV (unBytes (bytesF s)) (onceV (unBytes (bytesF s)) (resSpot [] (unBytes (bytesF s)) (resSpot [] (unBytes (bytesF s)) p).snd).snd 3).snd 6).fst)
 (bsel (decide (n = n))
 (bsel (decide (0 ≤ IntKind.i64.wrap (x7 - 1)))
 (bsel (decide (IntKind.i64.wrap (x7 - 1) < (↑n : Int)))
 (bsel (decide (n = n))
 (bsel (decide (n = n))
 (bsel (decide (0 + (IntKind.i64.wrap (x7 - 1)).toNat < n))
 (bsel (decide (n = n))
 (bsel (decide (0 ≤ IntKind.i64.wrap (x7 - 1)))
 (bsel (decide (IntKind.i64.wrap (x7 - 1) < (↑n : Int)))
 (bsel (decide (n = n))
 (bsel (decide (n = n))
 (bsel (decide (n = n))
 (bsel (decide (0 + (IntKind.i64.wrap (x7 - 1)).toNat < n))
 (bsel (decide (n = n))
 (bsel (decide (0 ≤ IntKind.i64.wrap (x7 - 1)))
 (bsel (decide (IntKind.i64.wrap (x7 - 1) < (↑n : Int)))
 (bsel (decide (n = n))
 (bsel (decide (n = n))
 (bsel (decide (n = n))
 (bsel (decide (0 + (IntKind.i64.wrap (x7 - 1)).toNat < n))
 (bsel (decide (n = n))
 (bsel (decide (0 ≤ IntKind.i64.wrap (x7 - 1)))
 (bsel (decide (IntKind.i64.wrap (x7 - 1) < (↑n : Int)))
 (bsel (decide (n = n))
 (bsel (decide (n = n))
 (bsel (decide (n = n))
 (bsel (decide (0 + (IntKind.i64.wrap (x7 - 1)).toNat < n))
 (bsel (decide (n = n))
 (bsel (decide (0 ≤ IntKind.i64.wrap (x7 - 1)))
 (bsel (decide (IntKind.i64.wrap (x7 - 1) < (↑n : Int)))
 (bsel (decide (n = n))
 (bsel (decide (n = n))
 (bsel (decide (n = n))
 (bsel (decide (0 + (IntKind.i64.wrap (x7 - 1)).toNat < n))
 (bsel ((o.getD (0 + (IntKind.i64.wrap (x7 - 1)).toNat) Sg.zero).x0 == IntKind.i64.wrap (IntKind.i64.wrap (2 * (o.getD (0 + (IntKind.i64.wrap (x7 - 1)).toNat) Sg.zero).x1) - (o.getD (0 + (IntKind.i64.wrap (x7 - 1)).toNat) Sg.zero).x0) && ((o.getD (0 + (IntKind.i64.wrap (x7 - 1)).toNat) Sg.zero).y0 == IntKind.i64.wrap (IntKind.i64.wrap (2 * (o.getD (0 + (IntKind.i64.wrap (x7 - 1)).toNat) Sg.zero).y1) - (o.getD (0 + (IntKind.i64.wrap (x7 - 1)).toNat) Sg.zero).y0) && true))
 (bsel (decide (n = n))
 (bsel (decide (n = n))
 (bsel (decide ((↑(n + 1) : Int) * (((32 : Nat) : Int) + 1) ≤ (↑limit : Int)))
 (c4 (s) ((onceV (unBytes (bytesF s)) (onceV (unBytes (bytesF s)) (resSpot [] (unBytes (bytesF s)) (resSpot [] (unBytes (bytesF s)) p).snd).snd 3).snd 6).snd) (n + 1) (fun j ↦ if j < n then F.agg [F.int .i64 (o.getD j Sg.zero).x0, F.int .i64 (o.getD j Sg.zero).y0, F.int .i64 (o.getD j Sg.zero).x1, F.int .i64 (o.getD j Sg.zero).y1] else F.agg [F.int .i64 (segOfV (o.getD (0 + (IntKind.i64.wrap (x7 - 1)).toNat) Sg.zero).x0 (o.getD (0 + (IntKind.i64.wrap (x7 - 1)).toNat) Sg.zero).y0 (IntKind.i64.wrap (IntKind.i64.wrap (2 * (o.getD (0 + (IntKind.i64.wrap (x7 - 1)).toNat) Sg.zero).x1) - (o.getD (0 + (IntKind.i64.wrap (x7 - 1)).toNat) Sg.zero).x0)) (IntKind.i64.wrap (IntKind.i64.wrap (IntKind.i64.wrap (2 * (o.getD (0 + (IntKind.i64.wrap (x7 - 1)).toNat) Sg.zero).y1) - (o.getD (0 + (IntKind.i64.wrap (x7 - 1)).toNat) Sg.zero).y0) + 1))).fst.x0, F.int .i64 (segOfV (o.getD (0 + (IntKind.i64.wrap (x7 - 1)).toNat) Sg.zero).x0 (o.getD (0 + (IntKind.i64.wrap (x7 - 1)).toNat) Sg.zero).y0 (IntKind.i64.wrap (IntKind.i64.wrap (2 * (o.getD (0 + (IntKind.i64.wrap (x7 - 1)).toNat) Sg.zero).x1) - (o.getD (0 + (IntKind.i64.wrap (x7 - 1)).toNat) Sg.zero).x0)) (IntKind.i64.wrap (IntKind.i64.wrap (IntKind.i64.wrap (2 * (o.getD (0 + (IntKind.i64.wrap (x7 - 1)).toNat) Sg.zero).y1) - (o.getD (0 + (IntKind.i64.wrap (x7 - 1)).toNat) Sg.zero).y0) + 1))).fst.y0, F.int .i64 (segOfV (o.getD (0 + (IntKind.i64.wrap (x7 - 1)).toNat) Sg.zero).x0 (o.getD (0 + (IntKind.i64.wrap (x7 - 1)).toNat) Sg.zero).y0 (IntKind.i64.wrap (IntKind.i64.wrap (2 * (o.getD (0 + (IntKind.i64.wrap (x7 - 1)).toNat) Sg.zero).x1) - (o.getD (0 + (IntKind.i64.wrap (x7 - 1)).toNat) Sg.zero).x0)) (IntKind.i64.wrap (IntKind.i64.wrap (IntKind.i64.wrap (2 * (o.getD (0 + (IntKind.i64.wrap (x7 - 1)).toNat) Sg.zero).y1) - (o.getD (0 + (IntKind.i64.wrap (x7 - 1)).toNat) Sg.zero).y0) + 1))).fst.x1, F.int .i64 (segOfV (o.getD (0 + (IntKind.i64.wrap (x7 - 1)).toNat) Sg.zero).x0 (o.getD (0 + (IntKind.i64.wrap (x7 - 1)).toNat) Sg.zero).y0 (IntKind.i64.wrap (IntKind.i64.wrap (2 * (o.getD (0 + (IntKind.i64.wrap (x7 - 1)).toNat) Sg.zero).x1) - (o.getD (0 + (IntKind.i64.wrap (x7 - 1)).toNat) Sg.zero).x0)) (IntKind.i64.wrap (IntKind.i64.wrap (IntKind.i64.wrap (2 * (o.getD (0 + (IntKind.i64.wrap (x7 - 1)).toNat) Sg.zero).y1) - (o.getD (0 + (IntKind.i64.wrap (x7 - 1)).toNat) Sg.zero).y0) + 1))).fst.y1]) (x6) (IntKind.i64.wrap (x7 + 1)))
 none)
 none)
 none)
 (bsel (decide (n = n))
 (bsel (decide (n = n))
 (bsel (decide ((↑(n + 1) : Int) * (((32 : Nat) : Int) + 1) ≤ (↑limit : Int)))
 (c4 (s) ((onceV (unBytes (bytesF s)) (onceV (unBytes (bytesF s)) (resSpot [] (unBytes (bytesF s)) (resSpot [] (unBytes (bytesF s)) p).snd).snd 3).snd 6).snd) (n + 1) (fun j ↦ if j < n then F.agg [F.int .i64 (o.getD j Sg.zero).x0, F.int .i64 (o.getD j Sg.zero).y0, F.int .i64 (o.getD j Sg.zero).x1, F.int .i64 (o.getD j Sg.zero).y1] else F.agg [F.int .i64 (segOfV (o.getD (0 + (IntKind.i64.wrap (x7 - 1)).toNat) Sg.zero).x0 (o.getD (0 + (IntKind.i64.wrap (x7 - 1)).toNat) Sg.zero).y0 (IntKind.i64.wrap (IntKind.i64.wrap (2 * (o.getD (0 + (IntKind.i64.wrap (x7 - 1)).toNat) Sg.zero).x1) - (o.getD (0 + (IntKind.i64.wrap (x7 - 1)).toNat) Sg.zero).x0)) (IntKind.i64.wrap (IntKind.i64.wrap (2 * (o.getD (0 + (IntKind.i64.wrap (x7 - 1)).toNat) Sg.zero).y1) - (o.getD (0 + (IntKind.i64.wrap (x7 - 1)).toNat) Sg.zero).y0))).fst.x0, F.int .i64 (segOfV (o.getD (0 + (IntKind.i64.wrap (x7 - 1)).toNat) Sg.zero).x0 (o.getD (0 + (IntKind.i64.wrap (x7 - 1)).toNat) Sg.zero).y0 (IntKind.i64.wrap (IntKind.i64.wrap (2 * (o.getD (0 + (IntKind.i64.wrap (x7 - 1)).toNat) Sg.zero).x1) - (o.getD (0 + (IntKind.i64.wrap (x7 - 1)).toNat) Sg.zero).x0)) (IntKind.i64.wrap (IntKind.i64.wrap (2 * (o.getD (0 + (IntKind.i64.wrap (x7 - 1)).toNat) Sg.zero).y1) - (o.getD (0 + (IntKind.i64.wrap (x7 - 1)).toNat) Sg.zero).y0))).fst.y0, F.int .i64 (segOfV (o.getD (0 + (IntKind.i64.wrap (x7 - 1)).toNat) Sg.zero).x0 (o.getD (0 + (IntKind.i64.wrap (x7 - 1)).toNat) Sg.zero).y0 (IntKind.i64.wrap (IntKind.i64.wrap (2 * (o.getD (0 + (IntKind.i64.wrap (x7 - 1)).toNat) Sg.zero).x1) - (o.getD (0 + (IntKind.i64.wrap (x7 - 1)).toNat) Sg.zero).x0)) (IntKind.i64.wrap (IntKind.i64.wrap (2 * (o.getD (0 + (IntKind.i64.wrap (x7 - 1)).toNat) Sg.zero).y1) - (o.getD (0 + (IntKind.i64.wrap (x7 - 1)).toNat) Sg.zero).y0))).fst.x1, F.int .i64 (segOfV (o.getD (0 + (IntKind.i64.wrap (x7 - 1)).toNat) Sg.zero).x0 (o.getD (0 + (IntKind.i64.wrap (x7 - 1)).toNat) Sg.zero).y0 (IntKind.i64.wrap (IntKind.i64.wrap (2 * (o.getD (0 + (IntKind.i64.wrap (x7 - 1)).toNat) Sg.zero).x1) - (o.getD (0 + (IntKind.i64.wrap (x7 - 1)).toNat) Sg.zero).x0)) (IntKind.i64.wrap (IntKind.i64.wrap (2 * (o.getD (0 + (IntKind.i64.wrap (x7 - 1)).toNat) Sg.zero).y1) - (o.getD (0 + (IntKind.i64.wrap (x7 - 1)).toNat) Sg.zero).y0))).fst.y1]) (x6) (IntKind.i64.wrap (x7 + 1)))
 none)
 none)
 none))
 none)
 none)
 none)
 none)
 none)
 none)
 none)
 none)
 none)
 none)
 none)
 none)
 none)
 none)
 none)
 none)
 none)
 none)
 none)
 none)
 none)
 none)
 none)
 none)
 none)
 none)
 none)
 none)
 none)
 none)
 none)
 none)
 none)
 none)
 (bsel ((spotV (unBytes (bytesF s)) p).fst == (spotV (unBytes (bytesF s)) (resSpot [] (unBytes (bytesF s)) p).snd).fst && ((spotV (unBytes (bytesF s)) p).snd.fst == (spotV (unBytes (bytesF s)) (resSpot [] (unBytes (bytesF s)) p).snd).snd.fst && true))
 (bsel (decide (n = n))
 (bsel (decide (n = n))
 (bsel (decide ((↑(n + 1) : Int) * (((32 : Nat) : Int) + 1) ≤ (↑limit : Int)))
 (c4 (s) ((onceV (unBytes (bytesF s)) (onceV (unBytes (bytesF s)) (resSpot [] (unBytes (bytesF s)) (resSpot [] (unBytes (bytesF s)) p).snd).snd 3).snd 6).snd) (n + 1) (fun j ↦ if j < n then F.agg [F.int .i64 (o.getD j Sg.zero).x0, F.int .i64 (o.getD j Sg.zero).y0, F.int .i64 (o.getD j Sg.zero).x1, F.int .i64 (o.getD j Sg.zero).y1] else F.agg [F.int .i64 (segOfV (spotV (unBytes (bytesF s)) p).fst (spotV (unBytes (bytesF s)) p).snd.fst (spotV (unBytes (bytesF s)) (resSpot [] (unBytes (bytesF s)) p).snd).fst (IntKind.i64.wrap ((spotV (unBytes (bytesF s)) (resSpot [] (unBytes (bytesF s)) p).snd).snd.fst + 1))).fst.x0, F.int .i64 (segOfV (spotV (unBytes (bytesF s)) p).fst (spotV (unBytes (bytesF s)) p).snd.fst (spotV (unBytes (bytesF s)) (resSpot [] (unBytes (bytesF s)) p).snd).fst (IntKind.i64.wrap ((spotV (unBytes (bytesF s)) (resSpot [] (unBytes (bytesF s)) p).snd).snd.fst + 1))).fst.y0, F.int .i64 (segOfV (spotV (unBytes (bytesF s)) p).fst (spotV (unBytes (bytesF s)) p).snd.fst (spotV (unBytes (bytesF s)) (resSpot [] (unBytes (bytesF s)) p).snd).fst (IntKind.i64.wrap ((spotV (unBytes (bytesF s)) (resSpot [] (unBytes (bytesF s)) p).snd).snd.fst + 1))).fst.x1, F.int .i64 (segOfV (spotV (unBytes (bytesF s)) p).fst (spotV (unBytes (bytesF s)) p).snd.fst (spotV (unBytes (bytesF s)) (resSpot [] (unBytes (bytesF s)) p).snd).fst (IntKind.i64.wrap ((spotV (unBytes (bytesF s)) (resSpot [] (unBytes (bytesF s)) p).snd).snd.fst + 1))).fst.y1]) (x6) (IntKind.i64.wrap (x7 + 1)))
 none)
 none)
 none)
 (bsel (decide (n = n))
 (bsel (decide (n = n))
 (bsel (decide ((↑(n + 1) : Int) * (((32 : Nat) : Int) + 1) ≤ (↑limit : Int)))
 (c4 (s) ((onceV (unBytes (bytesF s)) (onceV (unBytes (bytesF s)) (resSpot [] (unBytes (bytesF s)) (resSpot [] (unBytes (bytesF s)) p).snd).snd 3).snd 6).snd) (n + 1) (fun j ↦ if j < n then F.agg [F.int .i64 (o.getD j Sg.zero).x0, F.int .i64 (o.getD j Sg.zero).y0, F.int .i64 (o.getD j Sg.zero).x1, F.int .i64 (o.getD j Sg.zero).y1] else F.agg [F.int .i64 (segOfV (spotV (unBytes (bytesF s)) p).fst (spotV (unBytes (bytesF s)) p).snd.fst (spotV (unBytes (bytesF s)) (resSpot [] (unBytes (bytesF s)) p).snd).fst (spotV (unBytes (bytesF s)) (resSpot [] (unBytes (bytesF s)) p).snd).snd.fst).fst.x0, F.int .i64 (segOfV (spotV (unBytes (bytesF s)) p).fst (spotV (unBytes (bytesF s)) p).snd.fst (spotV (unBytes (bytesF s)) (resSpot [] (unBytes (bytesF s)) p).snd).fst (spotV (unBytes (bytesF s)) (resSpot [] (unBytes (bytesF s)) p).snd).snd.fst).fst.y0, F.int .i64 (segOfV (spotV (unBytes (bytesF s)) p).fst (spotV (unBytes (bytesF s)) p).snd.fst (spotV (unBytes (bytesF s)) (resSpot [] (unBytes (bytesF s)) p).snd).fst (spotV (unBytes (bytesF s)) (resSpot [] (unBytes (bytesF s)) p).snd).snd.fst).fst.x1, F.int .i64 (segOfV (spotV (unBytes (bytesF s)) p).fst (spotV (unBytes (bytesF s)) p).snd.fst (spotV (unBytes (bytesF s)) (resSpot [] (unBytes (bytesF s)) p).snd).fst (spotV (unBytes (bytesF s)) (resSpot [] (unBytes (bytesF s)) p).snd).snd.fst).fst.y1]) (x6) (IntKind.i64.wrap (x7 + 1)))
 none)
 none)
 none)))
 none)
 (bsel ((spotV (unBytes (bytesF s)) p).fst == (spotV (unBytes (bytesF s)) (resSpot [] (unBytes (bytesF s)) p).snd).fst && ((spotV (unBytes (bytesF s)) p).snd.fst == (spotV (unBytes (bytesF s)) (resSpot [] (unBytes (bytesF s)) p).snd).snd.fst && true))
 (bsel (decide (n = n))
 (bsel (decide (n = n))
 (bsel (decide ((↑(n + 1) : Int) * (((32 : Nat) : Int) + 1) ≤ (↑limit : Int)))
 (c4 (s) ((onceV (unBytes (bytesF s)) (resSpot [] (unBytes (bytesF s)) (resSpot [] (unBytes (bytesF s)) p).snd).snd 3).snd) (n + 1) (fun j ↦ if j < n then F.agg [F.int .i64 (o.getD j Sg.zero).x0, F.int .i64 (o.getD j Sg.zero).y0, F.int .i64 (o.getD j Sg.zero).x1, F.int .i64 (o.getD j Sg.zero).y1] else F.agg [F.int .i64 (segOfV (spotV (unBytes (bytesF s)) p).fst (spotV (unBytes (bytesF s)) p).snd.fst (spotV (unBytes (bytesF s)) (resSpot [] (unBytes (bytesF s)) p).snd).fst (IntKind.i64.wrap ((spotV (unBytes (bytesF s)) (resSpot [] (unBytes (bytesF s)) p).snd).snd.fst + 1))).fst.x0, F.int .i64 (segOfV (spotV (unBytes (bytesF s)) p).fst (spotV (unBytes (bytesF s)) p).snd.fst (spotV (unBytes (bytesF s)) (resSpot [] (unBytes (bytesF s)) p).snd).fst (IntKind.i64.wrap ((spotV (unBytes (bytesF s)) (resSpot [] (unBytes (bytesF s)) p).snd).snd.fst + 1))).fst.y0, F.int .i64 (segOfV (spotV (unBytes (bytesF s)) p).fst (spotV (unBytes (bytesF s)) p).snd.fst (spotV (unBytes (bytesF s)) (resSpot [] (unBytes (bytesF s)) p).snd).fst (IntKind.i64.wrap ((spotV (unBytes (bytesF s)) (resSpot [] (unBytes (bytesF s)) p).snd).snd.fst + 1))).fst.x1, F.int .i64 (segOfV (spotV (unBytes (bytesF s)) p).fst (spotV (unBytes (bytesF s)) p).snd.fst (spotV (unBytes (bytesF s)) (resSpot [] (unBytes (bytesF s)) p).snd).fst (IntKind.i64.wrap ((spotV (unBytes (bytesF s)) (resSpot [] (unBytes (bytesF s)) p).snd).snd.fst + 1))).fst.y1]) (x6) (IntKind.i64.wrap (x7 + 1)))
 none)
 none)
 none)
 (bsel (decide (n = n))
 (bsel (decide (n = n))
 (bsel (decide ((↑(n + 1) : Int) * (((32 : Nat) : Int) + 1) ≤ (↑limit : Int)))
 (c4 (s) ((onceV (unBytes (bytesF s)) (resSpot [] (unBytes (bytesF s)) (resSpot [] (unBytes (bytesF s)) p).snd).snd 3).snd) (n + 1) (fun j ↦ if j < n then F.agg [F.int .i64 (o.getD j Sg.zero).x0, F.int .i64 (o.getD j Sg.zero).y0, F.int .i64 (o.getD j Sg.zero).x1, F.int .i64 (o.getD j Sg.zero).y1] else F.agg [F.int .i64 (segOfV (spotV (unBytes (bytesF s)) p).fst (spotV (unBytes (bytesF s)) p).snd.fst (spotV (unBytes (bytesF s)) (resSpot [] (unBytes (bytesF s)) p).snd).fst (spotV (unBytes (bytesF s)) (resSpot [] (unBytes (bytesF s)) p).snd).snd.fst).fst.x0, F.int .i64 (segOfV (spotV (unBytes (bytesF s)) p).fst (spotV (unBytes (bytesF s)) p).snd.fst (spotV (unBytes (bytesF s)) (resSpot [] (unBytes (bytesF s)) p).snd).fst (spotV (unBytes (bytesF s)) (resSpot [] (unBytes (bytesF s)) p).snd).snd.fst).fst.y0, F.int .i64 (segOfV (spotV (unBytes (bytesF s)) p).fst (spotV (unBytes (bytesF s)) p).snd.fst (spotV (unBytes (bytesF s)) (resSpot [] (unBytes (bytesF s)) p).snd).fst (spotV (unBytes (bytesF s)) (resSpot [] (unBytes (bytesF s)) p).snd).snd.fst).fst.x1, F.int .i64 (segOfV (spotV (unBytes (bytesF s)) p).fst (spotV (unBytes (bytesF s)) p).snd.fst (spotV (unBytes (bytesF s)) (resSpot [] (unBytes (bytesF s)) p).snd).fst (spotV (unBytes (bytesF s)) (resSpot [] (unBytes (bytesF s)) p).snd).snd.fst).fst.y1]) (x6) (IntKind.i64.wrap (x7 + 1)))
 none)
 none)
 none))))
 none)
 (bsel (decide (x7 > 0) == true)
 (bsel (isBytes (bytesF s) && rdOk (unBytes (bytesF s)) (resSpot [] (unBytes (bytesF s)) (resSpot [] (unBytes (bytesF s)) p).snd).snd)
 (bsel ((onceV (unBytes (bytesF s)) (resSpot [] (unBytes (bytesF s)) (resSpot [] (unBytes (bytesF s)) p).snd).snd 6).fst)
 (bsel (decide (n = n))
 (bsel (decide (0 ≤ IntKind.i64.wrap (x7 - 1)))
 (bsel (decide (IntKind.i64.wrap (x7 - 1) < (↑n : Int)))
 (bsel (decide (n = n))
 (bsel (decide (n = n))
 (bsel (decide (0 + (IntKind.i64.wrap (x7 - 1)).toNat < n))
 (bsel (decide (n = n))
 (bsel (decide (0 ≤ IntKind.i64.wrap (x7 - 1)))
 (bsel (decide (IntKind.i64.wrap (x7 - 1) < (↑n : Int)))
 (bsel (decide (n = n))
 (bsel (decide (n = n))
 (bsel (decide (n = n))
 (bsel (decide (0 + (IntKind.i64.wrap (x7 - 1)).toNat < n))
 (bsel (decide (n = n))
 (bsel (decide (0 ≤ IntKind.i64.wrap (x7 - 1)))
 (bsel (decide (IntKind.i64.wrap (x7 - 1) < (↑n : Int)))
 (bsel (decide (n = n))
 (bsel (decide (n = n))
 (bsel (decide (n = n))
 (bsel (decide (0 + (IntKind.i64.wrap (x7 - 1)).toNat < n))
 (bsel (decide (n = n))
 (bsel (decide (0 ≤ IntKind.i64.wrap (x7 - 1)))
 (bsel (decide (IntKind.i64.wrap (x7 - 1) < (↑n : Int)))
 (bsel (decide (n = n))
 (bsel (decide (n = n))
 (bsel (decide (n = n))
 (bsel (decide (0 + (IntKind.i64.wrap (x7 - 1)).toNat < n))
 (bsel (decide (n = n))
 (bsel (decide (0 ≤ IntKind.i64.wrap (x7 - 1)))
 (bsel (decide (IntKind.i64.wrap (x7 - 1) < (↑n : Int)))
 (bsel (decide (n = n))
 (bsel (decide (n = n))
 (bsel (decide (n = n))
 (bsel (decide (0 + (IntKind.i64.wrap (x7 - 1)).toNat < n))
 (bsel ((o.getD (0 + (IntKind.i64.wrap (x7 - 1)).toNat) Sg.zero).x0 == IntKind.i64.wrap (IntKind.i64.wrap (2 * (o.getD (0 + (IntKind.i64.wrap (x7 - 1)).toNat) Sg.zero).x1) - (o.getD (0 + (IntKind.i64.wrap (x7 - 1)).toNat) Sg.zero).x0) && ((o.getD (0 + (IntKind.i64.wrap (x7 - 1)).toNat) Sg.zero).y0 == IntKind.i64.wrap (IntKind.i64.wrap (2 * (o.getD (0 + (IntKind.i64.wrap (x7 - 1)).toNat) Sg.zero).y1) - (o.getD (0 + (IntKind.i64.wrap (x7 - 1)).toNat) Sg.zero).y0) && true))
 (bsel (decide (n = n))
 (bsel (decide (n = n))
 (bsel (decide ((↑(n + 1) : Int) * (((32 : Nat) : Int) + 1) ≤ (↑limit : Int)))
 (c4 (s) ((onceV (unBytes (bytesF s)) (resSpot [] (unBytes (bytesF s)) (resSpot [] (unBytes (bytesF s)) p).snd).snd 6).snd) (n + 1) (fun j ↦ if j < n then F.agg [F.int .i64 (o.getD j Sg.zero).x0, F.int .i64 (o.getD j Sg.zero).y0, F.int .i64 (o.getD j Sg.zero).x1, F.int .i64 (o.getD j Sg.zero).y1] else F.agg [F.int .i64 (segOfV (o.getD (0 + (IntKind.i64.wrap (x7 - 1)).toNat) Sg.zero).x0 (o.getD (0 + (IntKind.i64.wrap (x7 - 1)).toNat) Sg.zero).y0 (IntKind.i64.wrap (IntKind.i64.wrap (2 * (o.getD (0 + (IntKind.i64.wrap (x7 - 1)).toNat) Sg.zero).x1) - (o.getD (0 + (IntKind.i64.wrap (x7 - 1)).toNat) Sg.zero).x0)) (IntKind.i64.wrap (IntKind.i64.wrap (IntKind.i64.wrap (2 * (o.getD (0 + (IntKind.i64.wrap (x7 - 1)).toNat) Sg.zero).y1) - (o.getD (0 + (IntKind.i64.wrap (x7 - 1)).toNat) Sg.zero).y0) + 1))).fst.x0, F.int .i64 (segOfV (o.getD (0 + (IntKind.i64.wrap (x7 - 1)).toNat) Sg.zero).x0 (o.getD (0 + (IntKind.i64.wrap (x7 - 1)).toNat) Sg.zero).y0 (IntKind.i64.wrap (IntKind.i64.wrap (2 * (o.getD (0 + (IntKind.i64.wrap (x7 - 1)).toNat) Sg.zero).x1) - (o.getD (0 + (IntKind.i64.wrap (x7 - 1)).toNat) Sg.zero).x0)) (IntKind.i64.wrap (IntKind.i64.wrap (IntKind.i64.wrap (2 * (o.getD (0 + (IntKind.i64.wrap (x7 - 1)).toNat) Sg.zero).y1) - (o.getD (0 + (IntKind.i64.wrap (x7 - 1)).toNat) Sg.zero).y0) + 1))).fst.y0, F.int .i64 (segOfV (o.getD (0 + (IntKind.i64.wrap (x7 - 1)).toNat) Sg.zero).x0 (o.getD (0 + (IntKind.i64.wrap (x7 - 1)).toNat) Sg.zero).y0 (IntKind.i64.wrap (IntKind.i64.wrap (2 * (o.getD (0 + (IntKind.i64.wrap (x7 - 1)).toNat) Sg.zero).x1) - (o.getD (0 + (IntKind.i64.wrap (x7 - 1)).toNat) Sg.zero).x0)) (IntKind.i64.wrap (IntKind.i64.wrap (IntKind.i64.wrap (2 * (o.getD (0 + (IntKind.i64.wrap (x7 - 1)).toNat) Sg.zero).y1) - (o.getD (0 + (IntKind.i64.wrap (x7 - 1)).toNat) Sg.zero).y0) + 1))).fst.x1, F.int .i64 (segOfV (o.getD (0 + (IntKind.i64.wrap (x7 - 1)).toNat) Sg.zero).x0 (o.getD (0 + (IntKind.i64.wrap (x7 - 1)).toNat) Sg.zero).y0 (IntKind.i64.wrap (IntKind.i64.wrap (2 * (o.getD (0 + (IntKind.i64.wrap (x7 - 1)).toNat) Sg.zero).x1) - (o.getD (0 + (IntKind.i64.wrap (x7 - 1)).toNat) Sg.zero).x0)) (IntKind.i64.wrap (IntKind.i64.wrap (IntKind.i64.wrap (2 * (o.getD (0 + (IntKind.i64.wrap (x7 - 1)).toNat) Sg.zero).y1) - (o.getD (0 + (IntKind.i64.wrap (x7 - 1)).toNat) Sg.zero).y0) + 1))).fst.y1]) (x6) (IntKind.i64.wrap (x7 + 1)))
 none)
 none)
 none)
 (bsel (decide (n = n))
 (bsel (decide (n = n))
 (bsel (decide ((↑(n + 1) : Int) * (((32 : Nat) : Int) + 1) ≤ (↑limit : Int)))
 (c4 (s) ((onceV (unBytes (bytesF s)) (resSpot [] (unBytes (bytesF s)) (resSpot [] (unBytes (bytesF s)) p).snd).snd 6).snd) (n + 1) (fun j ↦ if j < n then F.agg [F.int .i64 (o.getD j Sg.zero).x0, F.int .i64 (o.getD j Sg.zero).y0, F.int .i64 (o.getD j Sg.zero).x1, F.int .i64 (o.getD j Sg.zero).y1] else F.agg [F.int .i64 (segOfV (o.getD (0 + (IntKind.i64.wrap (x7 - 1)).toNat) Sg.zero).x0 (o.getD (0 + (IntKind.i64.wrap (x7 - 1)).toNat) Sg.zero).y0 (IntKind.i64.wrap (IntKind.i64.wrap (2 * (o.getD (0 + (IntKind.i64.wrap (x7 - 1)).toNat) Sg.zero).x1) - (o.getD (0 + (IntKind.i64.wrap (x7 - 1)).toNat) Sg.zero).x0)) (IntKind.i64.wrap (IntKind.i64.wrap (2 * (o.getD (0 + (IntKind.i64.wrap (x7 - 1)).toNat) Sg.zero).y1) - (o.getD (0 + (IntKind.i64.wrap (x7 - 1)).toNat) Sg.zero).y0))).fst.x0, F.int .i64 (segOfV (o.getD (0 + (IntKind.i64.wrap (x7 - 1)).toNat) Sg.zero).x0 (o.getD (0 + (IntKind.i64.wrap (x7 - 1)).toNat) Sg.zero).y0 (IntKind.i64.wrap (IntKind.i64.wrap (2 * (o.getD (0 + (IntKind.i64.wrap (x7 - 1)).toNat) Sg.zero).x1) - (o.getD (0 + (IntKind.i64.wrap (x7 - 1)).toNat) Sg.zero).x0)) (IntKind.i64.wrap (IntKind.i64.wrap (2 * (o.getD (0 + (IntKind.i64.wrap (x7 - 1)).toNat) Sg.zero).y1) - (o.getD (0 + (IntKind.i64.wrap (x7 - 1)).toNat) Sg.zero).y0))).fst.y0, F.int .i64 (segOfV (o.getD (0 + (IntKind.i64.wrap (x7 - 1)).toNat) Sg.zero).x0 (o.getD (0 + (IntKind.i64.wrap (x7 - 1)).toNat) Sg.zero).y0 (IntKind.i64.wrap (IntKind.i64.wrap (2 * (o.getD (0 + (IntKind.i64.wrap (x7 - 1)).toNat) Sg.zero).x1) - (o.getD (0 + (IntKind.i64.wrap (x7 - 1)).toNat) Sg.zero).x0)) (IntKind.i64.wrap (IntKind.i64.wrap (2 * (o.getD (0 + (IntKind.i64.wrap (x7 - 1)).toNat) Sg.zero).y1) - (o.getD (0 + (IntKind.i64.wrap (x7 - 1)).toNat) Sg.zero).y0))).fst.x1, F.int .i64 (segOfV (o.getD (0 + (IntKind.i64.wrap (x7 - 1)).toNat) Sg.zero).x0 (o.getD (0 + (IntKind.i64.wrap (x7 - 1)).toNat) Sg.zero).y0 (IntKind.i64.wrap (IntKind.i64.wrap (2 * (o.getD (0 + (IntKind.i64.wrap (x7 - 1)).toNat) Sg.zero).x1) - (o.getD (0 + (IntKind.i64.wrap (x7 - 1)).toNat) Sg.zero).x0)) (IntKind.i64.wrap (IntKind.i64.wrap (2 * (o.getD (0 + (IntKind.i64.wrap (x7 - 1)).toNat) Sg.zero).y1) - (o.getD (0 + (IntKind.i64.wrap (x7 - 1)).toNat) Sg.zero).y0))).fst.y1]) (x6) (IntKind.i64.wrap (x7 + 1)))
 none)
 none)
 none))
 none)
 none)
 none)
 none)
 none)
 none)
 none)
 none)
 none)
 none)
 none)
 none)
 none)
 none)
 none)
 none)
 none)
 none)
 none)
 none)
 none)
 none)
 none)
 none)
 none)
 none)
 none)
 none)
 none)
 none)
 none)
 none)
 none)
 none)
 (bsel ((spotV (unBytes (bytesF s)) p).fst == (spotV (unBytes (bytesF s)) (resSpot [] (unBytes (bytesF s)) p).snd).fst && ((spotV (unBytes (bytesF s)) p).snd.fst == (spotV (unBytes (bytesF s)) (resSpot [] (unBytes (bytesF s)) p).snd).snd.fst && true))
 (bsel (decide (n = n))
 (bsel (decide (n = n))
 (bsel (decide ((↑(n + 1) : Int) * (((32 : Nat) : Int) + 1) ≤ (↑limit : Int)))
 (c4 (s) ((onceV (unBytes (bytesF s)) (resSpot [] (unBytes (bytesF s)) (resSpot [] (unBytes (bytesF s)) p).snd).snd 6).snd) (n + 1) (fun j ↦ if j < n then F.agg [F.int .i64 (o.getD j Sg.zero).x0, F.int .i64 (o.getD j Sg.zero).y0, F.int .i64 (o.getD j Sg.zero).x1, F.int .i64 (o.getD j Sg.zero).y1] else F.agg [F.int .i64 (segOfV (spotV (unBytes (bytesF s)) p).fst (spotV (unBytes (bytesF s)) p).snd.fst (spotV (unBytes (bytesF s)) (resSpot [] (unBytes (bytesF s)) p).snd).fst (IntKind.i64.wrap ((spotV (unBytes (bytesF s)) (resSpot [] (unBytes (bytesF s)) p).snd).snd.fst + 1))).fst.x0, F.int .i64 (segOfV (spotV (unBytes (bytesF s)) p).fst (spotV (unBytes (bytesF s)) p).snd.fst (spotV (unBytes (bytesF s)) (resSpot [] (unBytes (bytesF s)) p).snd).fst (IntKind.i64.wrap ((spotV (unBytes (bytesF s)) (resSpot [] (unBytes (bytesF s)) p).snd).snd.fst + 1))).fst.y0, F.int .i64 (segOfV (spotV (unBytes (bytesF s)) p).fst (spotV (unBytes (bytesF s)) p).snd.fst (spotV (unBytes (bytesF s)) (resSpot [] (unBytes (bytesF s)) p).snd).fst (IntKind.i64.wrap ((spotV (unBytes (bytesF s)) (resSpot [] (unBytes (bytesF s)) p).snd).snd.fst + 1))).fst.x1, F.int .i64 (segOfV (spotV (unBytes (bytesF s)) p).fst (spotV (unBytes (bytesF s)) p).snd.fst (spotV (unBytes (bytesF s)) (resSpot [] (unBytes (bytesF s)) p).snd).fst (IntKind.i64.wrap ((spotV (unBytes (bytesF s)) (resSpot [] (unBytes (bytesF s)) p).snd).snd.fst + 1))).fst.y1]) (x6) (IntKind.i64.wrap (x7 + 1)))
 none)
 none)
 none)
 (bsel (decide (n = n))
 (bsel (decide (n = n))
 (bsel (decide ((↑(n + 1) : Int) * (((32 : Nat) : Int) + 1) ≤ (↑limit : Int)))
 (c4 (s) ((onceV (unBytes (bytesF s)) (resSpot [] (unBytes (bytesF s)) (resSpot [] (unBytes (bytesF s)) p).snd).snd 6).snd) (n + 1) (fun j ↦ if j < n then F.agg [F.int .i64 (o.getD j Sg.zero).x0, F.int .i64 (o.getD j Sg.zero).y0, F.int .i64 (o.getD j Sg.zero).x1, F.int .i64 (o.getD j Sg.zero).y1] else F.agg [F.int .i64 (segOfV (spotV (unBytes (bytesF s)) p).fst (spotV (unBytes (bytesF s)) p).snd.fst (spotV (unBytes (bytesF s)) (resSpot [] (unBytes (bytesF s)) p).snd).fst (spotV (unBytes (bytesF s)) (resSpot [] (unBytes (bytesF s)) p).snd).snd.fst).fst.x0, F.int .i64 (segOfV (spotV (unBytes (bytesF s)) p).fst (spotV (unBytes (bytesF s)) p).snd.fst (spotV (unBytes (bytesF s)) (resSpot [] (unBytes (bytesF s)) p).snd).fst (spotV (unBytes (bytesF s)) (resSpot [] (unBytes (bytesF s)) p).snd).snd.fst).fst.y0, F.int .i64 (segOfV (spotV (unBytes (bytesF s)) p).fst (spotV (unBytes (bytesF s)) p).snd.fst (spotV (unBytes (bytesF s)) (resSpot [] (unBytes (bytesF s)) p).snd).fst (spotV (unBytes (bytesF s)) (resSpot [] (unBytes (bytesF s)) p).snd).snd.fst).fst.x1, F.int .i64 (segOfV (spotV (unBytes (bytesF s)) p).fst (spotV (unBytes (bytesF s)) p).snd.fst (spotV (unBytes (bytesF s)) (resSpot [] (unBytes (bytesF s)) p).snd).fst (spotV (unBytes (bytesF s)) (resSpot [] (unBytes (bytesF s)) p).snd).snd.fst).fst.y1]) (x6) (IntKind.i64.wrap (x7 + 1)))
 none)
 none)
 none)))
 none)
 (bsel ((spotV (unBytes (bytesF s)) p).fst == (spotV (unBytes (bytesF s)) (resSpot [] (unBytes (bytesF s)) p).snd).fst && ((spotV (unBytes (bytesF s)) p).snd.fst == (spotV (unBytes (bytesF s)) (resSpot [] (unBytes (bytesF s)) p).snd).snd.fst && true))
 (bsel (decide (n = n))
 (bsel (decide (n = n))
 (bsel (decide ((↑(n + 1) : Int) * (((32 : Nat) : Int) + 1) ≤ (↑limit : Int)))
 (c4 (s) ((resSpot [] (unBytes (bytesF s)) (resSpot [] (unBytes (bytesF s)) p).snd).snd) (n + 1) (fun j ↦ if j < n then F.agg [F.int .i64 (o.getD j Sg.zero).x0, F.int .i64 (o.getD j Sg.zero).y0, F.int .i64 (o.getD j Sg.zero).x1, F.int .i64 (o.getD j Sg.zero).y1] else F.agg [F.int .i64 (segOfV (spotV (unBytes (bytesF s)) p).fst (spotV (unBytes (bytesF s)) p).snd.fst (spotV (unBytes (bytesF s)) (resSpot [] (unBytes (bytesF s)) p).snd).fst (IntKind.i64.wrap ((spotV (unBytes (bytesF s)) (resSpot [] (unBytes (bytesF s)) p).snd).snd.fst + 1))).fst.x0, F.int .i64 (segOfV (spotV (unBytes (bytesF s)) p).fst (spotV (unBytes (bytesF s)) p).snd.fst (spotV (unBytes (bytesF s)) (resSpot [] (unBytes (bytesF s)) p).snd).fst (IntKind.i64.wrap ((spotV (unBytes (bytesF s)) (resSpot [] (unBytes (bytesF s)) p).snd).snd.fst + 1))).fst.y0, F.int .i64 (segOfV (spotV (unBytes (bytesF s)) p).fst (spotV (unBytes (bytesF s)) p).snd.fst (spotV (unBytes (bytesF s)) (resSpot [] (unBytes (bytesF s)) p).snd).fst (IntKind.i64.wrap ((spotV (unBytes (bytesF s)) (resSpot [] (unBytes (bytesF s)) p).snd).snd.fst + 1))).fst.x1, F.int .i64 (segOfV (spotV (unBytes (bytesF s)) p).fst (spotV (unBytes (bytesF s)) p).snd.fst (spotV (unBytes (bytesF s)) (resSpot [] (unBytes (bytesF s)) p).snd).fst (IntKind.i64.wrap ((spotV (unBytes (bytesF s)) (resSpot [] (unBytes (bytesF s)) p).snd).snd.fst + 1))).fst.y1]) (x6) (IntKind.i64.wrap (x7 + 1)))
 none)
 none)
 none)
 (bsel (decide (n = n))
 (bsel (decide (n = n))
 (bsel (decide ((↑(n + 1) : Int) * (((32 : Nat) : Int) + 1) ≤ (↑limit : Int)))
 (c4 (s) ((resSpot [] (unBytes (bytesF s)) (resSpot [] (unBytes (bytesF s)) p).snd).snd) (n + 1) (fun j ↦ if j < n then F.agg [F.int .i64 (o.getD j Sg.zero).x0, F.int .i64 (o.getD j Sg.zero).y0, F.int .i64 (o.getD j Sg.zero).x1, F.int .i64 (o.getD j Sg.zero).y1] else F.agg [F.int .i64 (segOfV (spotV (unBytes (bytesF s)) p).fst (spotV (unBytes (bytesF s)) p).snd.fst (spotV (unBytes (bytesF s)) (resSpot [] (unBytes (bytesF s)) p).snd).fst (spotV (unBytes (bytesF s)) (resSpot [] (unBytes (bytesF s)) p).snd).snd.fst).fst.x0, F.int .i64 (segOfV (spotV (unBytes (bytesF s)) p).fst (spotV (unBytes (bytesF s)) p).snd.fst (spotV (unBytes (bytesF s)) (resSpot [] (unBytes (bytesF s)) p).snd).fst (spotV (unBytes (bytesF s)) (resSpot [] (unBytes (bytesF s)) p).snd).snd.fst).fst.y0, F.int .i64 (segOfV (spotV (unBytes (bytesF s)) p).fst (spotV (unBytes (bytesF s)) p).snd.fst (spotV (unBytes (bytesF s)) (resSpot [] (unBytes (bytesF s)) p).snd).fst (spotV (unBytes (bytesF s)) (resSpot [] (unBytes (bytesF s)) p).snd).snd.fst).fst.x1, F.int .i64 (segOfV (spotV (unBytes (bytesF s)) p).fst (spotV (unBytes (bytesF s)) p).snd.fst (spotV (unBytes (bytesF s)) (resSpot [] (unBytes (bytesF s)) p).snd).fst (spotV (unBytes (bytesF s)) (resSpot [] (unBytes (bytesF s)) p).snd).snd.fst).fst.y1]) (x6) (IntKind.i64.wrap (x7 + 1)))
 none)
 none)
 none))))
 none)
 none)
 (bsel (isBytes (bytesF s) && rdOk (unBytes (bytesF s)) p)
 (bsel ((onceV (unBytes (bytesF s)) p 40).fst == true)
 (bsel (decide (x6 > 0))
 (bsel (isBytes (bytesF s) && rdOk (unBytes (bytesF s)) (onceV (unBytes (bytesF s)) p 40).snd)
 (bsel (isBytes (bytesF s) && rdOk (unBytes (bytesF s)) (belowV (unBytes (bytesF s)) (onceV (unBytes (bytesF s)) p 40).snd x6).snd && true)
 (bsel (decide (n = n))
 (bsel (decide (0 ≤ (belowV (unBytes (bytesF s)) (onceV (unBytes (bytesF s)) p 40).snd x6).fst))
 (bsel (decide ((belowV (unBytes (bytesF s)) (onceV (unBytes (bytesF s)) p 40).snd x6).fst < (↑n : Int)))
 (bsel (decide (n = n))
 (bsel (decide (0 + (belowV (unBytes (bytesF s)) (onceV (unBytes (bytesF s)) p 40).snd x6).fst.toNat < n))
 (bsel (decide (n = n))
 (ret (n) (fun j ↦ if j = 0 + (belowV (unBytes (bytesF s)) (onceV (unBytes (bytesF s)) p 40).snd x6).fst.toNat then F.agg [F.int .i64 (segV (unBytes (bytesF s)) (belowV (unBytes (bytesF s)) (onceV (unBytes (bytesF s)) p 40).snd x6).snd).fst, F.int .i64 (segV (unBytes (bytesF s)) (belowV (unBytes (bytesF s)) (onceV (unBytes (bytesF s)) p 40).snd x6).snd).snd.fst, F.int .i64 (segV (unBytes (bytesF s)) (belowV (unBytes (bytesF s)) (onceV (unBytes (bytesF s)) p 40).snd x6).snd).snd.snd.fst, F.int .i64 (segV (unBytes (bytesF s)) (belowV (unBytes (bytesF s)) (onceV (unBytes (bytesF s)) p 40).snd x6).snd).snd.snd.snd.fst] else F.agg [F.int .i64 (o.getD j Sg.zero).x0, F.int .i64 (o.getD j Sg.zero).y0, F.int .i64 (o.getD j Sg.zero).x1, F.int .i64 (o.getD j Sg.zero).y1]) ((resSegR [] (unBytes (bytesF s)) (belowV (unBytes (bytesF s)) (onceV (unBytes (bytesF s)) p 40).snd x6).snd).snd))
 none)
 none)
 none)
 none)
 none)
 none)
 none)
 none)
 (bsel (decide (n = n))
 (ret (n) (fun i ↦ F.agg [F.int .i64 (o.getD i Sg.zero).x0, F.int .i64 (o.getD i Sg.zero).y0, F.int .i64 (o.getD i Sg.zero).x1, F.int .i64 (o.getD i Sg.zero).y1]) ((onceV (unBytes (bytesF s)) p 40).snd))
 none))
 (bsel (decide (n = n))
 (ret (n) (fun i ↦ F.agg [F.int .i64 (o.getD i Sg.zero).x0, F.int .i64 (o.getD i Sg.zero).y0, F.int .i64 (o.getD i Sg.zero).x1, F.int .i64 (o.getD i Sg.zero).y1]) ((onceV (unBytes (bytesF s)) p 40).snd))
 none))
 none))
def L41_4 : Nat → (ByteArray) → (Int) → (Nat) → (Nat → F) → (Int) → (Int) → Option ((Nat) × (Nat → F) × (Int))
  | 0, _, _, _, _, _, _ => none
  | k + 1, s, p, n, g, x6, x7 => bsel (isSegs (F.sl n g)) (T41_4 (fun rn rg q => some (rn, rg, q)) (L41_4 k) s p n (unSegs (F.sl n g)) x6 x7) none
def T41 {ρ : Type} (ret : (Nat) → (Nat → F) → (Int) → Option ρ) (c4 : (ByteArray) → (Int) → (Nat) → (Nat → F) → (Int) → (Int) → Option ρ) (s : ByteArray) (p : Int) (mx : Int) : Option ρ :=
 (bsel (isBytes (bytesF s) && rdOk (unBytes (bytesF s)) p)
 (c4 (s) ((belowV (unBytes (bytesF s)) p (IntKind.i64.wrap (mx + 1))).snd) (0) (lget []) ((belowV (unBytes (bytesF s)) p (IntKind.i64.wrap (mx + 1))).fst) (0))
 none)
def G41 (k : Nat) (s : ByteArray) (p : Int) (mx : Int) : Option ((Nat) × (Nat → F) × (Int)) := T41 (fun rn rg q => some (rn, rg, q)) (L41_4 k) s p mx
theorem t41_4 : ∀ (k : Nat) (s : ByteArray) (p : Int) (n : Nat) (g : Nat → F) (x6 : Int) (x7 : Int) (rn : Nat) (rg : Nat → F) (q : Int), L41_4 k s p n g x6 x7 = some (rn, rg, q) → EndsN Try.prog 1 Try.f41.results.toList (at_ Try.f41 4) (S41_4 s p n g x6 x7) (F.tup [F.sl rn rg, F.agg [bytesF s, F.int .i64 q]])
  | 0, _, _, _, _, _, _, _, _, _, h => nomatch h
  | k + 1, s, p, n, g, x6, x7, rn, rg, q, h => by
    obtain ⟨hv_g, h⟩ := bsel_some h
    refine Ends.weak (st' := S41_4v s p n (unSegs (F.sl n g)) x6 x7) (UsLe.refl _) (HLe.cons (ObLe.refl _) (HLe.cons (ObLe.arr fun j hj => atSegs hv_g hj) (HLe.nil))) ?_
    generalize unSegs (F.sl n g) = o at h ⊢
    refine Ends.of_cut tyOK envD11_ok (T := [(4, [0, 5, 6, 7], 2)]) (n := 200) ?_
    have e : runCut Try.prog (tiOf Try.prog) envD11 [(4, [0, 5, 6, 7], 2)] 1 Try.f41.results.toList some 200 (at_ Try.f41 4) (S41_4v s p n o x6 x7) = T41_4 (fun rn rg q => some (.ret (F.tup [F.sl rn rg, F.agg [bytesF s, F.int .i64 q]]))) (fun s p n g x6 x7 => some (.cut (at_ Try.f41 4) (S41_4 s p n g x6 x7))) s p n o x6 x7 := by kernel_rfl
    rw [e]
    exact (good_sel h (fun _ h => (good_sel h (fun _ h => (good_sel h (fun _ h => (good_sel h (fun _ h => (good_sel h (fun _ h => (good_sel h (fun _ h => (good_sel h (fun _ h => (good_sel h (fun _ h => (good_sel h (fun _ h => (good_sel h (fun _ h => (good_sel h (fun _ h => (good_sel h (fun _ h => (good_sel h (fun _ h => (good_sel h (fun _ h => (good_sel h (fun _ h => (good_sel h (fun _ h => (good_sel h (fun _ h => (good_sel h (fun _ h => (good_sel h (fun _ h => (good_sel h (fun _ h => (good_sel h (fun _ h => (good_sel h (fun _ h => (good_sel h (fun _ h => (good_sel h (fun _ h => (good_sel h (fun _ h => (good_sel h (fun _ h => (good_sel h (fun _ h => (good_sel h (fun _ h => (good_sel h (fun _ h => (good_sel h (fun _ h => (good_sel h (fun _ h => (good_sel h (fun _ h => (good_sel h (fun _ h => (good_sel h (fun _ h => (good_sel h (fun _ h => (good_sel h (fun _ h => (good_sel h (fun _ h => (good_sel h (fun _ h => (good_sel h (fun _ h => (good_sel h (fun _ h => (good_sel h (fun _ h => (good_sel h (fun _ h => (good_sel h (fun _ h => (good_sel h (fun _ h => (good_sel h (fun _ h => (good_sel h (fun _ h => (good_sel h (fun _ h => (good_sel h (fun _ h => (good_sel h (fun _ h => (good_sel h (fun _ h => (good_sel h (fun _ h => (good_sel h (fun _ h => (good_sel h (fun _ h => good_cut (t41_4 k _ _ _ _ _ _ rn rg q h)) (fun _ h => nomatch h))) (fun _ h => nomatch h))) (fun _ h => nomatch h))) (fun _ h => (good_sel h (fun _ h => (good_sel h (fun _ h => (good_sel h (fun _ h => good_cut (t41_4 k _ _ _ _ _ _ rn rg q h)) (fun _ h => nomatch h))) (fun _ h => nomatch h))) (fun _ h => nomatch h))))) (fun _ h => nomatch h))) (fun _ h => nomatch h))) (fun _ h => nomatch h))) (fun _ h => nomatch h))) (fun _ h => nomatch h))) (fun _ h => nomatch h))) (fun _ h => nomatch h))) (fun _ h => nomatch h))) (fun _ h => nomatch h))) (fun _ h => nomatch h))) (fun _ h => nomatch h))) (fun _ h => nomatch h))) (fun _ h => nomatch h))) (fun _ h => nomatch h))) (fun _ h => nomatch h))) (fun _ h => nomatch h))) (fun _ h => nomatch h))) (fun _ h => nomatch h))) (fun _ h => nomatch h))) (fun _ h => nomatch h))) (fun _ h => nomatch h))) (fun _ h => nomatch h))) (fun _ h => nomatch h))) (fun _ h => nomatch h))) (fun _ h => nomatch h))) (fun _ h => nomatch h))) (fun _ h => nomatch h))) (fun _ h => nomatch h))) (fun _ h => nomatch h))) (fun _ h => nomatch h))) (fun _ h => nomatch h))) (fun _ h => nomatch h))) (fun _ h => nomatch h))) (fun _ h => nomatch h))) (fun _ h => (good_sel h (fun _ h => (good_sel h (fun _ h => (good_sel h (fun _ h => (good_sel h (fun _ h => good_cut (t41_4 k _ _ _ _ _ _ rn rg q h)) (fun _ h => nomatch h))) (fun _ h => nomatch h))) (fun _ h => nomatch h))) (fun _ h => (good_sel h (fun _ h => (good_sel h (fun _ h => (good_sel h (fun _ h => good_cut (t41_4 k _ _ _ _ _ _ rn rg q h)) (fun _ h => nomatch h))) (fun _ h => nomatch h))) (fun _ h => nomatch h))))))) (fun _ h => nomatch h))) (fun _ h => (good_sel h (fun _ h => (good_sel h (fun _ h => (good_sel h (fun _ h => (good_sel h (fun _ h => good_cut (t41_4 k _ _ _ _ _ _ rn rg q h)) (fun _ h => nomatch h))) (fun _ h => nomatch h))) (fun _ h => nomatch h))) (fun _ h => (good_sel h (fun _ h => (good_sel h (fun _ h => (good_sel h (fun _ h => good_cut (t41_4 k _ _ _ _ _ _ rn rg q h)) (fun _ h => nomatch h))) (fun _ h => nomatch h))) (fun _ h => nomatch h))))))) (fun _ h => nomatch h))) (fun _ h => nomatch h))) (fun _ h => nomatch h))) (fun _ h => nomatch h))) (fun _ h => nomatch h))) (fun _ h => nomatch h))) (fun _ h => (good_sel h (fun _ h => (good_sel h (fun _ h => (good_sel h (fun _ h => (good_sel h (fun _ h => (good_sel h (fun _ h => (good_sel h (fun _ h => (good_sel h (fun _ h => (good_sel h (fun _ h => (good_sel h (fun _ h => (good_sel h (fun _ h => (good_sel h (fun _ h => (good_sel h (fun _ h => (good_sel h (fun _ h => (good_sel h (fun _ h => (good_sel h (fun _ h => (good_sel h (fun _ h => (good_sel h (fun _ h => (good_sel h (fun _ h => (good_sel h (fun _ h => (good_sel h (fun _ h => (good_sel h (fun _ h => (good_sel h (fun _ h => (good_sel h (fun _ h => (good_sel h (fun _ h => (good_sel h (fun _ h => (good_sel h (fun _ h => (good_sel h (fun _ h => (good_sel h (fun _ h => (good_sel h (fun _ h => (good_sel h (fun _ h => (good_sel h (fun _ h => (good_sel h (fun _ h => (good_sel h (fun _ h => (good_sel h (fun _ h => (good_sel h (fun _ h => (good_sel h (fun _ h => (good_sel h (fun _ h => (good_sel h (fun _ h => (good_sel h (fun _ h => (good_sel h (fun _ h => (good_sel h (fun _ h => good_cut (t41_4 k _ _ _ _ _ _ rn rg q h)) (fun _ h => nomatch h))) (fun _ h => nomatch h))) (fun _ h => nomatch h))) (fun _ h => (good_sel h (fun _ h => (good_sel h (fun _ h => (good_sel h (fun _ h => good_cut (t41_4 k _ _ _ _ _ _ rn rg q h)) (fun _ h => nomatch h))) (fun _ h => nomatch h))) (fun _ h => nomatch h))))) (fun _ h => nomatch h))) (fun _ h => nomatch h))) (fun _ h => nomatch h))) (fun _ h => nomatch h))) (fun _ h => nomatch h))) (fun _ h => nomatch h))) (fun _ h => nomatch h))) (fun _ h => nomatch h))) (fun _ h => nomatch h))) (fun _ h => nomatch h))) (fun _ h => nomatch h))) (fun _ h => nomatch h))) (fun _ h => nomatch h))) (fun _ h => nomatch h))) (fun _ h => nomatch h))) (fun _ h => nomatch h))) (fun _ h => nomatch h))) (fun _ h => nomatch h))) (fun _ h => nomatch h))) (fun _ h => nomatch h))) (fun _ h => nomatch h))) (fun _ h => nomatch h))) (fun _ h => nomatch h))) (fun _ h => nomatch h))) (fun _ h => nomatch h))) (fun _ h => nomatch h))) (fun _ h => nomatch h))) (fun _ h => nomatch h))) (fun _ h => nomatch h))) (fun _ h => nomatch h))) (fun _ h => nomatch h))) (fun _ h => nomatch h))) (fun _ h => nomatch h))) (fun _ h => nomatch h))) (fun _ h => (good_sel h (fun _ h => (good_sel h (fun _ h => (good_sel h (fun _ h => (good_sel h (fun _ h => good_cut (t41_4 k _ _ _ _ _ _ rn rg q h)) (fun _ h => nomatch h))) (fun _ h => nomatch h))) (fun _ h => nomatch h))) (fun _ h => (good_sel h (fun _ h => (good_sel h (fun _ h => (good_sel h (fun _ h => good_cut (t41_4 k _ _ _ _ _ _ rn rg q h)) (fun _ h => nomatch h))) (fun _ h => nomatch h))) (fun _ h => nomatch h))))))) (fun _ h => nomatch h))) (fun _ h => (good_sel h (fun _ h => (good_sel h (fun _ h => (good_sel h (fun _ h => (good_sel h (fun _ h => good_cut (t41_4 k _ _ _ _ _ _ rn rg q h)) (fun _ h => nomatch h))) (fun _ h => nomatch h))) (fun _ h => nomatch h))) (fun _ h => (good_sel h (fun _ h => (good_sel h (fun _ h => (good_sel h (fun _ h => good_cut (t41_4 k _ _ _ _ _ _ rn rg q h)) (fun _ h => nomatch h))) (fun _ h => nomatch h))) (fun _ h => nomatch h))))))))) (fun _ h => nomatch h))) (fun _ h => (good_sel h (fun _ h => (good_sel h (fun _ h => (good_sel h (fun _ h => (good_sel h (fun _ h => (good_sel h (fun _ h => (good_sel h (fun _ h => (good_sel h (fun _ h => (good_sel h (fun _ h => (good_sel h (fun _ h => (good_sel h (fun _ h => (good_sel h (fun _ h => (good_sel h (fun _ h => (good_sel h (fun _ h => (good_sel h (fun _ h => (good_sel h (fun _ h => (good_sel h (fun _ h => (good_sel h (fun _ h => (good_sel h (fun _ h => (good_sel h (fun _ h => (good_sel h (fun _ h => (good_sel h (fun _ h => (good_sel h (fun _ h => (good_sel h (fun _ h => (good_sel h (fun _ h => (good_sel h (fun _ h => (good_sel h (fun _ h => (good_sel h (fun _ h => (good_sel h (fun _ h => (good_sel h (fun _ h => (good_sel h (fun _ h => (good_sel h (fun _ h => (good_sel h (fun _ h => (good_sel h (fun _ h => (good_sel h (fun _ h => (good_sel h (fun _ h => (good_sel h (fun _ h => (good_sel h (fun _ h => (good_sel h (fun _ h => (good_sel h (fun _ h => (good_sel h (fun _ h => (good_sel h (fun _ h => good_cut (t41_4 k _ _ _ _ _ _ rn rg q h)) (fun _ h => nomatch h))) (fun _ h => nomatch h))) (fun _ h => nomatch h))) (fun _ h => (good_sel h (fun _ h => (good_sel h (fun _ h => (good_sel h (fun _ h => good_cut (t41_4 k _ _ _ _ _ _ rn rg q h)) (fun _ h => nomatch h))) (fun _ h => nomatch h))) (fun _ h => nomatch h))))) (fun _ h => nomatch h))) (fun _ h => nomatch h))) (fun _ h => nomatch h))) (fun _ h => nomatch h))) (fun _ h => nomatch h))) (fun _ h => nomatch h))) (fun _ h => nomatch h))) (fun _ h => nomatch h))) (fun _ h => nomatch h))) (fun _ h => nomatch h))) (fun _ h => nomatch h))) (fun _ h => nomatch h))) (fun _ h => nomatch h))) (fun _ h => nomatch h))) (fun _ h => nomatch h))) (fun _ h => nomatch h))) (fun _ h => nomatch h))) (fun _ h => nomatch h))) (fun _ h => nomatch h))) (fun _ h => nomatch h))) (fun _ h => nomatch h))) (fun _ h => nomatch h))) (fun _ h => nomatch h))) (fun _ h => nomatch h))) (fun _ h => nomatch h))) (fun _ h => nomatch h))) (fun _ h => nomatch h))) (fun _ h => nomatch h))) (fun _ h => nomatch h))) (fun _ h => nomatch h))) (fun _ h => nomatch h))) (fun _ h => nomatch h))) (fun _ h => nomatch h))) (fun _ h => nomatch h))) (fun _ h => (good_sel h (fun _ h => (good_sel h (fun _ h => (good_sel h (fun _ h => (good_sel h (fun _ h => good_cut (t41_4 k _ _ _ _ _ _ rn rg q h)) (fun _ h => nomatch h))) (fun _ h => nomatch h))) (fun _ h => nomatch h))) (fun _ h => (good_sel h (fun _ h => (good_sel h (fun _ h => (good_sel h (fun _ h => good_cut (t41_4 k _ _ _ _ _ _ rn rg q h)) (fun _ h => nomatch h))) (fun _ h => nomatch h))) (fun _ h => nomatch h))))))) (fun _ h => nomatch h))) (fun _ h => (good_sel h (fun _ h => (good_sel h (fun _ h => (good_sel h (fun _ h => (good_sel h (fun _ h => good_cut (t41_4 k _ _ _ _ _ _ rn rg q h)) (fun _ h => nomatch h))) (fun _ h => nomatch h))) (fun _ h => nomatch h))) (fun _ h => (good_sel h (fun _ h => (good_sel h (fun _ h => (good_sel h (fun _ h => good_cut (t41_4 k _ _ _ _ _ _ rn rg q h)) (fun _ h => nomatch h))) (fun _ h => nomatch h))) (fun _ h => nomatch h))))))))) (fun _ h => nomatch h))) (fun _ h => nomatch h))) (fun _ h => (good_sel h (fun _ h => (good_sel h (fun _ h => (good_sel h (fun _ h => (good_sel h (fun _ h => (good_sel h (fun _ h => (good_sel h (fun _ h => (good_sel h (fun _ h => (good_sel h (fun _ h => (good_sel h (fun _ h => (good_sel h (fun _ h => (good_sel h (fun _ h => good_ret (by cases h; rfl)) (fun _ h => nomatch h))) (fun _ h => nomatch h))) (fun _ h => nomatch h))) (fun _ h => nomatch h))) (fun _ h => nomatch h))) (fun _ h => nomatch h))) (fun _ h => nomatch h))) (fun _ h => nomatch h))) (fun _ h => (good_sel h (fun _ h => good_ret (by cases h; rfl)) (fun _ h => nomatch h))))) (fun _ h => (good_sel h (fun _ h => good_ret (by cases h; rfl)) (fun _ h => nomatch h))))) (fun _ h => nomatch h))))
theorem t41 (k : Nat) (s : ByteArray) (p : Int) (mx : Int) (rn : Nat) (rg : Nat → F) (q : Int) (h : G41 k s p mx = some (rn, rg, q)) : EndsN Try.prog 1 Try.f41.results.toList [.code (bodyOf Try.f41)] (startN Try.f41.ntmps [U.hp 0 0, U.f (F.int .i64 mx)] [HO.box [U.f (bytesF s), U.f (F.int .i64 p)]]) (F.tup [F.sl rn rg, F.agg [bytesF s, F.int .i64 q]]) := by
  refine Ends.of_run tyOK envD11_ok (T := [(4, [0, 5, 6, 7], 2)]) (n := 200) ?_
  have e : run Try.prog (tiOf Try.prog) envD11 [(4, [0, 5, 6, 7], 2)] 1 Try.f41.results.toList some 200 [.code (bodyOf Try.f41)] (startN Try.f41.ntmps [U.hp 0 0, U.f (F.int .i64 mx)] [HO.box [U.f (bytesF s), U.f (F.int .i64 p)]]) = T41 (fun rn rg q => some (.ret (F.tup [F.sl rn rg, F.agg [bytesF s, F.int .i64 q]]))) (fun s p n g x6 x7 => some (.cut (at_ Try.f41 4) (S41_4 s p n g x6 x7))) s p mx := by kernel_rfl
  rw [e]
  exact (good_sel h (fun _ h => good_cut (t41_4 k _ _ _ _ _ _ rn rg q h)) (fun _ h => nomatch h))
theorem ex_bsel {ρ α β : Type} {c : Bool} {X Y : Option ρ} {Q : α → β → Prop} {Z : α → β → Option ρ} (h1 : ∃ q g, Q q g ∧ X = Z q g) (h2 : ∃ q g, Q q g ∧ Y = Z q g) : ∃ q g, Q q g ∧ bsel c X Y = Z q g := by
  cases c
  · exact h2
  · exact h1
theorem sel_true {ρ α β : Type} {c : Bool} {X Y : Option ρ} {Q : α → β → Prop} {Z : α → β → Option ρ} (hc : c = true) (h1 : ∃ q g, Q q g ∧ X = Z q g) : ∃ q g, Q q g ∧ bsel c X Y = Z q g := by
  subst hc; exact h1
theorem sel_false {ρ α β : Type} {c : Bool} {X Y : Option ρ} {Q : α → β → Prop} {Z : α → β → Option ρ} (hc : c = false) (h1 : ∃ q g, Q q g ∧ Y = Z q g) : ∃ q g, Q q g ∧ bsel c X Y = Z q g := by
  subst hc; exact h1
theorem isSegs_push {n : Nat} {o : List Sg} {a b c d : Int} : isSegs (.sl (n + 1) fun j => if j < n then F.agg [F.int .i64 (o.getD j Sg.zero).x0, F.int .i64 (o.getD j Sg.zero).y0, F.int .i64 (o.getD j Sg.zero).x1, F.int .i64 (o.getD j Sg.zero).y1] else F.agg [F.int .i64 a, F.int .i64 b, F.int .i64 c, F.int .i64 d]) = true := by
  simp only [isSegs, isSl, List.all_eq_true]
  intro j _
  split <;> rfl
set_option maxHeartbeats 1000000 in
theorem segs_step {ρ : Type} {s : ByteArray} {p x6 : Int} (h : rdOk s p = true) (n : Nat) (o : List Sg) (hn : (n : Int) < x6) (hx : x6 ≤ 1000) (ret : Nat → (Nat → F) → Int → Option ρ) (c4 : ByteArray → Int → Nat → (Nat → F) → Int → Int → Option ρ) :
    ∃ (q : Int) (g : Nat → F), (rdOk s q = true ∧ isSegs (.sl (n + 1) g) = true) ∧ T41_4 ret c4 s p n o x6 n = c4 s q (n + 1) g x6 ((n + 1 : Nat) : Int) := by
  obtain ⟨_, s1⟩ := spot_ok h
  obtain ⟨_, s2⟩ := spot_ok s1
  obtain ⟨_, o1⟩ := once_ok s2 3
  obtain ⟨_, o2⟩ := once_ok o1 6
  have c1 : decide ((n : Int) < x6) = true := decide_eq_true hn
  have hw : IntKind.i64.wrap ((n : Int) + 1) = ((n + 1 : Nat) : Int) := by rw [wrapi (by omega) (by omega)]; omega
  have bft : (false == true) = false := rfl
  have btf : (true == false) = false := rfl
  have bff : (false == false) = true := rfl
  have btt : (true == true) = true := rfl
  unfold T41_4
  by_cases h0 : n = 0
  · subst h0
    have c2 : decide (((0 : Nat) : Int) > 0) = false := by decide
    have c5 : decide (((0 + 1 : Nat) : Int) * (((32 : Nat) : Int) + 1) ≤ (limit : Int)) = true := by rw [limit_eq]; exact decide_eq_true (by omega)
    repeat' first
      | exact ⟨_, _, ⟨by simpa only [resSpot, unBytes_bytesF] using s2, isSegs_push⟩, congrArg (c4 s _ (0 + 1) _ x6) hw⟩
      | (refine sel_true ?hc ?_; case hc => first | exact c1 | exact c5 | rfl | (simp only [resSpot, unBytes_bytesF, isBytes_bytesF, h, s1, s2, Bool.and_self]; done))
      | (refine sel_false ?hc ?_; case hc => first | (rw [c2]; rfl) | exact c2)
      | refine ex_bsel ?_ ?_
  · have c2 : decide ((n : Int) > 0) = true := decide_eq_true (by omega)
    have e1 : IntKind.i64.wrap ((n : Int) - 1) = ((n - 1 : Nat) : Int) := by rw [wrapi (by omega) (by omega)]; omega
    have c3 : decide (0 ≤ ((n - 1 : Nat) : Int)) = true := decide_eq_true (by omega)
    have c4' : decide (((n - 1 : Nat) : Int) < (n : Int)) = true := decide_eq_true (by omega)
    have c5 : decide (0 + (n - 1) < n) = true := decide_eq_true (by omega)
    have c6 : decide (((n + 1 : Nat) : Int) * (((32 : Nat) : Int) + 1) ≤ (limit : Int)) = true := by rw [limit_eq]; exact decide_eq_true (by omega)
    rw [e1]
    repeat' first
      | exact ⟨_, _, ⟨by simpa only [resSpot, unBytes_bytesF] using o2, isSegs_push⟩, congrArg (c4 s _ (n + 1) _ x6) hw⟩
      | (refine sel_true ?hc ?_; case hc => first | exact c1 | exact c3 | exact c4' | exact c6 | exact decide_eq_true rfl | exact c5 | (rw [c2]; rfl) | exact c2 | (simp only [resSpot, unBytes_bytesF, isBytes_bytesF, h, s1, s2, o1, o2, Bool.and_self]; done))
      | refine ex_bsel ?_ ?_
theorem segs_end {s : ByteArray} {p x6 : Int} (h : rdOk s p = true) (n : Nat) (o : List Sg) (hn : x6 ≤ (n : Int)) (hn0 : x6 > 0 → (n : Int) = x6) (c4 : ByteArray → Int → Nat → (Nat → F) → Int → Int → Option (Nat × (Nat → F) × Int)) :
    ∃ (g : Nat → F) (q : Int), T41_4 (fun rn rg q => some (rn, rg, q)) c4 s p n o x6 n = some (n, g, q) ∧ rdOk s q = true ∧ isSegs (.sl n g) = true := by
  obtain ⟨_, o1⟩ := once_ok h 40
  obtain ⟨b1, b2, b3, b4⟩ := below_ok o1 x6
  obtain ⟨_, g1⟩ := seg_ok b4
  have c1 : decide ((n : Int) < x6) = false := decide_eq_false (by omega)
  have same : isSegs (.sl n fun i => F.agg [F.int .i64 (o.getD i Sg.zero).x0, F.int .i64 (o.getD i Sg.zero).y0, F.int .i64 (o.getD i Sg.zero).x1, F.int .i64 (o.getD i Sg.zero).y1]) = true := by
    simp only [isSegs, isSl, List.all_eq_true]
    intro j _
    rfl
  unfold T41_4
  simp only [resSegR, unBytes_bytesF, isBytes_bytesF, h, o1, b4, c1, Bool.and_self, Bool.and_true, bsel_true, bsel_false, decide_true]
  cases (onceV s p 40).1 with
  | false => exact ⟨_, _, rfl, o1, same⟩
  | true =>
    have btt : (true == true) = true := rfl
    simp only [btt, bsel_true]
    by_cases h6 : x6 > 0
    · have h7 := hn0 h6
      have d1 : decide (0 ≤ (belowV s (onceV s p 40).2 x6).1) = true := decide_eq_true b2
      have d2 : decide ((belowV s (onceV s p 40).2 x6).1 < (n : Int)) = true := decide_eq_true (by omega)
      have d3 : decide (0 + (belowV s (onceV s p 40).2 x6).1.toNat < n) = true := decide_eq_true (by omega)
      simp only [decide_eq_true h6, d1, d2, d3, bsel_true]
      refine ⟨_, _, rfl, g1, ?_⟩
      simp only [isSegs, isSl, List.all_eq_true]
      intro j _
      split <;> rfl
    · simp only [decide_eq_false h6, bsel_false]
      exact ⟨_, _, rfl, o1, same⟩
end
end Go.Proofs.Ytmambbfnjbdfgaa.R

namespace Go.Proofs.Ytmambbfnjbdfgaa.R
open Go
noncomputable section
set_option linter.unusedVariables false
set_option linter.unusedSimpArgs false
theorem segs_loopR {s : ByteArray} {x6 : Int} (hx : x6 ≤ 1000) : ∀ (d n : Nat) (p : Int) (g : Nat → F), (0 ≤ x6 → (n : Int) + d = x6) → (x6 < 0 → n = 0 ∧ d = 0) → rdOk s p = true → isSegs (.sl n g) = true →
    ∃ (n1 : Nat) (g1 : Nat → F) (q : Int), L41_4 (d + 1) s p n g x6 n = some (n1, g1, q) ∧ rdOk s q = true ∧ isSegs (.sl n1 g1) = true
  | 0, n, p, g, h, h', hr, hg => by
    obtain ⟨g1, q, e, k1, k2⟩ := segs_end (x6 := x6) hr n (unSegs (.sl n g)) (by omega) (fun h6 => by omega) (L41_4 0)
    refine ⟨n, g1, q, ?_, k1, k2⟩
    rw [L41_4, hg, bsel_true]
    exact e
  | d + 1, n, p, g, h, h', hr, hg => by
    have h6 : 0 ≤ x6 := by omega
    obtain ⟨q, g1, ⟨k1, k2⟩, e⟩ := segs_step (x6 := x6) hr n (unSegs (.sl n g)) (by omega) hx (fun rn rg q => some (rn, rg, q)) (L41_4 (d + 1))
    obtain ⟨n2, g2, q2, e2, m1, m2⟩ := segs_loopR hx d (n + 1) q g1 (fun _ => by omega) (fun _ => by omega) k1 k2
    refine ⟨n2, g2, q2, ?_, m1, m2⟩
    rw [L41_4, hg, bsel_true]
    exact e.trans e2
def isSmall : List F → Bool
  | [.int .i64 mx] => decide (0 ≤ mx ∧ mx ≤ 100)
  | _ => false
theorem segs_okR {s : ByteArray} {p mx : Int} (h : rdOk s p = true) (hm : 0 ≤ mx ∧ mx ≤ 100) : ∃ (r : List Sg × Int) (n : Nat) (g : Nat → F) (k : Nat), G41 k s p mx = some (n, g, r.2) ∧ rdOk s r.2 = true ∧ FLe (.sl n g) (segsF r.1) := by
  obtain ⟨b1, b2, b3, b4⟩ := below_ok h (mx + 1)
  have e1 : IntKind.i64.wrap (mx + 1) = mx + 1 := wrapi (by omega) (by omega)
  obtain ⟨n, g, q, e, k1, k2⟩ := segs_loopR (s := s) (x6 := (belowV s p (mx + 1)).1) (by omega) (belowV s p (mx + 1)).1.toNat 0 (belowV s p (mx + 1)).2 (lget []) (fun _ => by omega) (fun _ => by omega) b4 rfl
  refine ⟨(unSegs (.sl n g), q), n, g, (belowV s p (mx + 1)).1.toNat + 1, ?_, k1, (segs_eqv k2).1⟩
  unfold G41 T41
  simp only [unBytes_bytesF, isBytes_bytesF, h, e1, Bool.and_self, bsel_true]
  exact e
def segsV (s : ByteArray) (p mx : Int) : List Sg × Int := @dite _ (rdOk s p = true ∧ (0 ≤ mx ∧ mx ≤ 100)) (Classical.propDecidable _) (fun h => Classical.choose (segs_okR h.1 h.2)) fun _ => ([], 0)
theorem segs_ok {s : ByteArray} {p mx : Int} (h : rdOk s p = true) (hm : 0 ≤ mx ∧ mx ≤ 100) : ∃ (n : Nat) (g : Nat → F) (k : Nat), G41 k s p mx = some (n, g, (segsV s p mx).2) ∧ rdOk s (segsV s p mx).2 = true ∧ FLe (.sl n g) (segsF (segsV s p mx).1) := by
  have e : segsV s p mx = Classical.choose (segs_okR h hm) := @dif_pos _ (Classical.propDecidable _) ⟨h, hm⟩ _ _ _
  rw [e]
  exact Classical.choose_spec (segs_okR h hm)
def resSegsR : List F → ByteArray → Int → F × Int
  | [.int .i64 mx], s, p => (segsF (segsV s p mx).1, (segsV s p mx).2)
  | _, _, p => (.dflt, p)
theorem okSegsR : SpOK Try.prog 41 (rdSp isSmall resSegsR) :=
  ok_rd (c := bodyOf Try.f41) Try.func41 (by kernel_rfl) (by kernel_rfl) fun xs s p hx hr => match xs, hx with
  | [.int .i64 mx], hx => by
    obtain ⟨n, g, k, e, _, hle⟩ := segs_ok hr (of_decide_eq_true hx)
    exact ⟨_, hle, t41 k s p mx _ _ _ e⟩
def envD13 : Env := envD11.add 41 (rdSp isSmall resSegsR)
theorem envD13_ok : EnvOK Try.prog envD13 := Env.add_ok envD11_ok okSegsR
end
end Go.Proofs.Ytmambbfnjbdfgaa.R

namespace Go.Proofs.Ytmambbfnjbdfgaa.R
open Go
noncomputable section
set_option linter.unusedVariables false
set_option linter.unusedSimpArgs false
set_option maxRecDepth 100000
/-! ### function 15 -/
def T15 {ρ : Type} (ret : (List Sg) → (Int) → (Int) → Option ρ) (a0 : ByteArray) : Option ρ :=
 (bsel (isBytes (bytesF a0))
 (bsel (isBytes (bytesF a0) && rdOk (unBytes (bytesF a0)) 0 && true)
 (bsel (isBytes (bytesF a0) && rdOk (unBytes (bytesF a0)) (resSegsR [F.int .i64 6] (unBytes (bytesF a0)) 0).snd)
 (bsel ((onceV (unBytes (bytesF a0)) (resSegsR [F.int .i64 6] (unBytes (bytesF a0)) 0).snd 10).fst)
 (bsel (isBytes (bytesF a0) && rdOk (unBytes (bytesF a0)) (onceV (unBytes (bytesF a0)) (resSegsR [F.int .i64 6] (unBytes (bytesF a0)) 0).snd 10).snd && true)
 (bsel (isBytes (bytesF a0) && rdOk (unBytes (bytesF a0)) (resOff [F.int .i64 (-1000000), F.int .i64 1000000] (unBytes (bytesF a0)) (onceV (unBytes (bytesF a0)) (resSegsR [F.int .i64 6] (unBytes (bytesF a0)) 0).snd 10).snd).snd && true)
 (ret ((segsV (unBytes (bytesF a0)) 0 6).fst) ((offV (-1000000) 1000000 (unBytes (bytesF a0)) (onceV (unBytes (bytesF a0)) (resSegsR [F.int .i64 6] (unBytes (bytesF a0)) 0).snd 10).snd).fst) ((offV (-1000000) 1000000 (unBytes (bytesF a0)) (resOff [F.int .i64 (-1000000), F.int .i64 1000000] (unBytes (bytesF a0)) (onceV (unBytes (bytesF a0)) (resSegsR [F.int .i64 6] (unBytes (bytesF a0)) 0).snd 10).snd).snd).fst))
 none)
 none)
 (bsel (isBytes (bytesF a0) && rdOk (unBytes (bytesF a0)) (onceV (unBytes (bytesF a0)) (resSegsR [F.int .i64 6] (unBytes (bytesF a0)) 0).snd 10).snd && true)
 (ret ((segsV (unBytes (bytesF a0)) 0 6).fst) ((spotV (unBytes (bytesF a0)) (onceV (unBytes (bytesF a0)) (resSegsR [F.int .i64 6] (unBytes (bytesF a0)) 0).snd 10).snd).fst) ((spotV (unBytes (bytesF a0)) (onceV (unBytes (bytesF a0)) (resSegsR [F.int .i64 6] (unBytes (bytesF a0)) 0).snd 10).snd).snd.fst))
 none))
 none)
 none)
 none)
def G15 (a0 : ByteArray) : Option ((List Sg) × (Int) × (Int)) := T15 (fun r rx0 ry0 => some (r, rx0, ry0)) a0
theorem t15 (a0 : ByteArray) (r : List Sg) (rx0 : Int) (ry0 : Int) (h : G15 a0 = some (r, rx0, ry0)) : Ends Try.prog Try.f15.results.toList [.code (bodyOf Try.f15)] (start Try.f15.ntmps ([bytesF a0].map .f)) (F.tup [segsF r, F.agg [F.int .i64 rx0, F.int .i64 ry0]]) := by
  refine Ends.of_run tyOK envD13_ok (T := []) (n := 200) ?_
  have e : run Try.prog (tiOf Try.prog) envD13 [] 0 Try.f15.results.toList some 200 [.code (bodyOf Try.f15)] (start Try.f15.ntmps ([bytesF a0].map .f)) = T15 (fun r rx0 ry0 => some (.ret (F.tup [segsF r, F.agg [F.int .i64 rx0, F.int .i64 ry0]]))) a0 := by kernel_rfl
  rw [e]
  exact (good_sel h (fun _ h => (good_sel h (fun _ h => (good_sel h (fun _ h => (good_sel h (fun _ h => (good_sel h (fun _ h => (good_sel h (fun _ h => good_ret (by cases h; rfl)) (fun _ h => nomatch h))) (fun _ h => nomatch h))) (fun _ h => (good_sel h (fun _ h => good_ret (by cases h; rfl)) (fun _ h => nomatch h))))) (fun _ h => nomatch h))) (fun _ h => nomatch h))) (fun _ h => nomatch h))
def drawNearV (s : ByteArray) : List Sg × Int × Int := (G15 s).getD ([], 0, 0)
theorem drawNear_ok {s : ByteArray} (h : s.size ≤ 1048576) : G15 s = some ((drawNearV s).1, (drawNearV s).2.1, (drawNearV s).2.2) := by
  have h0 : rdOk s 0 = true := rdOk_iff.2 (by omega)
  obtain ⟨_, _, _, _, a2, _⟩ := segs_ok h0 (mx := 6) (by omega)
  obtain ⟨_, o1⟩ := once_ok a2 10
  have hab : -1099511627776 ≤ (-1000000 : Int) ∧ (-1000000 : Int) ≤ 1000000 ∧ (1000000 : Int) ≤ 1099511627776 := by omega
  obtain ⟨_, o2⟩ := off_ok o1 hab
  unfold drawNearV G15 T15
  simp only [resSegsR, resSpot, resOff, resNear, unBytes_bytesF, isBytes_bytesF, h0, a2, o1, o2, Bool.and_self, Bool.and_true, bsel_true]
  cases (onceV s (segsV s 0 6).2 10).1 <;> simp only [bsel_true, bsel_false, Option.getD_some]
def preD : List F → Bool | [b] => isBytes b && decide ((unBytes b).size ≤ 1048576) | _ => false
def resDrawNear : List F → F | [b] => .tup [segsF (drawNearV (unBytes b)).1, .agg [.int .i64 (drawNearV (unBytes b)).2.1, .int .i64 (drawNearV (unBytes b)).2.2]] | _ => .dflt
theorem okDrawNear : PureOK Try.prog 15 preD resDrawNear :=
  fn_pure_at (c := bodyOf Try.f15) Try.func15 (by kernel_rfl) (by kernel_rfl) fun xs hp => match xs, hp with
  | [b], hp => by
    simp only [preD, Bool.and_eq_true, decide_eq_true_eq] at hp
    exact ⟨[bytesF (unBytes b)], _, ⟨(bytes_eqv hp.1).1, trivial⟩, t15 _ _ _ _ (drawNear_ok hp.2), .refl _⟩
end
end Go.Proofs.Ytmambbfnjbdfgaa.R

namespace Go.Proofs.Ytmambbfnjbdfgaa.R
open Go
noncomputable section
def envU4 : Env := (((((env0.add 14 (.pure preB (fun xs => match xs with | [b] => .bool (decide (((unBytes b).size : Int) > 1048576)) | _ => .bool false))).add 15 (.pure preD resDrawNear)).add 8 (.pure preNS resNS)).add 11 (.pure preNS resNS)).add 16 (.pure preNr2 resNr2)).add 17 (.pure preRC resRC)
theorem okBigD1 : SpOK Try.prog 14 (.pure preB (fun xs => match xs with | [b] => .bool (decide (((unBytes b).size : Int) > 1048576)) | _ => .bool false)) := okBig
theorem envU4_ok : EnvOK Try.prog envU4 := Env.add_ok (Env.add_ok (Env.add_ok (Env.add_ok (Env.add_ok (Env.add_ok env0_ok okBigD1) okDrawNear.sp) okNSS.sp) okNSI.sp) okNr2.sp) okRatioCmp.sp
end
end Go.Proofs.Ytmambbfnjbdfgaa.R

namespace Go.Proofs.Ytmambbfnjbdfgaa.R
open Go
noncomputable section
set_option linter.unusedVariables false
set_option linter.unusedSimpArgs false
set_option maxRecDepth 100000
set_option maxHeartbeats 1000000
structure Told (x y : Int) : Prop where
  ok : okT x y = true
  red : isRed x y = true
  rt : isRt1 (wd3 x) (wd2 x) (wd1 x) (wd0 x) (wd3 y) (wd2 y) (wd1 y) (wd0 y) = true
  up : wdsV (wd3 x) (wd2 x) (wd1 x) (wd0 x) = x
  down : wdsV (wd3 y) (wd2 y) (wd1 y) (wd0 y) = y
theorem told_facts {u d x y : Int} (hx : x = u / gcdI u d) (hy : y = d / gcdI u d) (hu : 0 ≤ u) (hu2 : u.natAbs < 18446744073709551616 ^ 2) (hd : 0 < d ∧ d ≤ 8000000000000) : Told x y := by
  obtain ⟨g1, a1, a2, x0, x1, y0, y1, hg⟩ := red_spec hu hd.1
  rw [← hx] at x0 x1 hg
  rw [← hy] at y0 y1 hg
  have wx : isWide x = true := isWide_iff.2 (by omega)
  have wy : isWide y = true := isWide_iff.2 (by omega)
  obtain ⟨ux, ux2⟩ := wdsV_wd x0 wx
  obtain ⟨uy, uy2⟩ := wdsV_wd (Int.le_of_lt y0) wy
  refine ⟨by rw [okT, wx, wy]; rfl, isRed_of y0 hg, ?_, ux, uy⟩
  unfold isRt1
  rw [isUw_iff.2 (by omega), isUw_iff.2 (by omega), uy, decide_eq_true (show y < 18446744073709551616 by omega)]
  rfl
end
end Go.Proofs.Ytmambbfnjbdfgaa.R

namespace Go.Proofs.Ytmambbfnjbdfgaa.R
open Go
noncomputable section
set_option linter.unusedVariables false
set_option linter.unusedSimpArgs false
set_option maxRecDepth 100000
set_option maxHeartbeats 4000000
/-! ### function 4 -/
def S4_9 (l : List Sg) (px : Int) (py : Int) (n : Int) (a : Int) (b : Int) (c : Int) (d : Int) (p : Int) (q : Int) (u : Int) (v : Int) (i : Int) : St := ⟨[.bad, .bad, .bad, (U.f (segsF l)), (U.hp 0 0), (U.f (F.int .i64 n)), (U.hp 1 0), .bad, .bad, .bad, .bad, (U.f (F.int .i64 i)), .bad, .bad, .bad, .bad, .bad, .bad, .bad, .bad, .bad, .bad, .bad, .bad, .bad, .bad, .bad, .bad, .bad, .bad, .bad, .bad, .bad, .bad, .bad, .bad, .bad, .bad, .bad, .bad, .bad, .bad, .bad, .bad, .bad, .bad, .bad, .bad, .bad, .bad, .bad, .bad, .bad, .bad, .bad, .bad, .bad, .bad, .bad, .bad, .bad, .bad, .bad, .bad, .bad, .bad, .bad, .bad, .bad, .bad, .bad, .bad, .bad, .bad, .bad, .bad, .bad, .bad, .bad, .bad, .bad, .bad, .bad, .bad, .bad, .bad, .bad, .bad, .bad, .bad, .bad, .bad, .bad, .bad, .bad, .bad, .bad, .bad, .bad, .bad, .bad, .bad, .bad, .bad, .bad, .bad, .bad, .bad, .bad, .bad, .bad, .bad, .bad], [HO.box [(U.f (F.int .i64 px)), (U.f (F.int .i64 py))], HO.box [(U.f (F.int .u64 a)), (U.f (F.int .u64 b)), (U.f (F.int .u64 c)), (U.f (F.int .u64 d)), (U.f (F.int .u64 p)), (U.f (F.int .u64 q)), (U.f (F.int .u64 u)), (U.f (F.int .u64 v))]]⟩
def T4_9 {ρ : Type} (ret : (Bool) → Option ρ) (c9 : (List Sg) → (Int) → (Int) → (Int) → (Int) → (Int) → (Int) → (Int) → (Int) → (Int) → (Int) → (Int) → (Int) → Option ρ) (l : List Sg) (px : Int) (py : Int) (n : Int) (a : Int) (b : Int) (c : Int) (d : Int) (p : Int) (q : Int) (u : Int) (v : Int) (i : Int) : Option ρ :=
 (bsel (decide (i < (↑l.length : Int)))
 (bsel (decide (0 ≤ i))
 (bsel (decide (i < (↑l.length : Int)))
 (bsel (isRt1 a b c d p q u v && isRt1 (bif okT (n2U { x0 := (l.getD i.toNat Sg.zero).x0, y0 := (l.getD i.toNat Sg.zero).y0, x1 := (l.getD i.toNat Sg.zero).x1, y1 := (l.getD i.toNat Sg.zero).y1 } px py) (n2D { x0 := (l.getD i.toNat Sg.zero).x0, y0 := (l.getD i.toNat Sg.zero).y0, x1 := (l.getD i.toNat Sg.zero).x1, y1 := (l.getD i.toNat Sg.zero).y1 } px py) then wd3 (n2U { x0 := (l.getD i.toNat Sg.zero).x0, y0 := (l.getD i.toNat Sg.zero).y0, x1 := (l.getD i.toNat Sg.zero).x1, y1 := (l.getD i.toNat Sg.zero).y1 } px py) else 0) (bif okT (n2U { x0 := (l.getD i.toNat Sg.zero).x0, y0 := (l.getD i.toNat Sg.zero).y0, x1 := (l.getD i.toNat Sg.zero).x1, y1 := (l.getD i.toNat Sg.zero).y1 } px py) (n2D { x0 := (l.getD i.toNat Sg.zero).x0, y0 := (l.getD i.toNat Sg.zero).y0, x1 := (l.getD i.toNat Sg.zero).x1, y1 := (l.getD i.toNat Sg.zero).y1 } px py) then wd2 (n2U { x0 := (l.getD i.toNat Sg.zero).x0, y0 := (l.getD i.toNat Sg.zero).y0, x1 := (l.getD i.toNat Sg.zero).x1, y1 := (l.getD i.toNat Sg.zero).y1 } px py) else 0) (bif okT (n2U { x0 := (l.getD i.toNat Sg.zero).x0, y0 := (l.getD i.toNat Sg.zero).y0, x1 := (l.getD i.toNat Sg.zero).x1, y1 := (l.getD i.toNat Sg.zero).y1 } px py) (n2D { x0 := (l.getD i.toNat Sg.zero).x0, y0 := (l.getD i.toNat Sg.zero).y0, x1 := (l.getD i.toNat Sg.zero).x1, y1 := (l.getD i.toNat Sg.zero).y1 } px py) then wd1 (n2U { x0 := (l.getD i.toNat Sg.zero).x0, y0 := (l.getD i.toNat Sg.zero).y0, x1 := (l.getD i.toNat Sg.zero).x1, y1 := (l.getD i.toNat Sg.zero).y1 } px py) else 0) (bif okT (n2U { x0 := (l.getD i.toNat Sg.zero).x0, y0 := (l.getD i.toNat Sg.zero).y0, x1 := (l.getD i.toNat Sg.zero).x1, y1 := (l.getD i.toNat Sg.zero).y1 } px py) (n2D { x0 := (l.getD i.toNat Sg.zero).x0, y0 := (l.getD i.toNat Sg.zero).y0, x1 := (l.getD i.toNat Sg.zero).x1, y1 := (l.getD i.toNat Sg.zero).y1 } px py) then wd0 (n2U { x0 := (l.getD i.toNat Sg.zero).x0, y0 := (l.getD i.toNat Sg.zero).y0, x1 := (l.getD i.toNat Sg.zero).x1, y1 := (l.getD i.toNat Sg.zero).y1 } px py) else 0) (bif okT (n2U { x0 := (l.getD i.toNat Sg.zero).x0, y0 := (l.getD i.toNat Sg.zero).y0, x1 := (l.getD i.toNat Sg.zero).x1, y1 := (l.getD i.toNat Sg.zero).y1 } px py) (n2D { x0 := (l.getD i.toNat Sg.zero).x0, y0 := (l.getD i.toNat Sg.zero).y0, x1 := (l.getD i.toNat Sg.zero).x1, y1 := (l.getD i.toNat Sg.zero).y1 } px py) then wd3 (n2D { x0 := (l.getD i.toNat Sg.zero).x0, y0 := (l.getD i.toNat Sg.zero).y0, x1 := (l.getD i.toNat Sg.zero).x1, y1 := (l.getD i.toNat Sg.zero).y1 } px py) else 0) (bif okT (n2U { x0 := (l.getD i.toNat Sg.zero).x0, y0 := (l.getD i.toNat Sg.zero).y0, x1 := (l.getD i.toNat Sg.zero).x1, y1 := (l.getD i.toNat Sg.zero).y1 } px py) (n2D { x0 := (l.getD i.toNat Sg.zero).x0, y0 := (l.getD i.toNat Sg.zero).y0, x1 := (l.getD i.toNat Sg.zero).x1, y1 := (l.getD i.toNat Sg.zero).y1 } px py) then wd2 (n2D { x0 := (l.getD i.toNat Sg.zero).x0, y0 := (l.getD i.toNat Sg.zero).y0, x1 := (l.getD i.toNat Sg.zero).x1, y1 := (l.getD i.toNat Sg.zero).y1 } px py) else 0) (bif okT (n2U { x0 := (l.getD i.toNat Sg.zero).x0, y0 := (l.getD i.toNat Sg.zero).y0, x1 := (l.getD i.toNat Sg.zero).x1, y1 := (l.getD i.toNat Sg.zero).y1 } px py) (n2D { x0 := (l.getD i.toNat Sg.zero).x0, y0 := (l.getD i.toNat Sg.zero).y0, x1 := (l.getD i.toNat Sg.zero).x1, y1 := (l.getD i.toNat Sg.zero).y1 } px py) then wd1 (n2D { x0 := (l.getD i.toNat Sg.zero).x0, y0 := (l.getD i.toNat Sg.zero).y0, x1 := (l.getD i.toNat Sg.zero).x1, y1 := (l.getD i.toNat Sg.zero).y1 } px py) else 0) (bif okT (n2U { x0 := (l.getD i.toNat Sg.zero).x0, y0 := (l.getD i.toNat Sg.zero).y0, x1 := (l.getD i.toNat Sg.zero).x1, y1 := (l.getD i.toNat Sg.zero).y1 } px py) (n2D { x0 := (l.getD i.toNat Sg.zero).x0, y0 := (l.getD i.toNat Sg.zero).y0, x1 := (l.getD i.toNat Sg.zero).x1, y1 := (l.getD i.toNat Sg.zero).y1 } px py) then wd0 (n2D { x0 := (l.getD i.toNat Sg.zero).x0, y0 := (l.getD i.toNat Sg.zero).y0, x1 := (l.getD i.toNat Sg.zero).x1, y1 := (l.getD i.toNat Sg.zero).y1 } px py) else 0))
 (bsel ((!okT (n2U { x0 := (l.getD i.toNat Sg.zero).x0, y0 := (l.getD i.toNat Sg.zero).y0, x1 := (l.getD i.toNat Sg.zero).x1, y1 := (l.getD i.toNat Sg.zero).y1 } px py) (n2D { x0 := (l.getD i.toNat Sg.zero).x0, y0 := (l.getD i.toNat Sg.zero).y0, x1 := (l.getD i.toNat Sg.zero).x1, y1 := (l.getD i.toNat Sg.zero).y1 } px py)) == false)
 (bsel (decide (rcmpV (wdsV a b c d) (wdsV p q u v) (wdsV (bif okT (n2U { x0 := (l.getD i.toNat Sg.zero).x0, y0 := (l.getD i.toNat Sg.zero).y0, x1 := (l.getD i.toNat Sg.zero).x1, y1 := (l.getD i.toNat Sg.zero).y1 } px py) (n2D { x0 := (l.getD i.toNat Sg.zero).x0, y0 := (l.getD i.toNat Sg.zero).y0, x1 := (l.getD i.toNat Sg.zero).x1, y1 := (l.getD i.toNat Sg.zero).y1 } px py) then wd3 (n2U { x0 := (l.getD i.toNat Sg.zero).x0, y0 := (l.getD i.toNat Sg.zero).y0, x1 := (l.getD i.toNat Sg.zero).x1, y1 := (l.getD i.toNat Sg.zero).y1 } px py) else 0) (bif okT (n2U { x0 := (l.getD i.toNat Sg.zero).x0, y0 := (l.getD i.toNat Sg.zero).y0, x1 := (l.getD i.toNat Sg.zero).x1, y1 := (l.getD i.toNat Sg.zero).y1 } px py) (n2D { x0 := (l.getD i.toNat Sg.zero).x0, y0 := (l.getD i.toNat Sg.zero).y0, x1 := (l.getD i.toNat Sg.zero).x1, y1 := (l.getD i.toNat Sg.zero).y1 } px py) then wd2 (n2U { x0 := (l.getD i.toNat Sg.zero).x0, y0 := (l.getD i.toNat Sg.zero).y0, x1 := (l.getD i.toNat Sg.zero).x1, y1 := (l.getD i.toNat Sg.zero).y1 } px py) else 0) (bif okT (n2U { x0 := (l.getD i.toNat Sg.zero).x0, y0 := (l.getD i.toNat Sg.zero).y0, x1 := (l.getD i.toNat Sg.zero).x1, y1 := (l.getD i.toNat Sg.zero).y1 } px py) (n2D { x0 := (l.getD i.toNat Sg.zero).x0, y0 := (l.getD i.toNat Sg.zero).y0, x1 := (l.getD i.toNat Sg.zero).x1, y1 := (l.getD i.toNat Sg.zero).y1 } px py) then wd1 (n2U { x0 := (l.getD i.toNat Sg.zero).x0, y0 := (l.getD i.toNat Sg.zero).y0, x1 := (l.getD i.toNat Sg.zero).x1, y1 := (l.getD i.toNat Sg.zero).y1 } px py) else 0) (bif okT (n2U { x0 := (l.getD i.toNat Sg.zero).x0, y0 := (l.getD i.toNat Sg.zero).y0, x1 := (l.getD i.toNat Sg.zero).x1, y1 := (l.getD i.toNat Sg.zero).y1 } px py) (n2D { x0 := (l.getD i.toNat Sg.zero).x0, y0 := (l.getD i.toNat Sg.zero).y0, x1 := (l.getD i.toNat Sg.zero).x1, y1 := (l.getD i.toNat Sg.zero).y1 } px py) then wd0 (n2U { x0 := (l.getD i.toNat Sg.zero).x0, y0 := (l.getD i.toNat Sg.zero).y0, x1 := (l.getD i.toNat Sg.zero).x1, y1 := (l.getD i.toNat Sg.zero).y1 } px py) else 0)) (wdsV (bif okT (n2U { x0 := (l.getD i.toNat Sg.zero).x0, y0 := (l.getD i.toNat Sg.zero).y0, x1 := (l.getD i.toNat Sg.zero).x1, y1 := (l.getD i.toNat Sg.zero).y1 } px py) (n2D { x0 := (l.getD i.toNat Sg.zero).x0, y0 := (l.getD i.toNat Sg.zero).y0, x1 := (l.getD i.toNat Sg.zero).x1, y1 := (l.getD i.toNat Sg.zero).y1 } px py) then wd3 (n2D { x0 := (l.getD i.toNat Sg.zero).x0, y0 := (l.getD i.toNat Sg.zero).y0, x1 := (l.getD i.toNat Sg.zero).x1, y1 := (l.getD i.toNat Sg.zero).y1 } px py) else 0) (bif okT (n2U { x0 := (l.getD i.toNat Sg.zero).x0, y0 := (l.getD i.toNat Sg.zero).y0, x1 := (l.getD i.toNat Sg.zero).x1, y1 := (l.getD i.toNat Sg.zero).y1 } px py) (n2D { x0 := (l.getD i.toNat Sg.zero).x0, y0 := (l.getD i.toNat Sg.zero).y0, x1 := (l.getD i.toNat Sg.zero).x1, y1 := (l.getD i.toNat Sg.zero).y1 } px py) then wd2 (n2D { x0 := (l.getD i.toNat Sg.zero).x0, y0 := (l.getD i.toNat Sg.zero).y0, x1 := (l.getD i.toNat Sg.zero).x1, y1 := (l.getD i.toNat Sg.zero).y1 } px py) else 0) (bif okT (n2U { x0 := (l.getD i.toNat Sg.zero).x0, y0 := (l.getD i.toNat Sg.zero).y0, x1 := (l.getD i.toNat Sg.zero).x1, y1 := (l.getD i.toNat Sg.zero).y1 } px py) (n2D { x0 := (l.getD i.toNat Sg.zero).x0, y0 := (l.getD i.toNat Sg.zero).y0, x1 := (l.getD i.toNat Sg.zero).x1, y1 := (l.getD i.toNat Sg.zero).y1 } px py) then wd1 (n2D { x0 := (l.getD i.toNat Sg.zero).x0, y0 := (l.getD i.toNat Sg.zero).y0, x1 := (l.getD i.toNat Sg.zero).x1, y1 := (l.getD i.toNat Sg.zero).y1 } px py) else 0) (bif okT (n2U { x0 := (l.getD i.toNat Sg.zero).x0, y0 := (l.getD i.toNat Sg.zero).y0, x1 := (l.getD i.toNat Sg.zero).x1, y1 := (l.getD i.toNat Sg.zero).y1 } px py) (n2D { x0 := (l.getD i.toNat Sg.zero).x0, y0 := (l.getD i.toNat Sg.zero).y0, x1 := (l.getD i.toNat Sg.zero).x1, y1 := (l.getD i.toNat Sg.zero).y1 } px py) then wd0 (n2D { x0 := (l.getD i.toNat Sg.zero).x0, y0 := (l.getD i.toNat Sg.zero).y0, x1 := (l.getD i.toNat Sg.zero).x1, y1 := (l.getD i.toNat Sg.zero).y1 } px py) else 0)) > 0) == false)
 (bsel ((rcmpV (wdsV a b c d) (wdsV p q u v) (wdsV (bif okT (n2U { x0 := (l.getD i.toNat Sg.zero).x0, y0 := (l.getD i.toNat Sg.zero).y0, x1 := (l.getD i.toNat Sg.zero).x1, y1 := (l.getD i.toNat Sg.zero).y1 } px py) (n2D { x0 := (l.getD i.toNat Sg.zero).x0, y0 := (l.getD i.toNat Sg.zero).y0, x1 := (l.getD i.toNat Sg.zero).x1, y1 := (l.getD i.toNat Sg.zero).y1 } px py) then wd3 (n2U { x0 := (l.getD i.toNat Sg.zero).x0, y0 := (l.getD i.toNat Sg.zero).y0, x1 := (l.getD i.toNat Sg.zero).x1, y1 := (l.getD i.toNat Sg.zero).y1 } px py) else 0) (bif okT (n2U { x0 := (l.getD i.toNat Sg.zero).x0, y0 := (l.getD i.toNat Sg.zero).y0, x1 := (l.getD i.toNat Sg.zero).x1, y1 := (l.getD i.toNat Sg.zero).y1 } px py) (n2D { x0 := (l.getD i.toNat Sg.zero).x0, y0 := (l.getD i.toNat Sg.zero).y0, x1 := (l.getD i.toNat Sg.zero).x1, y1 := (l.getD i.toNat Sg.zero).y1 } px py) then wd2 (n2U { x0 := (l.getD i.toNat Sg.zero).x0, y0 := (l.getD i.toNat Sg.zero).y0, x1 := (l.getD i.toNat Sg.zero).x1, y1 := (l.getD i.toNat Sg.zero).y1 } px py) else 0) (bif okT (n2U { x0 := (l.getD i.toNat Sg.zero).x0, y0 := (l.getD i.toNat Sg.zero).y0, x1 := (l.getD i.toNat Sg.zero).x1, y1 := (l.getD i.toNat Sg.zero).y1 } px py) (n2D { x0 := (l.getD i.toNat Sg.zero).x0, y0 := (l.getD i.toNat Sg.zero).y0, x1 := (l.getD i.toNat Sg.zero).x1, y1 := (l.getD i.toNat Sg.zero).y1 } px py) then wd1 (n2U { x0 := (l.getD i.toNat Sg.zero).x0, y0 := (l.getD i.toNat Sg.zero).y0, x1 := (l.getD i.toNat Sg.zero).x1, y1 := (l.getD i.toNat Sg.zero).y1 } px py) else 0) (bif okT (n2U { x0 := (l.getD i.toNat Sg.zero).x0, y0 := (l.getD i.toNat Sg.zero).y0, x1 := (l.getD i.toNat Sg.zero).x1, y1 := (l.getD i.toNat Sg.zero).y1 } px py) (n2D { x0 := (l.getD i.toNat Sg.zero).x0, y0 := (l.getD i.toNat Sg.zero).y0, x1 := (l.getD i.toNat Sg.zero).x1, y1 := (l.getD i.toNat Sg.zero).y1 } px py) then wd0 (n2U { x0 := (l.getD i.toNat Sg.zero).x0, y0 := (l.getD i.toNat Sg.zero).y0, x1 := (l.getD i.toNat Sg.zero).x1, y1 := (l.getD i.toNat Sg.zero).y1 } px py) else 0)) (wdsV (bif okT (n2U { x0 := (l.getD i.toNat Sg.zero).x0, y0 := (l.getD i.toNat Sg.zero).y0, x1 := (l.getD i.toNat Sg.zero).x1, y1 := (l.getD i.toNat Sg.zero).y1 } px py) (n2D { x0 := (l.getD i.toNat Sg.zero).x0, y0 := (l.getD i.toNat Sg.zero).y0, x1 := (l.getD i.toNat Sg.zero).x1, y1 := (l.getD i.toNat Sg.zero).y1 } px py) then wd3 (n2D { x0 := (l.getD i.toNat Sg.zero).x0, y0 := (l.getD i.toNat Sg.zero).y0, x1 := (l.getD i.toNat Sg.zero).x1, y1 := (l.getD i.toNat Sg.zero).y1 } px py) else 0) (bif okT (n2U { x0 := (l.getD i.toNat Sg.zero).x0, y0 := (l.getD i.toNat Sg.zero).y0, x1 := (l.getD i.toNat Sg.zero).x1, y1 := (l.getD i.toNat Sg.zero).y1 } px py) (n2D { x0 := (l.getD i.toNat Sg.zero).x0, y0 := (l.getD i.toNat Sg.zero).y0, x1 := (l.getD i.toNat Sg.zero).x1, y1 := (l.getD i.toNat Sg.zero).y1 } px py) then wd2 (n2D { x0 := (l.getD i.toNat Sg.zero).x0, y0 := (l.getD i.toNat Sg.zero).y0, x1 := (l.getD i.toNat Sg.zero).x1, y1 := (l.getD i.toNat Sg.zero).y1 } px py) else 0) (bif okT (n2U { x0 := (l.getD i.toNat Sg.zero).x0, y0 := (l.getD i.toNat Sg.zero).y0, x1 := (l.getD i.toNat Sg.zero).x1, y1 := (l.getD i.toNat Sg.zero).y1 } px py) (n2D { x0 := (l.getD i.toNat Sg.zero).x0, y0 := (l.getD i.toNat Sg.zero).y0, x1 := (l.getD i.toNat Sg.zero).x1, y1 := (l.getD i.toNat Sg.zero).y1 } px py) then wd1 (n2D { x0 := (l.getD i.toNat Sg.zero).x0, y0 := (l.getD i.toNat Sg.zero).y0, x1 := (l.getD i.toNat Sg.zero).x1, y1 := (l.getD i.toNat Sg.zero).y1 } px py) else 0) (bif okT (n2U { x0 := (l.getD i.toNat Sg.zero).x0, y0 := (l.getD i.toNat Sg.zero).y0, x1 := (l.getD i.toNat Sg.zero).x1, y1 := (l.getD i.toNat Sg.zero).y1 } px py) (n2D { x0 := (l.getD i.toNat Sg.zero).x0, y0 := (l.getD i.toNat Sg.zero).y0, x1 := (l.getD i.toNat Sg.zero).x1, y1 := (l.getD i.toNat Sg.zero).y1 } px py) then wd0 (n2D { x0 := (l.getD i.toNat Sg.zero).x0, y0 := (l.getD i.toNat Sg.zero).y0, x1 := (l.getD i.toNat Sg.zero).x1, y1 := (l.getD i.toNat Sg.zero).y1 } px py) else 0)) == 0) == true)
 (bsel (decide (i < n) == false)
 (bsel ((i == n) == true)
 (bsel (!((bif okT (n2U { x0 := (l.getD i.toNat Sg.zero).x0, y0 := (l.getD i.toNat Sg.zero).y0, x1 := (l.getD i.toNat Sg.zero).x1, y1 := (l.getD i.toNat Sg.zero).y1 } px py) (n2D { x0 := (l.getD i.toNat Sg.zero).x0, y0 := (l.getD i.toNat Sg.zero).y0, x1 := (l.getD i.toNat Sg.zero).x1, y1 := (l.getD i.toNat Sg.zero).y1 } px py) then wd3 (n2U { x0 := (l.getD i.toNat Sg.zero).x0, y0 := (l.getD i.toNat Sg.zero).y0, x1 := (l.getD i.toNat Sg.zero).x1, y1 := (l.getD i.toNat Sg.zero).y1 } px py) else 0) == a && ((bif okT (n2U { x0 := (l.getD i.toNat Sg.zero).x0, y0 := (l.getD i.toNat Sg.zero).y0, x1 := (l.getD i.toNat Sg.zero).x1, y1 := (l.getD i.toNat Sg.zero).y1 } px py) (n2D { x0 := (l.getD i.toNat Sg.zero).x0, y0 := (l.getD i.toNat Sg.zero).y0, x1 := (l.getD i.toNat Sg.zero).x1, y1 := (l.getD i.toNat Sg.zero).y1 } px py) then wd2 (n2U { x0 := (l.getD i.toNat Sg.zero).x0, y0 := (l.getD i.toNat Sg.zero).y0, x1 := (l.getD i.toNat Sg.zero).x1, y1 := (l.getD i.toNat Sg.zero).y1 } px py) else 0) == b && ((bif okT (n2U { x0 := (l.getD i.toNat Sg.zero).x0, y0 := (l.getD i.toNat Sg.zero).y0, x1 := (l.getD i.toNat Sg.zero).x1, y1 := (l.getD i.toNat Sg.zero).y1 } px py) (n2D { x0 := (l.getD i.toNat Sg.zero).x0, y0 := (l.getD i.toNat Sg.zero).y0, x1 := (l.getD i.toNat Sg.zero).x1, y1 := (l.getD i.toNat Sg.zero).y1 } px py) then wd1 (n2U { x0 := (l.getD i.toNat Sg.zero).x0, y0 := (l.getD i.toNat Sg.zero).y0, x1 := (l.getD i.toNat Sg.zero).x1, y1 := (l.getD i.toNat Sg.zero).y1 } px py) else 0) == c && ((bif okT (n2U { x0 := (l.getD i.toNat Sg.zero).x0, y0 := (l.getD i.toNat Sg.zero).y0, x1 := (l.getD i.toNat Sg.zero).x1, y1 := (l.getD i.toNat Sg.zero).y1 } px py) (n2D { x0 := (l.getD i.toNat Sg.zero).x0, y0 := (l.getD i.toNat Sg.zero).y0, x1 := (l.getD i.toNat Sg.zero).x1, y1 := (l.getD i.toNat Sg.zero).y1 } px py) then wd0 (n2U { x0 := (l.getD i.toNat Sg.zero).x0, y0 := (l.getD i.toNat Sg.zero).y0, x1 := (l.getD i.toNat Sg.zero).x1, y1 := (l.getD i.toNat Sg.zero).y1 } px py) else 0) == d && true))) && ((bif okT (n2U { x0 := (l.getD i.toNat Sg.zero).x0, y0 := (l.getD i.toNat Sg.zero).y0, x1 := (l.getD i.toNat Sg.zero).x1, y1 := (l.getD i.toNat Sg.zero).y1 } px py) (n2D { x0 := (l.getD i.toNat Sg.zero).x0, y0 := (l.getD i.toNat Sg.zero).y0, x1 := (l.getD i.toNat Sg.zero).x1, y1 := (l.getD i.toNat Sg.zero).y1 } px py) then wd3 (n2D { x0 := (l.getD i.toNat Sg.zero).x0, y0 := (l.getD i.toNat Sg.zero).y0, x1 := (l.getD i.toNat Sg.zero).x1, y1 := (l.getD i.toNat Sg.zero).y1 } px py) else 0) == p && ((bif okT (n2U { x0 := (l.getD i.toNat Sg.zero).x0, y0 := (l.getD i.toNat Sg.zero).y0, x1 := (l.getD i.toNat Sg.zero).x1, y1 := (l.getD i.toNat Sg.zero).y1 } px py) (n2D { x0 := (l.getD i.toNat Sg.zero).x0, y0 := (l.getD i.toNat Sg.zero).y0, x1 := (l.getD i.toNat Sg.zero).x1, y1 := (l.getD i.toNat Sg.zero).y1 } px py) then wd2 (n2D { x0 := (l.getD i.toNat Sg.zero).x0, y0 := (l.getD i.toNat Sg.zero).y0, x1 := (l.getD i.toNat Sg.zero).x1, y1 := (l.getD i.toNat Sg.zero).y1 } px py) else 0) == q && ((bif okT (n2U { x0 := (l.getD i.toNat Sg.zero).x0, y0 := (l.getD i.toNat Sg.zero).y0, x1 := (l.getD i.toNat Sg.zero).x1, y1 := (l.getD i.toNat Sg.zero).y1 } px py) (n2D { x0 := (l.getD i.toNat Sg.zero).x0, y0 := (l.getD i.toNat Sg.zero).y0, x1 := (l.getD i.toNat Sg.zero).x1, y1 := (l.getD i.toNat Sg.zero).y1 } px py) then wd1 (n2D { x0 := (l.getD i.toNat Sg.zero).x0, y0 := (l.getD i.toNat Sg.zero).y0, x1 := (l.getD i.toNat Sg.zero).x1, y1 := (l.getD i.toNat Sg.zero).y1 } px py) else 0) == u && ((bif okT (n2U { x0 := (l.getD i.toNat Sg.zero).x0, y0 := (l.getD i.toNat Sg.zero).y0, x1 := (l.getD i.toNat Sg.zero).x1, y1 := (l.getD i.toNat Sg.zero).y1 } px py) (n2D { x0 := (l.getD i.toNat Sg.zero).x0, y0 := (l.getD i.toNat Sg.zero).y0, x1 := (l.getD i.toNat Sg.zero).x1, y1 := (l.getD i.toNat Sg.zero).y1 } px py) then wd0 (n2D { x0 := (l.getD i.toNat Sg.zero).x0, y0 := (l.getD i.toNat Sg.zero).y0, x1 := (l.getD i.toNat Sg.zero).x1, y1 := (l.getD i.toNat Sg.zero).y1 } px py) else 0) == v && true))) && true)))
 (ret (false))
 (c9 (l) (px) (py) (n) (a) (b) (c) (d) (p) (q) (u) (v) (IntKind.i64.wrap (i + 1))))
 (c9 (l) (px) (py) (n) (a) (b) (c) (d) (p) (q) (u) (v) (IntKind.i64.wrap (i + 1))))
 (ret (false)))
 (bsel ((i == n) == true)
 (bsel (!((bif okT (n2U { x0 := (l.getD i.toNat Sg.zero).x0, y0 := (l.getD i.toNat Sg.zero).y0, x1 := (l.getD i.toNat Sg.zero).x1, y1 := (l.getD i.toNat Sg.zero).y1 } px py) (n2D { x0 := (l.getD i.toNat Sg.zero).x0, y0 := (l.getD i.toNat Sg.zero).y0, x1 := (l.getD i.toNat Sg.zero).x1, y1 := (l.getD i.toNat Sg.zero).y1 } px py) then wd3 (n2U { x0 := (l.getD i.toNat Sg.zero).x0, y0 := (l.getD i.toNat Sg.zero).y0, x1 := (l.getD i.toNat Sg.zero).x1, y1 := (l.getD i.toNat Sg.zero).y1 } px py) else 0) == a && ((bif okT (n2U { x0 := (l.getD i.toNat Sg.zero).x0, y0 := (l.getD i.toNat Sg.zero).y0, x1 := (l.getD i.toNat Sg.zero).x1, y1 := (l.getD i.toNat Sg.zero).y1 } px py) (n2D { x0 := (l.getD i.toNat Sg.zero).x0, y0 := (l.getD i.toNat Sg.zero).y0, x1 := (l.getD i.toNat Sg.zero).x1, y1 := (l.getD i.toNat Sg.zero).y1 } px py) then wd2 (n2U { x0 := (l.getD i.toNat Sg.zero).x0, y0 := (l.getD i.toNat Sg.zero).y0, x1 := (l.getD i.toNat Sg.zero).x1, y1 := (l.getD i.toNat Sg.zero).y1 } px py) else 0) == b && ((bif okT (n2U { x0 := (l.getD i.toNat Sg.zero).x0, y0 := (l.getD i.toNat Sg.zero).y0, x1 := (l.getD i.toNat Sg.zero).x1, y1 := (l.getD i.toNat Sg.zero).y1 } px py) (n2D { x0 := (l.getD i.toNat Sg.zero).x0, y0 := (l.getD i.toNat Sg.zero).y0, x1 := (l.getD i.toNat Sg.zero).x1, y1 := (l.getD i.toNat Sg.zero).y1 } px py) then wd1 (n2U { x0 := (l.getD i.toNat Sg.zero).x0, y0 := (l.getD i.toNat Sg.zero).y0, x1 := (l.getD i.toNat Sg.zero).x1, y1 := (l.getD i.toNat Sg.zero).y1 } px py) else 0) == c && ((bif okT (n2U { x0 := (l.getD i.toNat Sg.zero).x0, y0 := (l.getD i.toNat Sg.zero).y0, x1 := (l.getD i.toNat Sg.zero).x1, y1 := (l.getD i.toNat Sg.zero).y1 } px py) (n2D { x0 := (l.getD i.toNat Sg.zero).x0, y0 := (l.getD i.toNat Sg.zero).y0, x1 := (l.getD i.toNat Sg.zero).x1, y1 := (l.getD i.toNat Sg.zero).y1 } px py) then wd0 (n2U { x0 := (l.getD i.toNat Sg.zero).x0, y0 := (l.getD i.toNat Sg.zero).y0, x1 := (l.getD i.toNat Sg.zero).x1, y1 := (l.getD i.toNat Sg.zero).y1 } px py) else 0) == d && true))) && ((bif okT (n2U { x0 := (l.getD i.toNat Sg.zero).x0, y0 := (l.getD i.toNat Sg.zero).y0, x1 := (l.getD i.toNat Sg.zero).x1, y1 := (l.getD i.toNat Sg.zero).y1 } px py) (n2D { x0 := (l.getD i.toNat Sg.zero).x0, y0 := (l.getD i.toNat Sg.zero).y0, x1 := (l.getD i.toNat Sg.zero).x1, y1 := (l.getD i.toNat Sg.zero).y1 } px py) then wd3 (n2D { x0 := (l.getD i.toNat Sg.zero).x0, y0 := (l.getD i.toNat Sg.zero).y0, x1 := (l.getD i.toNat Sg.zero).x1, y1 := (l.getD i.toNat Sg.zero).y1 } px py) else 0) == p && ((bif okT (n2U { x0 := (l.getD i.toNat Sg.zero).x0, y0 := (l.getD i.toNat Sg.zero).y0, x1 := (l.getD i.toNat Sg.zero).x1, y1 := (l.getD i.toNat Sg.zero).y1 } px py) (n2D { x0 := (l.getD i.toNat Sg.zero).x0, y0 := (l.getD i.toNat Sg.zero).y0, x1 := (l.getD i.toNat Sg.zero).x1, y1 := (l.getD i.toNat Sg.zero).y1 } px py) then wd2 (n2D { x0 := (l.getD i.toNat Sg.zero).x0, y0 := (l.getD i.toNat Sg.zero).y0, x1 := (l.getD i.toNat Sg.zero).x1, y1 := (l.getD i.toNat Sg.zero).y1 } px py) else 0) == q && ((bif okT (n2U { x0 := (l.getD i.toNat Sg.zero).x0, y0 := (l.getD i.toNat Sg.zero).y0, x1 := (l.getD i.toNat Sg.zero).x1, y1 := (l.getD i.toNat Sg.zero).y1 } px py) (n2D { x0 := (l.getD i.toNat Sg.zero).x0, y0 := (l.getD i.toNat Sg.zero).y0, x1 := (l.getD i.toNat Sg.zero).x1, y1 := (l.getD i.toNat Sg.zero).y1 } px py) then wd1 (n2D { x0 := (l.getD i.toNat Sg.zero).x0, y0 := (l.getD i.toNat Sg.zero).y0, x1 := (l.getD i.toNat Sg.zero).x1, y1 := (l.getD i.toNat Sg.zero).y1 } px py) else 0) == u && ((bif okT (n2U { x0 := (l.getD i.toNat Sg.zero).x0, y0 := (l.getD i.toNat Sg.zero).y0, x1 := (l.getD i.toNat Sg.zero).x1, y1 := (l.getD i.toNat Sg.zero).y1 } px py) (n2D { x0 := (l.getD i.toNat Sg.zero).x0, y0 := (l.getD i.toNat Sg.zero).y0, x1 := (l.getD i.toNat Sg.zero).x1, y1 := (l.getD i.toNat Sg.zero).y1 } px py) then wd0 (n2D { x0 := (l.getD i.toNat Sg.zero).x0, y0 := (l.getD i.toNat Sg.zero).y0, x1 := (l.getD i.toNat Sg.zero).x1, y1 := (l.getD i.toNat Sg.zero).y1 } px py) else 0) == v && true))) && true)))
 (ret (false))
 (c9 (l) (px) (py) (n) (a) (b) (c) (d) (p) (q) (u) (v) (IntKind.i64.wrap (i + 1))))
 (c9 (l) (px) (py) (n) (a) (b) (c) (d) (p) (q) (u) (v) (IntKind.i64.wrap (i + 1)))))
 (ret (false)))
 (ret (false)))
 none)
 none)
 none)
 (ret (true)))
def L4_9 : Nat → (List Sg) → (Int) → (Int) → (Int) → (Int) → (Int) → (Int) → (Int) → (Int) → (Int) → (Int) → (Int) → (Int) → Option (Bool)
  | 0, _, _, _, _, _, _, _, _, _, _, _, _, _ => none
  | k + 1, l, px, py, n, a, b, c, d, p, q, u, v, i => T4_9 some (L4_9 k) l px py n a b c d p q u v i
def T4 {ρ : Type} (ret : (Bool) → Option ρ) (c9 : (List Sg) → (Int) → (Int) → (Int) → (Int) → (Int) → (Int) → (Int) → (Int) → (Int) → (Int) → (Int) → (Int) → Option ρ) (a0 : ByteArray) : Option ρ :=
 (bsel (isBytes (bytesF a0))
 (bsel (decide ((↑(unBytes (bytesF a0)).size : Int) > 1048576))
 (ret (true))
 (bsel (isBytes (bytesF a0) && decide ((unBytes (bytesF a0)).size ≤ 1048576))
 (bsel (isSegs (segsF (drawNearV (unBytes (bytesF a0))).fst))
 (bsel (isSegs (segsF (drawNearV (unBytes (bytesF a0))).fst))
 (bsel ((nsI (unSegs (segsF (drawNearV (unBytes (bytesF a0))).fst)) (drawNearV (unBytes (bytesF a0))).snd.fst (drawNearV (unBytes (bytesF a0))).snd.snd != nsI (unSegs (segsF (drawNearV (unBytes (bytesF a0))).fst)) (drawNearV (unBytes (bytesF a0))).snd.fst (drawNearV (unBytes (bytesF a0))).snd.snd) == false)
 (bsel ((!(((bif okT (nsU (unSegs (segsF (drawNearV (unBytes (bytesF a0))).fst)) (drawNearV (unBytes (bytesF a0))).snd.fst (drawNearV (unBytes (bytesF a0))).snd.snd) (nsD (unSegs (segsF (drawNearV (unBytes (bytesF a0))).fst)) (drawNearV (unBytes (bytesF a0))).snd.fst (drawNearV (unBytes (bytesF a0))).snd.snd) then wd3 (nsU (unSegs (segsF (drawNearV (unBytes (bytesF a0))).fst)) (drawNearV (unBytes (bytesF a0))).snd.fst (drawNearV (unBytes (bytesF a0))).snd.snd) else 0) == bif okT (nsU (unSegs (segsF (drawNearV (unBytes (bytesF a0))).fst)) (drawNearV (unBytes (bytesF a0))).snd.fst (drawNearV (unBytes (bytesF a0))).snd.snd) (nsD (unSegs (segsF (drawNearV (unBytes (bytesF a0))).fst)) (drawNearV (unBytes (bytesF a0))).snd.fst (drawNearV (unBytes (bytesF a0))).snd.snd) then wd3 (nsU (unSegs (segsF (drawNearV (unBytes (bytesF a0))).fst)) (drawNearV (unBytes (bytesF a0))).snd.fst (drawNearV (unBytes (bytesF a0))).snd.snd) else 0) && (((bif okT (nsU (unSegs (segsF (drawNearV (unBytes (bytesF a0))).fst)) (drawNearV (unBytes (bytesF a0))).snd.fst (drawNearV (unBytes (bytesF a0))).snd.snd) (nsD (unSegs (segsF (drawNearV (unBytes (bytesF a0))).fst)) (drawNearV (unBytes (bytesF a0))).snd.fst (drawNearV (unBytes (bytesF a0))).snd.snd) then wd2 (nsU (unSegs (segsF (drawNearV (unBytes (bytesF a0))).fst)) (drawNearV (unBytes (bytesF a0))).snd.fst (drawNearV (unBytes (bytesF a0))).snd.snd) else 0) == bif okT (nsU (unSegs (segsF (drawNearV (unBytes (bytesF a0))).fst)) (drawNearV (unBytes (bytesF a0))).snd.fst (drawNearV (unBytes (bytesF a0))).snd.snd) (nsD (unSegs (segsF (drawNearV (unBytes (bytesF a0))).fst)) (drawNearV (unBytes (bytesF a0))).snd.fst (drawNearV (unBytes (bytesF a0))).snd.snd) then wd2 (nsU (unSegs (segsF (drawNearV (unBytes (bytesF a0))).fst)) (drawNearV (unBytes (bytesF a0))).snd.fst (drawNearV (unBytes (bytesF a0))).snd.snd) else 0) && (((bif okT (nsU (unSegs (segsF (drawNearV (unBytes (bytesF a0))).fst)) (drawNearV (unBytes (bytesF a0))).snd.fst (drawNearV (unBytes (bytesF a0))).snd.snd) (nsD (unSegs (segsF (drawNearV (unBytes (bytesF a0))).fst)) (drawNearV (unBytes (bytesF a0))).snd.fst (drawNearV (unBytes (bytesF a0))).snd.snd) then wd1 (nsU (unSegs (segsF (drawNearV (unBytes (bytesF a0))).fst)) (drawNearV (unBytes (bytesF a0))).snd.fst (drawNearV (unBytes (bytesF a0))).snd.snd) else 0) == bif okT (nsU (unSegs (segsF (drawNearV (unBytes (bytesF a0))).fst)) (drawNearV (unBytes (bytesF a0))).snd.fst (drawNearV (unBytes (bytesF a0))).snd.snd) (nsD (unSegs (segsF (drawNearV (unBytes (bytesF a0))).fst)) (drawNearV (unBytes (bytesF a0))).snd.fst (drawNearV (unBytes (bytesF a0))).snd.snd) then wd1 (nsU (unSegs (segsF (drawNearV (unBytes (bytesF a0))).fst)) (drawNearV (unBytes (bytesF a0))).snd.fst (drawNearV (unBytes (bytesF a0))).snd.snd) else 0) && (((bif okT (nsU (unSegs (segsF (drawNearV (unBytes (bytesF a0))).fst)) (drawNearV (unBytes (bytesF a0))).snd.fst (drawNearV (unBytes (bytesF a0))).snd.snd) (nsD (unSegs (segsF (drawNearV (unBytes (bytesF a0))).fst)) (drawNearV (unBytes (bytesF a0))).snd.fst (drawNearV (unBytes (bytesF a0))).snd.snd) then wd0 (nsU (unSegs (segsF (drawNearV (unBytes (bytesF a0))).fst)) (drawNearV (unBytes (bytesF a0))).snd.fst (drawNearV (unBytes (bytesF a0))).snd.snd) else 0) == bif okT (nsU (unSegs (segsF (drawNearV (unBytes (bytesF a0))).fst)) (drawNearV (unBytes (bytesF a0))).snd.fst (drawNearV (unBytes (bytesF a0))).snd.snd) (nsD (unSegs (segsF (drawNearV (unBytes (bytesF a0))).fst)) (drawNearV (unBytes (bytesF a0))).snd.fst (drawNearV (unBytes (bytesF a0))).snd.snd) then wd0 (nsU (unSegs (segsF (drawNearV (unBytes (bytesF a0))).fst)) (drawNearV (unBytes (bytesF a0))).snd.fst (drawNearV (unBytes (bytesF a0))).snd.snd) else 0) && true))) && (((bif okT (nsU (unSegs (segsF (drawNearV (unBytes (bytesF a0))).fst)) (drawNearV (unBytes (bytesF a0))).snd.fst (drawNearV (unBytes (bytesF a0))).snd.snd) (nsD (unSegs (segsF (drawNearV (unBytes (bytesF a0))).fst)) (drawNearV (unBytes (bytesF a0))).snd.fst (drawNearV (unBytes (bytesF a0))).snd.snd) then wd3 (nsD (unSegs (segsF (drawNearV (unBytes (bytesF a0))).fst)) (drawNearV (unBytes (bytesF a0))).snd.fst (drawNearV (unBytes (bytesF a0))).snd.snd) else 0) == bif okT (nsU (unSegs (segsF (drawNearV (unBytes (bytesF a0))).fst)) (drawNearV (unBytes (bytesF a0))).snd.fst (drawNearV (unBytes (bytesF a0))).snd.snd) (nsD (unSegs (segsF (drawNearV (unBytes (bytesF a0))).fst)) (drawNearV (unBytes (bytesF a0))).snd.fst (drawNearV (unBytes (bytesF a0))).snd.snd) then wd3 (nsD (unSegs (segsF (drawNearV (unBytes (bytesF a0))).fst)) (drawNearV (unBytes (bytesF a0))).snd.fst (drawNearV (unBytes (bytesF a0))).snd.snd) else 0) && (((bif okT (nsU (unSegs (segsF (drawNearV (unBytes (bytesF a0))).fst)) (drawNearV (unBytes (bytesF a0))).snd.fst (drawNearV (unBytes (bytesF a0))).snd.snd) (nsD (unSegs (segsF (drawNearV (unBytes (bytesF a0))).fst)) (drawNearV (unBytes (bytesF a0))).snd.fst (drawNearV (unBytes (bytesF a0))).snd.snd) then wd2 (nsD (unSegs (segsF (drawNearV (unBytes (bytesF a0))).fst)) (drawNearV (unBytes (bytesF a0))).snd.fst (drawNearV (unBytes (bytesF a0))).snd.snd) else 0) == bif okT (nsU (unSegs (segsF (drawNearV (unBytes (bytesF a0))).fst)) (drawNearV (unBytes (bytesF a0))).snd.fst (drawNearV (unBytes (bytesF a0))).snd.snd) (nsD (unSegs (segsF (drawNearV (unBytes (bytesF a0))).fst)) (drawNearV (unBytes (bytesF a0))).snd.fst (drawNearV (unBytes (bytesF a0))).snd.snd) then wd2 (nsD (unSegs (segsF (drawNearV (unBytes (bytesF a0))).fst)) (drawNearV (unBytes (bytesF a0))).snd.fst (drawNearV (unBytes (bytesF a0))).snd.snd) else 0) && (((bif okT (nsU (unSegs (segsF (drawNearV (unBytes (bytesF a0))).fst)) (drawNearV (unBytes (bytesF a0))).snd.fst (drawNearV (unBytes (bytesF a0))).snd.snd) (nsD (unSegs (segsF (drawNearV (unBytes (bytesF a0))).fst)) (drawNearV (unBytes (bytesF a0))).snd.fst (drawNearV (unBytes (bytesF a0))).snd.snd) then wd1 (nsD (unSegs (segsF (drawNearV (unBytes (bytesF a0))).fst)) (drawNearV (unBytes (bytesF a0))).snd.fst (drawNearV (unBytes (bytesF a0))).snd.snd) else 0) == bif okT (nsU (unSegs (segsF (drawNearV (unBytes (bytesF a0))).fst)) (drawNearV (unBytes (bytesF a0))).snd.fst (drawNearV (unBytes (bytesF a0))).snd.snd) (nsD (unSegs (segsF (drawNearV (unBytes (bytesF a0))).fst)) (drawNearV (unBytes (bytesF a0))).snd.fst (drawNearV (unBytes (bytesF a0))).snd.snd) then wd1 (nsD (unSegs (segsF (drawNearV (unBytes (bytesF a0))).fst)) (drawNearV (unBytes (bytesF a0))).snd.fst (drawNearV (unBytes (bytesF a0))).snd.snd) else 0) && (((bif okT (nsU (unSegs (segsF (drawNearV (unBytes (bytesF a0))).fst)) (drawNearV (unBytes (bytesF a0))).snd.fst (drawNearV (unBytes (bytesF a0))).snd.snd) (nsD (unSegs (segsF (drawNearV (unBytes (bytesF a0))).fst)) (drawNearV (unBytes (bytesF a0))).snd.fst (drawNearV (unBytes (bytesF a0))).snd.snd) then wd0 (nsD (unSegs (segsF (drawNearV (unBytes (bytesF a0))).fst)) (drawNearV (unBytes (bytesF a0))).snd.fst (drawNearV (unBytes (bytesF a0))).snd.snd) else 0) == bif okT (nsU (unSegs (segsF (drawNearV (unBytes (bytesF a0))).fst)) (drawNearV (unBytes (bytesF a0))).snd.fst (drawNearV (unBytes (bytesF a0))).snd.snd) (nsD (unSegs (segsF (drawNearV (unBytes (bytesF a0))).fst)) (drawNearV (unBytes (bytesF a0))).snd.fst (drawNearV (unBytes (bytesF a0))).snd.snd) then wd0 (nsD (unSegs (segsF (drawNearV (unBytes (bytesF a0))).fst)) (drawNearV (unBytes (bytesF a0))).snd.fst (drawNearV (unBytes (bytesF a0))).snd.snd) else 0) && true))) && true))) == false)
 (bsel ((!okT (nsU (unSegs (segsF (drawNearV (unBytes (bytesF a0))).fst)) (drawNearV (unBytes (bytesF a0))).snd.fst (drawNearV (unBytes (bytesF a0))).snd.snd) (nsD (unSegs (segsF (drawNearV (unBytes (bytesF a0))).fst)) (drawNearV (unBytes (bytesF a0))).snd.fst (drawNearV (unBytes (bytesF a0))).snd.snd) == okT (nsU (unSegs (segsF (drawNearV (unBytes (bytesF a0))).fst)) (drawNearV (unBytes (bytesF a0))).snd.fst (drawNearV (unBytes (bytesF a0))).snd.snd) (nsD (unSegs (segsF (drawNearV (unBytes (bytesF a0))).fst)) (drawNearV (unBytes (bytesF a0))).snd.fst (drawNearV (unBytes (bytesF a0))).snd.snd)) == false)
 (bsel (!okT (nsU (unSegs (segsF (drawNearV (unBytes (bytesF a0))).fst)) (drawNearV (unBytes (bytesF a0))).snd.fst (drawNearV (unBytes (bytesF a0))).snd.snd) (nsD (unSegs (segsF (drawNearV (unBytes (bytesF a0))).fst)) (drawNearV (unBytes (bytesF a0))).snd.fst (drawNearV (unBytes (bytesF a0))).snd.snd))
 (bsel ((nsI (unSegs (segsF (drawNearV (unBytes (bytesF a0))).fst)) (drawNearV (unBytes (bytesF a0))).snd.fst (drawNearV (unBytes (bytesF a0))).snd.snd == nsI (unSegs (segsF (drawNearV (unBytes (bytesF a0))).fst)) (drawNearV (unBytes (bytesF a0))).snd.fst (drawNearV (unBytes (bytesF a0))).snd.snd) == true)
 (bsel ((((bif okT (nsU (unSegs (segsF (drawNearV (unBytes (bytesF a0))).fst)) (drawNearV (unBytes (bytesF a0))).snd.fst (drawNearV (unBytes (bytesF a0))).snd.snd) (nsD (unSegs (segsF (drawNearV (unBytes (bytesF a0))).fst)) (drawNearV (unBytes (bytesF a0))).snd.fst (drawNearV (unBytes (bytesF a0))).snd.snd) then wd3 (nsU (unSegs (segsF (drawNearV (unBytes (bytesF a0))).fst)) (drawNearV (unBytes (bytesF a0))).snd.fst (drawNearV (unBytes (bytesF a0))).snd.snd) else 0) == bif okT (nsU (unSegs (segsF (drawNearV (unBytes (bytesF a0))).fst)) (drawNearV (unBytes (bytesF a0))).snd.fst (drawNearV (unBytes (bytesF a0))).snd.snd) (nsD (unSegs (segsF (drawNearV (unBytes (bytesF a0))).fst)) (drawNearV (unBytes (bytesF a0))).snd.fst (drawNearV (unBytes (bytesF a0))).snd.snd) then wd3 (nsU (unSegs (segsF (drawNearV (unBytes (bytesF a0))).fst)) (drawNearV (unBytes (bytesF a0))).snd.fst (drawNearV (unBytes (bytesF a0))).snd.snd) else 0) && (((bif okT (nsU (unSegs (segsF (drawNearV (unBytes (bytesF a0))).fst)) (drawNearV (unBytes (bytesF a0))).snd.fst (drawNearV (unBytes (bytesF a0))).snd.snd) (nsD (unSegs (segsF (drawNearV (unBytes (bytesF a0))).fst)) (drawNearV (unBytes (bytesF a0))).snd.fst (drawNearV (unBytes (bytesF a0))).snd.snd) then wd2 (nsU (unSegs (segsF (drawNearV (unBytes (bytesF a0))).fst)) (drawNearV (unBytes (bytesF a0))).snd.fst (drawNearV (unBytes (bytesF a0))).snd.snd) else 0) == bif okT (nsU (unSegs (segsF (drawNearV (unBytes (bytesF a0))).fst)) (drawNearV (unBytes (bytesF a0))).snd.fst (drawNearV (unBytes (bytesF a0))).snd.snd) (nsD (unSegs (segsF (drawNearV (unBytes (bytesF a0))).fst)) (drawNearV (unBytes (bytesF a0))).snd.fst (drawNearV (unBytes (bytesF a0))).snd.snd) then wd2 (nsU (unSegs (segsF (drawNearV (unBytes (bytesF a0))).fst)) (drawNearV (unBytes (bytesF a0))).snd.fst (drawNearV (unBytes (bytesF a0))).snd.snd) else 0) && (((bif okT (nsU (unSegs (segsF (drawNearV (unBytes (bytesF a0))).fst)) (drawNearV (unBytes (bytesF a0))).snd.fst (drawNearV (unBytes (bytesF a0))).snd.snd) (nsD (unSegs (segsF (drawNearV (unBytes (bytesF a0))).fst)) (drawNearV (unBytes (bytesF a0))).snd.fst (drawNearV (unBytes (bytesF a0))).snd.snd) then wd1 (nsU (unSegs (segsF (drawNearV (unBytes (bytesF a0))).fst)) (drawNearV (unBytes (bytesF a0))).snd.fst (drawNearV (unBytes (bytesF a0))).snd.snd) else 0) == bif okT (nsU (unSegs (segsF (drawNearV (unBytes (bytesF a0))).fst)) (drawNearV (unBytes (bytesF a0))).snd.fst (drawNearV (unBytes (bytesF a0))).snd.snd) (nsD (unSegs (segsF (drawNearV (unBytes (bytesF a0))).fst)) (drawNearV (unBytes (bytesF a0))).snd.fst (drawNearV (unBytes (bytesF a0))).snd.snd) then wd1 (nsU (unSegs (segsF (drawNearV (unBytes (bytesF a0))).fst)) (drawNearV (unBytes (bytesF a0))).snd.fst (drawNearV (unBytes (bytesF a0))).snd.snd) else 0) && (((bif okT (nsU (unSegs (segsF (drawNearV (unBytes (bytesF a0))).fst)) (drawNearV (unBytes (bytesF a0))).snd.fst (drawNearV (unBytes (bytesF a0))).snd.snd) (nsD (unSegs (segsF (drawNearV (unBytes (bytesF a0))).fst)) (drawNearV (unBytes (bytesF a0))).snd.fst (drawNearV (unBytes (bytesF a0))).snd.snd) then wd0 (nsU (unSegs (segsF (drawNearV (unBytes (bytesF a0))).fst)) (drawNearV (unBytes (bytesF a0))).snd.fst (drawNearV (unBytes (bytesF a0))).snd.snd) else 0) == bif okT (nsU (unSegs (segsF (drawNearV (unBytes (bytesF a0))).fst)) (drawNearV (unBytes (bytesF a0))).snd.fst (drawNearV (unBytes (bytesF a0))).snd.snd) (nsD (unSegs (segsF (drawNearV (unBytes (bytesF a0))).fst)) (drawNearV (unBytes (bytesF a0))).snd.fst (drawNearV (unBytes (bytesF a0))).snd.snd) then wd0 (nsU (unSegs (segsF (drawNearV (unBytes (bytesF a0))).fst)) (drawNearV (unBytes (bytesF a0))).snd.fst (drawNearV (unBytes (bytesF a0))).snd.snd) else 0) && true))) && (((bif okT (nsU (unSegs (segsF (drawNearV (unBytes (bytesF a0))).fst)) (drawNearV (unBytes (bytesF a0))).snd.fst (drawNearV (unBytes (bytesF a0))).snd.snd) (nsD (unSegs (segsF (drawNearV (unBytes (bytesF a0))).fst)) (drawNearV (unBytes (bytesF a0))).snd.fst (drawNearV (unBytes (bytesF a0))).snd.snd) then wd3 (nsD (unSegs (segsF (drawNearV (unBytes (bytesF a0))).fst)) (drawNearV (unBytes (bytesF a0))).snd.fst (drawNearV (unBytes (bytesF a0))).snd.snd) else 0) == bif okT (nsU (unSegs (segsF (drawNearV (unBytes (bytesF a0))).fst)) (drawNearV (unBytes (bytesF a0))).snd.fst (drawNearV (unBytes (bytesF a0))).snd.snd) (nsD (unSegs (segsF (drawNearV (unBytes (bytesF a0))).fst)) (drawNearV (unBytes (bytesF a0))).snd.fst (drawNearV (unBytes (bytesF a0))).snd.snd) then wd3 (nsD (unSegs (segsF (drawNearV (unBytes (bytesF a0))).fst)) (drawNearV (unBytes (bytesF a0))).snd.fst (drawNearV (unBytes (bytesF a0))).snd.snd) else 0) && (((bif okT (nsU (unSegs (segsF (drawNearV (unBytes (bytesF a0))).fst)) (drawNearV (unBytes (bytesF a0))).snd.fst (drawNearV (unBytes (bytesF a0))).snd.snd) (nsD (unSegs (segsF (drawNearV (unBytes (bytesF a0))).fst)) (drawNearV (unBytes (bytesF a0))).snd.fst (drawNearV (unBytes (bytesF a0))).snd.snd) then wd2 (nsD (unSegs (segsF (drawNearV (unBytes (bytesF a0))).fst)) (drawNearV (unBytes (bytesF a0))).snd.fst (drawNearV (unBytes (bytesF a0))).snd.snd) else 0) == bif okT (nsU (unSegs (segsF (drawNearV (unBytes (bytesF a0))).fst)) (drawNearV (unBytes (bytesF a0))).snd.fst (drawNearV (unBytes (bytesF a0))).snd.snd) (nsD (unSegs (segsF (drawNearV (unBytes (bytesF a0))).fst)) (drawNearV (unBytes (bytesF a0))).snd.fst (drawNearV (unBytes (bytesF a0))).snd.snd) then wd2 (nsD (unSegs (segsF (drawNearV (unBytes (bytesF a0))).fst)) (drawNearV (unBytes (bytesF a0))).snd.fst (drawNearV (unBytes (bytesF a0))).snd.snd) else 0) && (((bif okT (nsU (unSegs (segsF (drawNearV (unBytes (bytesF a0))).fst)) (drawNearV (unBytes (bytesF a0))).snd.fst (drawNearV (unBytes (bytesF a0))).snd.snd) (nsD (unSegs (segsF (drawNearV (unBytes (bytesF a0))).fst)) (drawNearV (unBytes (bytesF a0))).snd.fst (drawNearV (unBytes (bytesF a0))).snd.snd) then wd1 (nsD (unSegs (segsF (drawNearV (unBytes (bytesF a0))).fst)) (drawNearV (unBytes (bytesF a0))).snd.fst (drawNearV (unBytes (bytesF a0))).snd.snd) else 0) == bif okT (nsU (unSegs (segsF (drawNearV (unBytes (bytesF a0))).fst)) (drawNearV (unBytes (bytesF a0))).snd.fst (drawNearV (unBytes (bytesF a0))).snd.snd) (nsD (unSegs (segsF (drawNearV (unBytes (bytesF a0))).fst)) (drawNearV (unBytes (bytesF a0))).snd.fst (drawNearV (unBytes (bytesF a0))).snd.snd) then wd1 (nsD (unSegs (segsF (drawNearV (unBytes (bytesF a0))).fst)) (drawNearV (unBytes (bytesF a0))).snd.fst (drawNearV (unBytes (bytesF a0))).snd.snd) else 0) && (((bif okT (nsU (unSegs (segsF (drawNearV (unBytes (bytesF a0))).fst)) (drawNearV (unBytes (bytesF a0))).snd.fst (drawNearV (unBytes (bytesF a0))).snd.snd) (nsD (unSegs (segsF (drawNearV (unBytes (bytesF a0))).fst)) (drawNearV (unBytes (bytesF a0))).snd.fst (drawNearV (unBytes (bytesF a0))).snd.snd) then wd0 (nsD (unSegs (segsF (drawNearV (unBytes (bytesF a0))).fst)) (drawNearV (unBytes (bytesF a0))).snd.fst (drawNearV (unBytes (bytesF a0))).snd.snd) else 0) == bif okT (nsU (unSegs (segsF (drawNearV (unBytes (bytesF a0))).fst)) (drawNearV (unBytes (bytesF a0))).snd.fst (drawNearV (unBytes (bytesF a0))).snd.snd) (nsD (unSegs (segsF (drawNearV (unBytes (bytesF a0))).fst)) (drawNearV (unBytes (bytesF a0))).snd.fst (drawNearV (unBytes (bytesF a0))).snd.snd) then wd0 (nsD (unSegs (segsF (drawNearV (unBytes (bytesF a0))).fst)) (drawNearV (unBytes (bytesF a0))).snd.fst (drawNearV (unBytes (bytesF a0))).snd.snd) else 0) && true))) && true)) == true)
 (ret (okT (nsU (unSegs (segsF (drawNearV (unBytes (bytesF a0))).fst)) (drawNearV (unBytes (bytesF a0))).snd.fst (drawNearV (unBytes (bytesF a0))).snd.snd) (nsD (unSegs (segsF (drawNearV (unBytes (bytesF a0))).fst)) (drawNearV (unBytes (bytesF a0))).snd.fst (drawNearV (unBytes (bytesF a0))).snd.snd) == okT (nsU (unSegs (segsF (drawNearV (unBytes (bytesF a0))).fst)) (drawNearV (unBytes (bytesF a0))).snd.fst (drawNearV (unBytes (bytesF a0))).snd.snd) (nsD (unSegs (segsF (drawNearV (unBytes (bytesF a0))).fst)) (drawNearV (unBytes (bytesF a0))).snd.fst (drawNearV (unBytes (bytesF a0))).snd.snd)))
 (ret (false)))
 (ret (false)))
 (c9 ((drawNearV (unBytes (bytesF a0))).fst) ((drawNearV (unBytes (bytesF a0))).snd.fst) ((drawNearV (unBytes (bytesF a0))).snd.snd) (nsI (unSegs (segsF (drawNearV (unBytes (bytesF a0))).fst)) (drawNearV (unBytes (bytesF a0))).snd.fst (drawNearV (unBytes (bytesF a0))).snd.snd) (bif okT (nsU (unSegs (segsF (drawNearV (unBytes (bytesF a0))).fst)) (drawNearV (unBytes (bytesF a0))).snd.fst (drawNearV (unBytes (bytesF a0))).snd.snd) (nsD (unSegs (segsF (drawNearV (unBytes (bytesF a0))).fst)) (drawNearV (unBytes (bytesF a0))).snd.fst (drawNearV (unBytes (bytesF a0))).snd.snd) then wd3 (nsU (unSegs (segsF (drawNearV (unBytes (bytesF a0))).fst)) (drawNearV (unBytes (bytesF a0))).snd.fst (drawNearV (unBytes (bytesF a0))).snd.snd) else 0) (bif okT (nsU (unSegs (segsF (drawNearV (unBytes (bytesF a0))).fst)) (drawNearV (unBytes (bytesF a0))).snd.fst (drawNearV (unBytes (bytesF a0))).snd.snd) (nsD (unSegs (segsF (drawNearV (unBytes (bytesF a0))).fst)) (drawNearV (unBytes (bytesF a0))).snd.fst (drawNearV (unBytes (bytesF a0))).snd.snd) then wd2 (nsU (unSegs (segsF (drawNearV (unBytes (bytesF a0))).fst)) (drawNearV (unBytes (bytesF a0))).snd.fst (drawNearV (unBytes (bytesF a0))).snd.snd) else 0) (bif okT (nsU (unSegs (segsF (drawNearV (unBytes (bytesF a0))).fst)) (drawNearV (unBytes (bytesF a0))).snd.fst (drawNearV (unBytes (bytesF a0))).snd.snd) (nsD (unSegs (segsF (drawNearV (unBytes (bytesF a0))).fst)) (drawNearV (unBytes (bytesF a0))).snd.fst (drawNearV (unBytes (bytesF a0))).snd.snd) then wd1 (nsU (unSegs (segsF (drawNearV (unBytes (bytesF a0))).fst)) (drawNearV (unBytes (bytesF a0))).snd.fst (drawNearV (unBytes (bytesF a0))).snd.snd) else 0) (bif okT (nsU (unSegs (segsF (drawNearV (unBytes (bytesF a0))).fst)) (drawNearV (unBytes (bytesF a0))).snd.fst (drawNearV (unBytes (bytesF a0))).snd.snd) (nsD (unSegs (segsF (drawNearV (unBytes (bytesF a0))).fst)) (drawNearV (unBytes (bytesF a0))).snd.fst (drawNearV (unBytes (bytesF a0))).snd.snd) then wd0 (nsU (unSegs (segsF (drawNearV (unBytes (bytesF a0))).fst)) (drawNearV (unBytes (bytesF a0))).snd.fst (drawNearV (unBytes (bytesF a0))).snd.snd) else 0) (bif okT (nsU (unSegs (segsF (drawNearV (unBytes (bytesF a0))).fst)) (drawNearV (unBytes (bytesF a0))).snd.fst (drawNearV (unBytes (bytesF a0))).snd.snd) (nsD (unSegs (segsF (drawNearV (unBytes (bytesF a0))).fst)) (drawNearV (unBytes (bytesF a0))).snd.fst (drawNearV (unBytes (bytesF a0))).snd.snd) then wd3 (nsD (unSegs (segsF (drawNearV (unBytes (bytesF a0))).fst)) (drawNearV (unBytes (bytesF a0))).snd.fst (drawNearV (unBytes (bytesF a0))).snd.snd) else 0) (bif okT (nsU (unSegs (segsF (drawNearV (unBytes (bytesF a0))).fst)) (drawNearV (unBytes (bytesF a0))).snd.fst (drawNearV (unBytes (bytesF a0))).snd.snd) (nsD (unSegs (segsF (drawNearV (unBytes (bytesF a0))).fst)) (drawNearV (unBytes (bytesF a0))).snd.fst (drawNearV (unBytes (bytesF a0))).snd.snd) then wd2 (nsD (unSegs (segsF (drawNearV (unBytes (bytesF a0))).fst)) (drawNearV (unBytes (bytesF a0))).snd.fst (drawNearV (unBytes (bytesF a0))).snd.snd) else 0) (bif okT (nsU (unSegs (segsF (drawNearV (unBytes (bytesF a0))).fst)) (drawNearV (unBytes (bytesF a0))).snd.fst (drawNearV (unBytes (bytesF a0))).snd.snd) (nsD (unSegs (segsF (drawNearV (unBytes (bytesF a0))).fst)) (drawNearV (unBytes (bytesF a0))).snd.fst (drawNearV (unBytes (bytesF a0))).snd.snd) then wd1 (nsD (unSegs (segsF (drawNearV (unBytes (bytesF a0))).fst)) (drawNearV (unBytes (bytesF a0))).snd.fst (drawNearV (unBytes (bytesF a0))).snd.snd) else 0) (bif okT (nsU (unSegs (segsF (drawNearV (unBytes (bytesF a0))).fst)) (drawNearV (unBytes (bytesF a0))).snd.fst (drawNearV (unBytes (bytesF a0))).snd.snd) (nsD (unSegs (segsF (drawNearV (unBytes (bytesF a0))).fst)) (drawNearV (unBytes (bytesF a0))).snd.fst (drawNearV (unBytes (bytesF a0))).snd.snd) then wd0 (nsD (unSegs (segsF (drawNearV (unBytes (bytesF a0))).fst)) (drawNearV (unBytes (bytesF a0))).snd.fst (drawNearV (unBytes (bytesF a0))).snd.snd) else 0) (0)))
 (bsel ((nsI (unSegs (segsF (drawNearV (unBytes (bytesF a0))).fst)) (drawNearV (unBytes (bytesF a0))).snd.fst (drawNearV (unBytes (bytesF a0))).snd.snd == nsI (unSegs (segsF (drawNearV (unBytes (bytesF a0))).fst)) (drawNearV (unBytes (bytesF a0))).snd.fst (drawNearV (unBytes (bytesF a0))).snd.snd) == true)
 (bsel ((((bif okT (nsU (unSegs (segsF (drawNearV (unBytes (bytesF a0))).fst)) (drawNearV (unBytes (bytesF a0))).snd.fst (drawNearV (unBytes (bytesF a0))).snd.snd) (nsD (unSegs (segsF (drawNearV (unBytes (bytesF a0))).fst)) (drawNearV (unBytes (bytesF a0))).snd.fst (drawNearV (unBytes (bytesF a0))).snd.snd) then wd3 (nsU (unSegs (segsF (drawNearV (unBytes (bytesF a0))).fst)) (drawNearV (unBytes (bytesF a0))).snd.fst (drawNearV (unBytes (bytesF a0))).snd.snd) else 0) == bif okT (nsU (unSegs (segsF (drawNearV (unBytes (bytesF a0))).fst)) (drawNearV (unBytes (bytesF a0))).snd.fst (drawNearV (unBytes (bytesF a0))).snd.snd) (nsD (unSegs (segsF (drawNearV (unBytes (bytesF a0))).fst)) (drawNearV (unBytes (bytesF a0))).snd.fst (drawNearV (unBytes (bytesF a0))).snd.snd) then wd3 (nsU (unSegs (segsF (drawNearV (unBytes (bytesF a0))).fst)) (drawNearV (unBytes (bytesF a0))).snd.fst (drawNearV (unBytes (bytesF a0))).snd.snd) else 0) && (((bif okT (nsU (unSegs (segsF (drawNearV (unBytes (bytesF a0))).fst)) (drawNearV (unBytes (bytesF a0))).snd.fst (drawNearV (unBytes (bytesF a0))).snd.snd) (nsD (unSegs (segsF (drawNearV (unBytes (bytesF a0))).fst)) (drawNearV (unBytes (bytesF a0))).snd.fst (drawNearV (unBytes (bytesF a0))).snd.snd) then wd2 (nsU (unSegs (segsF (drawNearV (unBytes (bytesF a0))).fst)) (drawNearV (unBytes (bytesF a0))).snd.fst (drawNearV (unBytes (bytesF a0))).snd.snd) else 0) == bif okT (nsU (unSegs (segsF (drawNearV (unBytes (bytesF a0))).fst)) (drawNearV (unBytes (bytesF a0))).snd.fst (drawNearV (unBytes (bytesF a0))).snd.snd) (nsD (unSegs (segsF (drawNearV (unBytes (bytesF a0))).fst)) (drawNearV (unBytes (bytesF a0))).snd.fst (drawNearV (unBytes (bytesF a0))).snd.snd) then wd2 (nsU (unSegs (segsF (drawNearV (unBytes (bytesF a0))).fst)) (drawNearV (unBytes (bytesF a0))).snd.fst (drawNearV (unBytes (bytesF a0))).snd.snd) else 0) && (((bif okT (nsU (unSegs (segsF (drawNearV (unBytes (bytesF a0))).fst)) (drawNearV (unBytes (bytesF a0))).snd.fst (drawNearV (unBytes (bytesF a0))).snd.snd) (nsD (unSegs (segsF (drawNearV (unBytes (bytesF a0))).fst)) (drawNearV (unBytes (bytesF a0))).snd.fst (drawNearV (unBytes (bytesF a0))).snd.snd) then wd1 (nsU (unSegs (segsF (drawNearV (unBytes (bytesF a0))).fst)) (drawNearV (unBytes (bytesF a0))).snd.fst (drawNearV (unBytes (bytesF a0))).snd.snd) else 0) == bif okT (nsU (unSegs (segsF (drawNearV (unBytes (bytesF a0))).fst)) (drawNearV (unBytes (bytesF a0))).snd.fst (drawNearV (unBytes (bytesF a0))).snd.snd) (nsD (unSegs (segsF (drawNearV (unBytes (bytesF a0))).fst)) (drawNearV (unBytes (bytesF a0))).snd.fst (drawNearV (unBytes (bytesF a0))).snd.snd) then wd1 (nsU (unSegs (segsF (drawNearV (unBytes (bytesF a0))).fst)) (drawNearV (unBytes (bytesF a0))).snd.fst (drawNearV (unBytes (bytesF a0))).snd.snd) else 0) && (((bif okT (nsU (unSegs (segsF (drawNearV (unBytes (bytesF a0))).fst)) (drawNearV (unBytes (bytesF a0))).snd.fst (drawNearV (unBytes (bytesF a0))).snd.snd) (nsD (unSegs (segsF (drawNearV (unBytes (bytesF a0))).fst)) (drawNearV (unBytes (bytesF a0))).snd.fst (drawNearV (unBytes (bytesF a0))).snd.snd) then wd0 (nsU (unSegs (segsF (drawNearV (unBytes (bytesF a0))).fst)) (drawNearV (unBytes (bytesF a0))).snd.fst (drawNearV (unBytes (bytesF a0))).snd.snd) else 0) == bif okT (nsU (unSegs (segsF (drawNearV (unBytes (bytesF a0))).fst)) (drawNearV (unBytes (bytesF a0))).snd.fst (drawNearV (unBytes (bytesF a0))).snd.snd) (nsD (unSegs (segsF (drawNearV (unBytes (bytesF a0))).fst)) (drawNearV (unBytes (bytesF a0))).snd.fst (drawNearV (unBytes (bytesF a0))).snd.snd) then wd0 (nsU (unSegs (segsF (drawNearV (unBytes (bytesF a0))).fst)) (drawNearV (unBytes (bytesF a0))).snd.fst (drawNearV (unBytes (bytesF a0))).snd.snd) else 0) && true))) && (((bif okT (nsU (unSegs (segsF (drawNearV (unBytes (bytesF a0))).fst)) (drawNearV (unBytes (bytesF a0))).snd.fst (drawNearV (unBytes (bytesF a0))).snd.snd) (nsD (unSegs (segsF (drawNearV (unBytes (bytesF a0))).fst)) (drawNearV (unBytes (bytesF a0))).snd.fst (drawNearV (unBytes (bytesF a0))).snd.snd) then wd3 (nsD (unSegs (segsF (drawNearV (unBytes (bytesF a0))).fst)) (drawNearV (unBytes (bytesF a0))).snd.fst (drawNearV (unBytes (bytesF a0))).snd.snd) else 0) == bif okT (nsU (unSegs (segsF (drawNearV (unBytes (bytesF a0))).fst)) (drawNearV (unBytes (bytesF a0))).snd.fst (drawNearV (unBytes (bytesF a0))).snd.snd) (nsD (unSegs (segsF (drawNearV (unBytes (bytesF a0))).fst)) (drawNearV (unBytes (bytesF a0))).snd.fst (drawNearV (unBytes (bytesF a0))).snd.snd) then wd3 (nsD (unSegs (segsF (drawNearV (unBytes (bytesF a0))).fst)) (drawNearV (unBytes (bytesF a0))).snd.fst (drawNearV (unBytes (bytesF a0))).snd.snd) else 0) && (((bif okT (nsU (unSegs (segsF (drawNearV (unBytes (bytesF a0))).fst)) (drawNearV (unBytes (bytesF a0))).snd.fst (drawNearV (unBytes (bytesF a0))).snd.snd) (nsD (unSegs (segsF (drawNearV (unBytes (bytesF a0))).fst)) (drawNearV (unBytes (bytesF a0))).snd.fst (drawNearV (unBytes (bytesF a0))).snd.snd) then wd2 (nsD (unSegs (segsF (drawNearV (unBytes (bytesF a0))).fst)) (drawNearV (unBytes (bytesF a0))).snd.fst (drawNearV (unBytes (bytesF a0))).snd.snd) else 0) == bif okT (nsU (unSegs (segsF (drawNearV (unBytes (bytesF a0))).fst)) (drawNearV (unBytes (bytesF a0))).snd.fst (drawNearV (unBytes (bytesF a0))).snd.snd) (nsD (unSegs (segsF (drawNearV (unBytes (bytesF a0))).fst)) (drawNearV (unBytes (bytesF a0))).snd.fst (drawNearV (unBytes (bytesF a0))).snd.snd) then wd2 (nsD (unSegs (segsF (drawNearV (unBytes (bytesF a0))).fst)) (drawNearV (unBytes (bytesF a0))).snd.fst (drawNearV (unBytes (bytesF a0))).snd.snd) else 0) && (((bif okT (nsU (unSegs (segsF (drawNearV (unBytes (bytesF a0))).fst)) (drawNearV (unBytes (bytesF a0))).snd.fst (drawNearV (unBytes (bytesF a0))).snd.snd) (nsD (unSegs (segsF (drawNearV (unBytes (bytesF a0))).fst)) (drawNearV (unBytes (bytesF a0))).snd.fst (drawNearV (unBytes (bytesF a0))).snd.snd) then wd1 (nsD (unSegs (segsF (drawNearV (unBytes (bytesF a0))).fst)) (drawNearV (unBytes (bytesF a0))).snd.fst (drawNearV (unBytes (bytesF a0))).snd.snd) else 0) == bif okT (nsU (unSegs (segsF (drawNearV (unBytes (bytesF a0))).fst)) (drawNearV (unBytes (bytesF a0))).snd.fst (drawNearV (unBytes (bytesF a0))).snd.snd) (nsD (unSegs (segsF (drawNearV (unBytes (bytesF a0))).fst)) (drawNearV (unBytes (bytesF a0))).snd.fst (drawNearV (unBytes (bytesF a0))).snd.snd) then wd1 (nsD (unSegs (segsF (drawNearV (unBytes (bytesF a0))).fst)) (drawNearV (unBytes (bytesF a0))).snd.fst (drawNearV (unBytes (bytesF a0))).snd.snd) else 0) && (((bif okT (nsU (unSegs (segsF (drawNearV (unBytes (bytesF a0))).fst)) (drawNearV (unBytes (bytesF a0))).snd.fst (drawNearV (unBytes (bytesF a0))).snd.snd) (nsD (unSegs (segsF (drawNearV (unBytes (bytesF a0))).fst)) (drawNearV (unBytes (bytesF a0))).snd.fst (drawNearV (unBytes (bytesF a0))).snd.snd) then wd0 (nsD (unSegs (segsF (drawNearV (unBytes (bytesF a0))).fst)) (drawNearV (unBytes (bytesF a0))).snd.fst (drawNearV (unBytes (bytesF a0))).snd.snd) else 0) == bif okT (nsU (unSegs (segsF (drawNearV (unBytes (bytesF a0))).fst)) (drawNearV (unBytes (bytesF a0))).snd.fst (drawNearV (unBytes (bytesF a0))).snd.snd) (nsD (unSegs (segsF (drawNearV (unBytes (bytesF a0))).fst)) (drawNearV (unBytes (bytesF a0))).snd.fst (drawNearV (unBytes (bytesF a0))).snd.snd) then wd0 (nsD (unSegs (segsF (drawNearV (unBytes (bytesF a0))).fst)) (drawNearV (unBytes (bytesF a0))).snd.fst (drawNearV (unBytes (bytesF a0))).snd.snd) else 0) && true))) && true)) == true)
 (ret (okT (nsU (unSegs (segsF (drawNearV (unBytes (bytesF a0))).fst)) (drawNearV (unBytes (bytesF a0))).snd.fst (drawNearV (unBytes (bytesF a0))).snd.snd) (nsD (unSegs (segsF (drawNearV (unBytes (bytesF a0))).fst)) (drawNearV (unBytes (bytesF a0))).snd.fst (drawNearV (unBytes (bytesF a0))).snd.snd) == okT (nsU (unSegs (segsF (drawNearV (unBytes (bytesF a0))).fst)) (drawNearV (unBytes (bytesF a0))).snd.fst (drawNearV (unBytes (bytesF a0))).snd.snd) (nsD (unSegs (segsF (drawNearV (unBytes (bytesF a0))).fst)) (drawNearV (unBytes (bytesF a0))).snd.fst (drawNearV (unBytes (bytesF a0))).snd.snd)))
 (ret (false)))
 (ret (false))))
 (bsel ((nsI (unSegs (segsF (drawNearV (unBytes (bytesF a0))).fst)) (drawNearV (unBytes (bytesF a0))).snd.fst (drawNearV (unBytes (bytesF a0))).snd.snd == nsI (unSegs (segsF (drawNearV (unBytes (bytesF a0))).fst)) (drawNearV (unBytes (bytesF a0))).snd.fst (drawNearV (unBytes (bytesF a0))).snd.snd) == true)
 (bsel ((((bif okT (nsU (unSegs (segsF (drawNearV (unBytes (bytesF a0))).fst)) (drawNearV (unBytes (bytesF a0))).snd.fst (drawNearV (unBytes (bytesF a0))).snd.snd) (nsD (unSegs (segsF (drawNearV (unBytes (bytesF a0))).fst)) (drawNearV (unBytes (bytesF a0))).snd.fst (drawNearV (unBytes (bytesF a0))).snd.snd) then wd3 (nsU (unSegs (segsF (drawNearV (unBytes (bytesF a0))).fst)) (drawNearV (unBytes (bytesF a0))).snd.fst (drawNearV (unBytes (bytesF a0))).snd.snd) else 0) == bif okT (nsU (unSegs (segsF (drawNearV (unBytes (bytesF a0))).fst)) (drawNearV (unBytes (bytesF a0))).snd.fst (drawNearV (unBytes (bytesF a0))).snd.snd) (nsD (unSegs (segsF (drawNearV (unBytes (bytesF a0))).fst)) (drawNearV (unBytes (bytesF a0))).snd.fst (drawNearV (unBytes (bytesF a0))).snd.snd) then wd3 (nsU (unSegs (segsF (drawNearV (unBytes (bytesF a0))).fst)) (drawNearV (unBytes (bytesF a0))).snd.fst (drawNearV (unBytes (bytesF a0))).snd.snd) else 0) && (((bif okT (nsU (unSegs (segsF (drawNearV (unBytes (bytesF a0))).fst)) (drawNearV (unBytes (bytesF a0))).snd.fst (drawNearV (unBytes (bytesF a0))).snd.snd) (nsD (unSegs (segsF (drawNearV (unBytes (bytesF a0))).fst)) (drawNearV (unBytes (bytesF a0))).snd.fst (drawNearV (unBytes (bytesF a0))).snd.snd) then wd2 (nsU (unSegs (segsF (drawNearV (unBytes (bytesF a0))).fst)) (drawNearV (unBytes (bytesF a0))).snd.fst (drawNearV (unBytes (bytesF a0))).snd.snd) else 0) == bif okT (nsU (unSegs (segsF (drawNearV (unBytes (bytesF a0))).fst)) (drawNearV (unBytes (bytesF a0))).snd.fst (drawNearV (unBytes (bytesF a0))).snd.snd) (nsD (unSegs (segsF (drawNearV (unBytes (bytesF a0))).fst)) (drawNearV (unBytes (bytesF a0))).snd.fst (drawNearV (unBytes (bytesF a0))).snd.snd) then wd2 (nsU (unSegs (segsF (drawNearV (unBytes (bytesF a0))).fst)) (drawNearV (unBytes (bytesF a0))).snd.fst (drawNearV (unBytes (bytesF a0))).snd.snd) else 0) && (((bif okT (nsU (unSegs (segsF (drawNearV (unBytes (bytesF a0))).fst)) (drawNearV (unBytes (bytesF a0))).snd.fst (drawNearV (unBytes (bytesF a0))).snd.snd) (nsD (unSegs (segsF (drawNearV (unBytes (bytesF a0))).fst)) (drawNearV (unBytes (bytesF a0))).snd.fst (drawNearV (unBytes (bytesF a0))).snd.snd) then wd1 (nsU (unSegs (segsF (drawNearV (unBytes (bytesF a0))).fst)) (drawNearV (unBytes (bytesF a0))).snd.fst (drawNearV (unBytes (bytesF a0))).snd.snd) else 0) == bif okT (nsU (unSegs (segsF (drawNearV (unBytes (bytesF a0))).fst)) (drawNearV (unBytes (bytesF a0))).snd.fst (drawNearV (unBytes (bytesF a0))).snd.snd) (nsD (unSegs (segsF (drawNearV (unBytes (bytesF a0))).fst)) (drawNearV (unBytes (bytesF a0))).snd.fst (drawNearV (unBytes (bytesF a0))).snd.snd) then wd1 (nsU (unSegs (segsF (drawNearV (unBytes (bytesF a0))).fst)) (drawNearV (unBytes (bytesF a0))).snd.fst (drawNearV (unBytes (bytesF a0))).snd.snd) else 0) && (((bif okT (nsU (unSegs (segsF (drawNearV (unBytes (bytesF a0))).fst)) (drawNearV (unBytes (bytesF a0))).snd.fst (drawNearV (unBytes (bytesF a0))).snd.snd) (nsD (unSegs (segsF (drawNearV (unBytes (bytesF a0))).fst)) (drawNearV (unBytes (bytesF a0))).snd.fst (drawNearV (unBytes (bytesF a0))).snd.snd) then wd0 (nsU (unSegs (segsF (drawNearV (unBytes (bytesF a0))).fst)) (drawNearV (unBytes (bytesF a0))).snd.fst (drawNearV (unBytes (bytesF a0))).snd.snd) else 0) == bif okT (nsU (unSegs (segsF (drawNearV (unBytes (bytesF a0))).fst)) (drawNearV (unBytes (bytesF a0))).snd.fst (drawNearV (unBytes (bytesF a0))).snd.snd) (nsD (unSegs (segsF (drawNearV (unBytes (bytesF a0))).fst)) (drawNearV (unBytes (bytesF a0))).snd.fst (drawNearV (unBytes (bytesF a0))).snd.snd) then wd0 (nsU (unSegs (segsF (drawNearV (unBytes (bytesF a0))).fst)) (drawNearV (unBytes (bytesF a0))).snd.fst (drawNearV (unBytes (bytesF a0))).snd.snd) else 0) && true))) && (((bif okT (nsU (unSegs (segsF (drawNearV (unBytes (bytesF a0))).fst)) (drawNearV (unBytes (bytesF a0))).snd.fst (drawNearV (unBytes (bytesF a0))).snd.snd) (nsD (unSegs (segsF (drawNearV (unBytes (bytesF a0))).fst)) (drawNearV (unBytes (bytesF a0))).snd.fst (drawNearV (unBytes (bytesF a0))).snd.snd) then wd3 (nsD (unSegs (segsF (drawNearV (unBytes (bytesF a0))).fst)) (drawNearV (unBytes (bytesF a0))).snd.fst (drawNearV (unBytes (bytesF a0))).snd.snd) else 0) == bif okT (nsU (unSegs (segsF (drawNearV (unBytes (bytesF a0))).fst)) (drawNearV (unBytes (bytesF a0))).snd.fst (drawNearV (unBytes (bytesF a0))).snd.snd) (nsD (unSegs (segsF (drawNearV (unBytes (bytesF a0))).fst)) (drawNearV (unBytes (bytesF a0))).snd.fst (drawNearV (unBytes (bytesF a0))).snd.snd) then wd3 (nsD (unSegs (segsF (drawNearV (unBytes (bytesF a0))).fst)) (drawNearV (unBytes (bytesF a0))).snd.fst (drawNearV (unBytes (bytesF a0))).snd.snd) else 0) && (((bif okT (nsU (unSegs (segsF (drawNearV (unBytes (bytesF a0))).fst)) (drawNearV (unBytes (bytesF a0))).snd.fst (drawNearV (unBytes (bytesF a0))).snd.snd) (nsD (unSegs (segsF (drawNearV (unBytes (bytesF a0))).fst)) (drawNearV (unBytes (bytesF a0))).snd.fst (drawNearV (unBytes (bytesF a0))).snd.snd) then wd2 (nsD (unSegs (segsF (drawNearV (unBytes (bytesF a0))).fst)) (drawNearV (unBytes (bytesF a0))).snd.fst (drawNearV (unBytes (bytesF a0))).snd.snd) else 0) == bif okT (nsU (unSegs (segsF (drawNearV (unBytes (bytesF a0))).fst)) (drawNearV (unBytes (bytesF a0))).snd.fst (drawNearV (unBytes (bytesF a0))).snd.snd) (nsD (unSegs (segsF (drawNearV (unBytes (bytesF a0))).fst)) (drawNearV (unBytes (bytesF a0))).snd.fst (drawNearV (unBytes (bytesF a0))).snd.snd) then wd2 (nsD (unSegs (segsF (drawNearV (unBytes (bytesF a0))).fst)) (drawNearV (unBytes (bytesF a0))).snd.fst (drawNearV (unBytes (bytesF a0))).snd.snd) else 0) && (((bif okT (nsU (unSegs (segsF (drawNearV (unBytes (bytesF a0))).fst)) (drawNearV (unBytes (bytesF a0))).snd.fst (drawNearV (unBytes (bytesF a0))).snd.snd) (nsD (unSegs (segsF (drawNearV (unBytes (bytesF a0))).fst)) (drawNearV (unBytes (bytesF a0))).snd.fst (drawNearV (unBytes (bytesF a0))).snd.snd) then wd1 (nsD (unSegs (segsF (drawNearV (unBytes (bytesF a0))).fst)) (drawNearV (unBytes (bytesF a0))).snd.fst (drawNearV (unBytes (bytesF a0))).snd.snd) else 0) == bif okT (nsU (unSegs (segsF (drawNearV (unBytes (bytesF a0))).fst)) (drawNearV (unBytes (bytesF a0))).snd.fst (drawNearV (unBytes (bytesF a0))).snd.snd) (nsD (unSegs (segsF (drawNearV (unBytes (bytesF a0))).fst)) (drawNearV (unBytes (bytesF a0))).snd.fst (drawNearV (unBytes (bytesF a0))).snd.snd) then wd1 (nsD (unSegs (segsF (drawNearV (unBytes (bytesF a0))).fst)) (drawNearV (unBytes (bytesF a0))).snd.fst (drawNearV (unBytes (bytesF a0))).snd.snd) else 0) && (((bif okT (nsU (unSegs (segsF (drawNearV (unBytes (bytesF a0))).fst)) (drawNearV (unBytes (bytesF a0))).snd.fst (drawNearV (unBytes (bytesF a0))).snd.snd) (nsD (unSegs (segsF (drawNearV (unBytes (bytesF a0))).fst)) (drawNearV (unBytes (bytesF a0))).snd.fst (drawNearV (unBytes (bytesF a0))).snd.snd) then wd0 (nsD (unSegs (segsF (drawNearV (unBytes (bytesF a0))).fst)) (drawNearV (unBytes (bytesF a0))).snd.fst (drawNearV (unBytes (bytesF a0))).snd.snd) else 0) == bif okT (nsU (unSegs (segsF (drawNearV (unBytes (bytesF a0))).fst)) (drawNearV (unBytes (bytesF a0))).snd.fst (drawNearV (unBytes (bytesF a0))).snd.snd) (nsD (unSegs (segsF (drawNearV (unBytes (bytesF a0))).fst)) (drawNearV (unBytes (bytesF a0))).snd.fst (drawNearV (unBytes (bytesF a0))).snd.snd) then wd0 (nsD (unSegs (segsF (drawNearV (unBytes (bytesF a0))).fst)) (drawNearV (unBytes (bytesF a0))).snd.fst (drawNearV (unBytes (bytesF a0))).snd.snd) else 0) && true))) && true)) == true)
 (ret (okT (nsU (unSegs (segsF (drawNearV (unBytes (bytesF a0))).fst)) (drawNearV (unBytes (bytesF a0))).snd.fst (drawNearV (unBytes (bytesF a0))).snd.snd) (nsD (unSegs (segsF (drawNearV (unBytes (bytesF a0))).fst)) (drawNearV (unBytes (bytesF a0))).snd.fst (drawNearV (unBytes (bytesF a0))).snd.snd) == okT (nsU (unSegs (segsF (drawNearV (unBytes (bytesF a0))).fst)) (drawNearV (unBytes (bytesF a0))).snd.fst (drawNearV (unBytes (bytesF a0))).snd.snd) (nsD (unSegs (segsF (drawNearV (unBytes (bytesF a0))).fst)) (drawNearV (unBytes (bytesF a0))).snd.fst (drawNearV (unBytes (bytesF a0))).snd.snd)))
 (ret (false)))
 (ret (false))))
 (bsel ((nsI (unSegs (segsF (drawNearV (unBytes (bytesF a0))).fst)) (drawNearV (unBytes (bytesF a0))).snd.fst (drawNearV (unBytes (bytesF a0))).snd.snd == nsI (unSegs (segsF (drawNearV (unBytes (bytesF a0))).fst)) (drawNearV (unBytes (bytesF a0))).snd.fst (drawNearV (unBytes (bytesF a0))).snd.snd) == true)
 (bsel ((((bif okT (nsU (unSegs (segsF (drawNearV (unBytes (bytesF a0))).fst)) (drawNearV (unBytes (bytesF a0))).snd.fst (drawNearV (unBytes (bytesF a0))).snd.snd) (nsD (unSegs (segsF (drawNearV (unBytes (bytesF a0))).fst)) (drawNearV (unBytes (bytesF a0))).snd.fst (drawNearV (unBytes (bytesF a0))).snd.snd) then wd3 (nsU (unSegs (segsF (drawNearV (unBytes (bytesF a0))).fst)) (drawNearV (unBytes (bytesF a0))).snd.fst (drawNearV (unBytes (bytesF a0))).snd.snd) else 0) == bif okT (nsU (unSegs (segsF (drawNearV (unBytes (bytesF a0))).fst)) (drawNearV (unBytes (bytesF a0))).snd.fst (drawNearV (unBytes (bytesF a0))).snd.snd) (nsD (unSegs (segsF (drawNearV (unBytes (bytesF a0))).fst)) (drawNearV (unBytes (bytesF a0))).snd.fst (drawNearV (unBytes (bytesF a0))).snd.snd) then wd3 (nsU (unSegs (segsF (drawNearV (unBytes (bytesF a0))).fst)) (drawNearV (unBytes (bytesF a0))).snd.fst (drawNearV (unBytes (bytesF a0))).snd.snd) else 0) && (((bif okT (nsU (unSegs (segsF (drawNearV (unBytes (bytesF a0))).fst)) (drawNearV (unBytes (bytesF a0))).snd.fst (drawNearV (unBytes (bytesF a0))).snd.snd) (nsD (unSegs (segsF (drawNearV (unBytes (bytesF a0))).fst)) (drawNearV (unBytes (bytesF a0))).snd.fst (drawNearV (unBytes (bytesF a0))).snd.snd) then wd2 (nsU (unSegs (segsF (drawNearV (unBytes (bytesF a0))).fst)) (drawNearV (unBytes (bytesF a0))).snd.fst (drawNearV (unBytes (bytesF a0))).snd.snd) else 0) == bif okT (nsU (unSegs (segsF (drawNearV (unBytes (bytesF a0))).fst)) (drawNearV (unBytes (bytesF a0))).snd.fst (drawNearV (unBytes (bytesF a0))).snd.snd) (nsD (unSegs (segsF (drawNearV (unBytes (bytesF a0))).fst)) (drawNearV (unBytes (bytesF a0))).snd.fst (drawNearV (unBytes (bytesF a0))).snd.snd) then wd2 (nsU (unSegs (segsF (drawNearV (unBytes (bytesF a0))).fst)) (drawNearV (unBytes (bytesF a0))).snd.fst (drawNearV (unBytes (bytesF a0))).snd.snd) else 0) && (((bif okT (nsU (unSegs (segsF (drawNearV (unBytes (bytesF a0))).fst)) (drawNearV (unBytes (bytesF a0))).snd.fst (drawNearV (unBytes (bytesF a0))).snd.snd) (nsD (unSegs (segsF (drawNearV (unBytes (bytesF a0))).fst)) (drawNearV (unBytes (bytesF a0))).snd.fst (drawNearV (unBytes (bytesF a0))).snd.snd) then wd1 (nsU (unSegs (segsF (drawNearV (unBytes (bytesF a0))).fst)) (drawNearV (unBytes (bytesF a0))).snd.fst (drawNearV (unBytes (bytesF a0))).snd.snd) else 0) == bif okT (nsU (unSegs (segsF (drawNearV (unBytes (bytesF a0))).fst)) (drawNearV (unBytes (bytesF a0))).snd.fst (drawNearV (unBytes (bytesF a0))).snd.snd) (nsD (unSegs (segsF (drawNearV (unBytes (bytesF a0))).fst)) (drawNearV (unBytes (bytesF a0))).snd.fst (drawNearV (unBytes (bytesF a0))).snd.snd) then wd1 (nsU (unSegs (segsF (drawNearV (unBytes (bytesF a0))).fst)) (drawNearV (unBytes (bytesF a0))).snd.fst (drawNearV (unBytes (bytesF a0))).snd.snd) else 0) && (((bif okT (nsU (unSegs (segsF (drawNearV (unBytes (bytesF a0))).fst)) (drawNearV (unBytes (bytesF a0))).snd.fst (drawNearV (unBytes (bytesF a0))).snd.snd) (nsD (unSegs (segsF (drawNearV (unBytes (bytesF a0))).fst)) (drawNearV (unBytes (bytesF a0))).snd.fst (drawNearV (unBytes (bytesF a0))).snd.snd) then wd0 (nsU (unSegs (segsF (drawNearV (unBytes (bytesF a0))).fst)) (drawNearV (unBytes (bytesF a0))).snd.fst (drawNearV (unBytes (bytesF a0))).snd.snd) else 0) == bif okT (nsU (unSegs (segsF (drawNearV (unBytes (bytesF a0))).fst)) (drawNearV (unBytes (bytesF a0))).snd.fst (drawNearV (unBytes (bytesF a0))).snd.snd) (nsD (unSegs (segsF (drawNearV (unBytes (bytesF a0))).fst)) (drawNearV (unBytes (bytesF a0))).snd.fst (drawNearV (unBytes (bytesF a0))).snd.snd) then wd0 (nsU (unSegs (segsF (drawNearV (unBytes (bytesF a0))).fst)) (drawNearV (unBytes (bytesF a0))).snd.fst (drawNearV (unBytes (bytesF a0))).snd.snd) else 0) && true))) && (((bif okT (nsU (unSegs (segsF (drawNearV (unBytes (bytesF a0))).fst)) (drawNearV (unBytes (bytesF a0))).snd.fst (drawNearV (unBytes (bytesF a0))).snd.snd) (nsD (unSegs (segsF (drawNearV (unBytes (bytesF a0))).fst)) (drawNearV (unBytes (bytesF a0))).snd.fst (drawNearV (unBytes (bytesF a0))).snd.snd) then wd3 (nsD (unSegs (segsF (drawNearV (unBytes (bytesF a0))).fst)) (drawNearV (unBytes (bytesF a0))).snd.fst (drawNearV (unBytes (bytesF a0))).snd.snd) else 0) == bif okT (nsU (unSegs (segsF (drawNearV (unBytes (bytesF a0))).fst)) (drawNearV (unBytes (bytesF a0))).snd.fst (drawNearV (unBytes (bytesF a0))).snd.snd) (nsD (unSegs (segsF (drawNearV (unBytes (bytesF a0))).fst)) (drawNearV (unBytes (bytesF a0))).snd.fst (drawNearV (unBytes (bytesF a0))).snd.snd) then wd3 (nsD (unSegs (segsF (drawNearV (unBytes (bytesF a0))).fst)) (drawNearV (unBytes (bytesF a0))).snd.fst (drawNearV (unBytes (bytesF a0))).snd.snd) else 0) && (((bif okT (nsU (unSegs (segsF (drawNearV (unBytes (bytesF a0))).fst)) (drawNearV (unBytes (bytesF a0))).snd.fst (drawNearV (unBytes (bytesF a0))).snd.snd) (nsD (unSegs (segsF (drawNearV (unBytes (bytesF a0))).fst)) (drawNearV (unBytes (bytesF a0))).snd.fst (drawNearV (unBytes (bytesF a0))).snd.snd) then wd2 (nsD (unSegs (segsF (drawNearV (unBytes (bytesF a0))).fst)) (drawNearV (unBytes (bytesF a0))).snd.fst (drawNearV (unBytes (bytesF a0))).snd.snd) else 0) == bif okT (nsU (unSegs (segsF (drawNearV (unBytes (bytesF a0))).fst)) (drawNearV (unBytes (bytesF a0))).snd.fst (drawNearV (unBytes (bytesF a0))).snd.snd) (nsD (unSegs (segsF (drawNearV (unBytes (bytesF a0))).fst)) (drawNearV (unBytes (bytesF a0))).snd.fst (drawNearV (unBytes (bytesF a0))).snd.snd) then wd2 (nsD (unSegs (segsF (drawNearV (unBytes (bytesF a0))).fst)) (drawNearV (unBytes (bytesF a0))).snd.fst (drawNearV (unBytes (bytesF a0))).snd.snd) else 0) && (((bif okT (nsU (unSegs (segsF (drawNearV (unBytes (bytesF a0))).fst)) (drawNearV (unBytes (bytesF a0))).snd.fst (drawNearV (unBytes (bytesF a0))).snd.snd) (nsD (unSegs (segsF (drawNearV (unBytes (bytesF a0))).fst)) (drawNearV (unBytes (bytesF a0))).snd.fst (drawNearV (unBytes (bytesF a0))).snd.snd) then wd1 (nsD (unSegs (segsF (drawNearV (unBytes (bytesF a0))).fst)) (drawNearV (unBytes (bytesF a0))).snd.fst (drawNearV (unBytes (bytesF a0))).snd.snd) else 0) == bif okT (nsU (unSegs (segsF (drawNearV (unBytes (bytesF a0))).fst)) (drawNearV (unBytes (bytesF a0))).snd.fst (drawNearV (unBytes (bytesF a0))).snd.snd) (nsD (unSegs (segsF (drawNearV (unBytes (bytesF a0))).fst)) (drawNearV (unBytes (bytesF a0))).snd.fst (drawNearV (unBytes (bytesF a0))).snd.snd) then wd1 (nsD (unSegs (segsF (drawNearV (unBytes (bytesF a0))).fst)) (drawNearV (unBytes (bytesF a0))).snd.fst (drawNearV (unBytes (bytesF a0))).snd.snd) else 0) && (((bif okT (nsU (unSegs (segsF (drawNearV (unBytes (bytesF a0))).fst)) (drawNearV (unBytes (bytesF a0))).snd.fst (drawNearV (unBytes (bytesF a0))).snd.snd) (nsD (unSegs (segsF (drawNearV (unBytes (bytesF a0))).fst)) (drawNearV (unBytes (bytesF a0))).snd.fst (drawNearV (unBytes (bytesF a0))).snd.snd) then wd0 (nsD (unSegs (segsF (drawNearV (unBytes (bytesF a0))).fst)) (drawNearV (unBytes (bytesF a0))).snd.fst (drawNearV (unBytes (bytesF a0))).snd.snd) else 0) == bif okT (nsU (unSegs (segsF (drawNearV (unBytes (bytesF a0))).fst)) (drawNearV (unBytes (bytesF a0))).snd.fst (drawNearV (unBytes (bytesF a0))).snd.snd) (nsD (unSegs (segsF (drawNearV (unBytes (bytesF a0))).fst)) (drawNearV (unBytes (bytesF a0))).snd.fst (drawNearV (unBytes (bytesF a0))).snd.snd) then wd0 (nsD (unSegs (segsF (drawNearV (unBytes (bytesF a0))).fst)) (drawNearV (unBytes (bytesF a0))).snd.fst (drawNearV (unBytes (bytesF a0))).snd.snd) else 0) && true))) && true)) == true)
 (ret (okT (nsU (unSegs (segsF (drawNearV (unBytes (bytesF a0))).fst)) (drawNearV (unBytes (bytesF a0))).snd.fst (drawNearV (unBytes (bytesF a0))).snd.snd) (nsD (unSegs (segsF (drawNearV (unBytes (bytesF a0))).fst)) (drawNearV (unBytes (bytesF a0))).snd.fst (drawNearV (unBytes (bytesF a0))).snd.snd) == okT (nsU (unSegs (segsF (drawNearV (unBytes (bytesF a0))).fst)) (drawNearV (unBytes (bytesF a0))).snd.fst (drawNearV (unBytes (bytesF a0))).snd.snd) (nsD (unSegs (segsF (drawNearV (unBytes (bytesF a0))).fst)) (drawNearV (unBytes (bytesF a0))).snd.fst (drawNearV (unBytes (bytesF a0))).snd.snd)))
 (ret (false)))
 (ret (false))))
 none)
 none)
 none))
 none)
def G4 (k : Nat) (a0 : ByteArray) : Option (Bool) := T4 some (L4_9 k) a0
theorem t4_9 : ∀ (k : Nat) (l : List Sg) (px : Int) (py : Int) (n : Int) (a : Int) (b : Int) (c : Int) (d : Int) (p : Int) (q : Int) (u : Int) (v : Int) (i : Int) (r : Bool), L4_9 k l px py n a b c d p q u v i = some r → Ends Try.prog Try.f4.results.toList (at_ Try.f4 9) (S4_9 l px py n a b c d p q u v i) (F.bool r)
  | 0, _, _, _, _, _, _, _, _, _, _, _, _, _, _, h => nomatch h
  | k + 1, l, px, py, n, a, b, c, d, p, q, u, v, i, r, h => by
    refine Ends.of_cut tyOK envU4_ok (T := [(9, [3, 4, 5, 6, 11], 1000)]) (n := 200) ?_
    have e : runCut Try.prog (tiOf Try.prog) envU4 [(9, [3, 4, 5, 6, 11], 1000)] 0 Try.f4.results.toList some 200 (at_ Try.f4 9) (S4_9 l px py n a b c d p q u v i) = T4_9 (fun r => some (.ret (F.bool r))) (fun l px py n a b c d p q u v i => some (.cut (at_ Try.f4 9) (S4_9 l px py n a b c d p q u v i))) l px py n a b c d p q u v i := by kernel_rfl
    rw [e]
    exact (good_sel h (fun _ h => (good_sel h (fun _ h => (good_sel h (fun _ h => (good_sel h (fun _ h => (good_sel h (fun _ h => (good_sel h (fun _ h => (good_sel h (fun _ h => (good_sel h (fun _ h => (good_sel h (fun _ h => (good_sel h (fun _ h => good_ret (by cases h; rfl)) (fun _ h => good_cut (t4_9 k _ _ _ _ _ _ _ _ _ _ _ _ _ r h)))) (fun _ h => good_cut (t4_9 k _ _ _ _ _ _ _ _ _ _ _ _ _ r h)))) (fun _ h => good_ret (by cases h; rfl)))) (fun _ h => (good_sel h (fun _ h => (good_sel h (fun _ h => good_ret (by cases h; rfl)) (fun _ h => good_cut (t4_9 k _ _ _ _ _ _ _ _ _ _ _ _ _ r h)))) (fun _ h => good_cut (t4_9 k _ _ _ _ _ _ _ _ _ _ _ _ _ r h)))))) (fun _ h => good_ret (by cases h; rfl)))) (fun _ h => good_ret (by cases h; rfl)))) (fun _ h => nomatch h))) (fun _ h => nomatch h))) (fun _ h => nomatch h))) (fun _ h => good_ret (by cases h; rfl)))
theorem t4 (k : Nat) (a0 : ByteArray) (r : Bool) (h : G4 k a0 = some r) : Ends Try.prog Try.f4.results.toList [.code (bodyOf Try.f4)] (start Try.f4.ntmps ([bytesF a0].map .f)) (F.bool r) := by
  refine Ends.of_run tyOK envU4_ok (T := [(9, [3, 4, 5, 6, 11], 1000)]) (n := 200) ?_
  have e : run Try.prog (tiOf Try.prog) envU4 [(9, [3, 4, 5, 6, 11], 1000)] 0 Try.f4.results.toList some 200 [.code (bodyOf Try.f4)] (start Try.f4.ntmps ([bytesF a0].map .f)) = T4 (fun r => some (.ret (F.bool r))) (fun l px py n a b c d p q u v i => some (.cut (at_ Try.f4 9) (S4_9 l px py n a b c d p q u v i))) a0 := by kernel_rfl
  rw [e]
  exact (good_sel h (fun _ h => (good_sel h (fun _ h => good_ret (by cases h; rfl)) (fun _ h => (good_sel h (fun _ h => (good_sel h (fun _ h => (good_sel h (fun _ h => (good_sel h (fun _ h => (good_sel h (fun _ h => (good_sel h (fun _ h => (good_sel h (fun _ h => (good_sel h (fun _ h => (good_sel h (fun _ h => good_ret (by cases h; rfl)) (fun _ h => good_ret (by cases h; rfl)))) (fun _ h => good_ret (by cases h; rfl)))) (fun _ h => good_cut (t4_9 k _ _ _ _ _ _ _ _ _ _ _ _ _ r h)))) (fun _ h => (good_sel h (fun _ h => (good_sel h (fun _ h => good_ret (by cases h; rfl)) (fun _ h => good_ret (by cases h; rfl)))) (fun _ h => good_ret (by cases h; rfl)))))) (fun _ h => (good_sel h (fun _ h => (good_sel h (fun _ h => good_ret (by cases h; rfl)) (fun _ h => good_ret (by cases h; rfl)))) (fun _ h => good_ret (by cases h; rfl)))))) (fun _ h => (good_sel h (fun _ h => (good_sel h (fun _ h => good_ret (by cases h; rfl)) (fun _ h => good_ret (by cases h; rfl)))) (fun _ h => good_ret (by cases h; rfl)))))) (fun _ h => nomatch h))) (fun _ h => nomatch h))) (fun _ h => nomatch h))))) (fun _ h => nomatch h))
theorem near9 {l : List Sg} {px py : Int} (hn : isNearest l px py = true) : ∀ (m i : Nat), i + m = l.length →
    L4_9 (m + 1) l px py (nsI l px py) (wd3 (nsU l px py)) (wd2 (nsU l px py)) (wd1 (nsU l px py)) (wd0 (nsU l px py)) (wd3 (nsD l px py)) (wd2 (nsD l px py)) (wd1 (nsD l px py)) (wd0 (nsD l px py)) i = some true
  | 0, i, h => by
    rw [L4_9]
    unfold T4_9
    rw [decide_eq_false (by omega), bsel_false]
  | m + 1, i, h => by
    have hi : i < l.length := by omega
    obtain ⟨k1, k2, k3, k4⟩ := isNearest_iff hn
    have ho := nearAll_ok k4 k1 k3
    have hb := nearAll_best k4 k1 k3
    have hsm : l.getD i Sg.zero ∈ l := by simp [List.getD, List.getElem?_eq_getElem hi]
    have hsIn := k3 _ hsm
    have hall := hn
    simp only [isNearest, Bool.and_eq_true] at hall
    have hsOk : sgOk (l.getD i Sg.zero) = true := (segsOk_iff.1 hall.1).2 _ hsm
    have hn2 : isNear2 (l.getD i Sg.zero) px py = true := by rw [isNear2, hsOk, hall.2.1]; rfl
    have ih := near9 hn m (i + 1) (by omega)
    obtain ⟨⟨n, e1, e2, e3, e4⟩, _, hleast⟩ := hb
    have hli := hleast i hi
    have eI : nsI l px py = (n : Int) := by rw [nsI, hn, cond_true, e1]
    have eU : nsU l px py = (nearAll px py l).2.1 / gcdI (nearAll px py l).2.1 (nearAll px py l).2.2 := by rw [nsU, hn, cond_true]
    have eD : nsD l px py = (nearAll px py l).2.2 / gcdI (nearAll px py l).2.1 (nearAll px py l).2.2 := by rw [nsD, hn, cond_true]
    have eX : n2U (l.getD i Sg.zero) px py = nU px py (l.getD i Sg.zero) / gcdI (nU px py (l.getD i Sg.zero)) (nD px py (l.getD i Sg.zero)) := by rw [n2U, hn2, cond_true]
    have eY : n2D (l.getD i Sg.zero) px py = nD px py (l.getD i Sg.zero) / gcdI (nU px py (l.getD i Sg.zero)) (nD px py (l.getD i Sg.zero)) := by rw [n2D, hn2, cond_true]
    have b0 : 0 ≤ nU px py (l.getD i Sg.zero) ∧ (nU px py (l.getD i Sg.zero)).natAbs < 18446744073709551616 ^ 2 ∧ 0 < nD px py (l.getD i Sg.zero) ∧ nD px py (l.getD i Sg.zero) ≤ 8000000000000 := near_bounds hsIn.1 hsIn.2 k4
    have tS := told_facts eU eD ho.up0 ho.up ho.down
    have tX := told_facts eX eY b0.1 b0.2.1 b0.2.2
    have same : n = i → n2U (l.getD i Sg.zero) px py = nsU l px py ∧ n2D (l.getD i Sg.zero) px py = nsD l px py := fun e => by
      subst e
      rw [eX, eY, eU, eD, ← e3, ← e4]
      exact ⟨rfl, rfl⟩
    have hc : rcmpV (nsU l px py) (nsD l px py) (n2U (l.getD i Sg.zero) px py) (n2D (l.getD i Sg.zero) px py) = ((nearAll px py l).2.1 * nD px py (l.getD i Sg.zero) - nU px py (l.getD i Sg.zero) * (nearAll px py l).2.2).sign := by
      rw [rcmpV, tS.red, tX.red, Bool.and_self, cond_true, eU, eD, eX, eY]
      exact red_cross ho.up0 ho.down.1 b0.1 b0.2.2.1
    have hw : IntKind.i64.wrap ((i : Int) + 1) = ((i + 1 : Nat) : Int) := by rw [wrapI (by omega) (by omega)]; omega
    have eta : ∀ s : Sg, (Sg.mk s.x0 s.y0 s.x1 s.y1) = s := fun _ => rfl
    rw [e1] at hli
    clear hleast hall hn2 hsOk hsIn hsm e1 e2 e3 e4 ho k1 k3 b0
    rw [L4_9]
    unfold T4_9
    rw [Int.toNat_natCast]
    try simp only [eta]
    generalize l.getD i Sg.zero = s at *
    simp only [tX.ok, cond_true, tS.rt, tX.rt, tS.up, tS.down, tX.up, tX.down, hc, hw, ih, Bool.and_self, bsel_true, decide_eq_true (show (i : Int) < l.length by omega), decide_eq_true (show (0 : Int) ≤ i by omega), Bool.not_true]
    have hneg : ¬ ((nearAll px py l).2.1 * nD px py s - nU px py s * (nearAll px py l).2.2).sign > 0 := by
      intro hp
      have := Int.sign_pos_iff.1 hp
      omega
    have hz : ((nearAll px py l).2.1 * nD px py s - nU px py s * (nearAll px py l).2.2).sign = 0 → (n : Int) ≤ i := fun hz => by
      have := Int.sign_eq_zero_iff_zero.1 hz
      exact hli.2 (by omega)
    generalize ((nearAll px py l).2.1 * nD px py s - nU px py s * (nearAll px py l).2.2).sign = c at *
    rw [decide_eq_false hneg, eI]
    have tt : (true == true) = true := rfl
    have ft : (false == true) = false := rfl
    have ff : (false == false) = true := rfl
    by_cases hin : n = i
    · obtain ⟨s1, s2⟩ := same hin
      have c1 : decide ((i : Int) < (n : Int)) = false := decide_eq_false (by omega)
      have c2 : ((i : Int) == (n : Int)) = true := by rw [hin]; exact beq_self_eq_true _
      simp only [s1, s2, c1, c2, tt, ft, ff, bsel_true, bsel_false, beq_self_eq_true, Bool.and_self, Bool.not_true]
      cases (c == 0) <;> rfl
    · have c2 : ((i : Int) == (n : Int)) = false := by simp only [beq_eq_false_iff_ne, ne_eq]; omega
      simp only [c2, tt, ft, ff, bsel_true, bsel_false]
      cases h0 : (c == 0) with
      | false => rfl
      | true =>
        have hni := hz (eq_of_beq h0)
        have c1 : decide ((i : Int) < (n : Int)) = false := decide_eq_false (by omega)
        simp only [c1, ff, tt, bsel_true]
theorem fnNearest_true (s : ByteArray) : ∃ k, G4 k s = some true := by
  unfold G4 T4
  simp only [unBytes_bytesF, isBytes_bytesF, isSegs_segsF, unSegs_segsF, bsel_true, Bool.true_and]
  by_cases hs : (s.size : Int) > 1048576
  · exact ⟨0, by rw [decide_eq_true hs]; rfl⟩
  · have c : decide (s.size ≤ 1048576) = true := decide_eq_true (by omega)
    rw [decide_eq_false hs, c]
    generalize drawNearV s = D
    obtain ⟨l, px, py⟩ := D
    have tt : (true == true) = true := rfl
    have ft : (false == true) = false := rfl
    have ff : (false == false) = true := rfl
    simp only [ns_ok, beq_self_eq_true, bne_self_eq_false, Bool.and_self, Bool.not_true, bsel_true, bsel_false, tt, ft, ff]
    cases hn : isNearest l px py with
    | false => exact ⟨0, rfl⟩
    | true =>
      refine ⟨l.length + 1, ?_⟩
      simp only [Bool.not_true, bsel_false, bsel_true, cond_true]
      exact near9 hn l.length 0 (by omega)
theorem okFnNearest : PureOK Try.prog 4 preB (fun _ => .bool true) :=
  fn_pure_at (c := bodyOf Try.f4) Try.func4 (by kernel_rfl) (by kernel_rfl) fun xs hp => match xs, hp with
  | [b], hp => by
    obtain ⟨k, e⟩ := fnNearest_true (unBytes b)
    exact ⟨[bytesF (unBytes b)], _, ⟨(bytes_eqv hp).1, trivial⟩, t4 k _ _ e, .refl _⟩
end
end Go.Proofs.Ytmambbfnjbdfgaa.R
