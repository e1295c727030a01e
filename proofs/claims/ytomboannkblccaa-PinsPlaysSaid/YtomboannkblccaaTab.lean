/- The engine's table: annotations of the functions, and what is static of them. Printed by a program of mine. -/
import Derived.Test.YtomboannkblccaaKxS
import Derived.Test.YtomboannkblccaaProg
import Derived.KernelRfl
namespace Go.Proofs.Ytomboannkblccaa.K
open Go Go.Kx
set_option maxRecDepth 20000
/-- kiln/kilnlaw19.PinsStay -/
def an3 : Ann := ⟨[(9, [0, 4, 6, 7, 8, 11, 12, 14, 15]), (15, [0, 4, 6, 7, 8, 11, 12, 14, 15, 17, 18, 19, 47, 48, 61, 62, 63])], [], [(4, [0, 4, 6, 7, 8, 11]), (7, [0, 4, 6, 7, 8, 11, 12]), (10, [0, 4, 6, 7, 8, 11, 12, 14, 15, 47, 48, 61, 62, 63, 126, 127, 128, 129, 130, 131, 132, 133]), (11, [0, 4, 6, 7, 8, 11, 12, 14, 15, 47, 48]), (13, [0, 4, 6, 7, 8, 11, 12, 14, 15, 16, 47, 48, 56, 61, 62, 63]), (17, [0, 4, 6, 7, 8, 11, 12, 14, 15, 17, 18, 19, 47, 48, 61, 62, 63]), (19, [0, 4, 6, 7, 8, 11, 12, 14, 15, 17, 18, 47, 48, 61, 62, 63]), (22, [0, 4, 6, 7, 8, 11, 12, 14, 15, 16, 47, 48, 61, 62, 63, 102, 107, 108, 109, 110]), (23, [0, 4, 6, 7, 8, 11, 12, 14, 15, 47, 48, 61, 62, 63]), (26, [11, 12])], []⟩
/-- kiln/kilnlaw19.PinsPlays -/
def an4 : Ann := ⟨[(6, [0, 1, 5, 6, 7])], [(11, [(0, [], []), (1, [], []), (2, [], []), (3, [], []), (4, [], []), (5, [], []), (6, [], []), (7, [], []), (8, [], []), (9, [], []), (10, [], []), (11, [], []), (12, [], []), (13, [], []), (14, [], []), (16, [], []), (17, [], []), (18, [], []), (19, [], []), (20, [], []), (15, [19], []), (21, [], []), (22, [], [])])], [(5, [0, 1, 5, 6]), (8, [0, 1, 5, 6, 7, 25, 26]), (11, [0, 1, 5, 6, 7, 8, 25, 26, 35, 36, 37, 38, 39]), (13, [5, 6])], []⟩
/-- kiln/pins.New -/
def an5 : Ann := ⟨[], [], [], []⟩
/-- (*kiln/pins.Pins).Pin -/
def an6 : Ann := ⟨[], [(4, [(0, [], []), (1, [], []), (2, [], []), (3, [], []), (4, [], []), (5, [], []), (6, [], []), (7, [], []), (8, [], []), (9, [], []), (10, [], []), (11, [], []), (12, [], []), (13, [], []), (14, [], []), (15, [], []), (16, [], []), (17, [], [])])], [(3, [0, 1, 7, 8, 9])], []⟩
/-- kiln/kilnlaw19.num -/
def an7 : Ann := ⟨[], [], [], []⟩
/-- (*kiln/pins.Pins).Unpin -/
def an8 : Ann := ⟨[], [], [], []⟩
/-- (*kiln/pins.Pins).Get -/
def an9 : Ann := ⟨[], [], [], []⟩
/-- kiln/kilnlaw19.started -/
def an10 : Ann := ⟨[(6, [2, 3])], [], [(5, [2]), (8, [2, 3]), (11, [2])], []⟩
/-- kiln/kilnlaw19.does -/
def an11 : Ann := ⟨[], [(7, [(0, [], []), (1, [], []), (2, [], []), (5, [], []), (6, [], []), (7, [], []), (3, [7], []), (4, [7], []), (8, [], []), (9, [], []), (10, [], [])]), (15, [(0, [], []), (1, [], []), (2, [], []), (4, [], []), (5, [], []), (6, [], []), (3, [6], []), (7, [], []), (8, [], []), (9, [], []), (10, [], []), (12, [], []), (13, [], []), (14, [], []), (15, [], []), (16, [], []), (11, [15], []), (17, [], []), (18, [], []), (19, [], [])])], [], []⟩
/-- (*kiln/pins.Pins).Len -/
def an12 : Ann := ⟨[], [], [], []⟩
/-- kiln/kilnlaw19.all -/
def an13 : Ann := ⟨[(6, [1, 5, 6, 7]), (12, [1, 5, 6, 8]), (16, [1, 5, 6, 9]), (22, [5, 6, 10]), (26, [5, 6, 11])], [(8, [(0, [], []), (1, [], []), (2, [], []), (3, [], []), (4, [], []), (5, [], []), (6, [], []), (7, [], []), (8, [], []), (9, [], []), (10, [], []), (11, [], []), (12, [], []), (13, [], []), (14, [], []), (15, [], []), (16, [], []), (17, [], []), (18, [], []), (19, [], []), (20, [], []), (21, [], []), (22, [], []), (23, [], []), (24, [], []), (25, [], []), (26, [], []), (27, [], [])]), (18, [(0, [], []), (1, [], []), (2, [], []), (3, [], []), (4, [], []), (5, [], []), (6, [], []), (7, [], []), (8, [], []), (9, [], []), (10, [], []), (11, [], []), (12, [], [])])], [(5, [1, 5, 6]), (8, [1, 5, 6, 7]), (10, [1, 5, 6, 7]), (11, [1, 5, 6]), (14, [1, 5, 6, 8]), (15, [1, 5, 6]), (18, [1, 5, 6, 9]), (20, [1, 5, 6, 9]), (21, [5, 6]), (24, [5, 6, 10]), (25, [5, 6]), (28, [5, 6, 11]), (30, [])], []⟩
/-- kiln/pins.NewTable[int,kiln/pins.Pin] -/
def an14 : Ann := ⟨[], [], [], []⟩
/-- (*kiln/pins.Table[int, kiln/pins.Pin]).Len -/
def an15 : Ann := ⟨[], [], [], []⟩
/-- (*kiln/pins.Table[int, kiln/pins.Pin]).Put -/
def an16 : Ann := ⟨[], [(3, [(0, [], []), (1, [], []), (2, [], []), (3, [], []), (4, [], []), (5, [], []), (6, [], []), (7, [], []), (8, [], [])]), (5, [(0, [], []), (1, [], []), (2, [], []), (3, [], []), (4, [], []), (5, [], []), (6, [], []), (7, [], []), (8, [], []), (9, [4], []), (10, [], []), (11, [], []), (12, [], []), (13, [], [])])], [(5, [0, 1, 5, 7])], []⟩
/-- (*kiln/pins.Table[int, kiln/pins.Pin]).Delete -/
def an17 : Ann := ⟨[], [], [], []⟩
/-- (*kiln/pins.Table[int, kiln/pins.Pin]).Get -/
def an18 : Ann := ⟨[], [], [(5, [0, 4, 6])], []⟩
/-- kiln/kilnlaw19.ints -/
def an19 : Ann := ⟨[], [], [], []⟩
/-- (*kiln/pins.Pins).Of -/
def an20 : Ann := ⟨[(4, [3, 5])], [], [(4, [5])], [66, 74]⟩
/-- (*kiln/kilnref19.Pins).Pin -/
def an21 : Ann := ⟨[], [(4, [(0, [], []), (1, [], []), (2, [], []), (3, [], []), (4, [], []), (5, [], []), (6, [], []), (7, [], []), (8, [], []), (9, [], []), (10, [], []), (11, [], []), (12, [], []), (13, [], []), (14, [4], []), (15, [], []), (16, [], []), (17, [], []), (18, [], [])])], [(3, [0, 1, 7, 8, 9])], []⟩
/-- (*kiln/kilnref19.Pins).Unpin -/
def an22 : Ann := ⟨[], [], [(4, [0, 5])], []⟩
/-- (*kiln/kilnref19.Pins).Get -/
def an23 : Ann := ⟨[], [], [(4, [0, 4, 6])], []⟩
/-- kiln/kilnlaw19.samePin -/
def an24 : Ann := ⟨[], [], [], []⟩
/-- (*kiln/kilnref19.Pins).Of -/
def an25 : Ann := ⟨[(3, [0, 1, 5, 6])], [], [(5, [0, 1, 5, 6]), (7, [5])], []⟩
/-- (*kiln/pins.Pins).All -/
def an26 : Ann := ⟨[(4, [3])], [], [(4, [3])], [66, 74]⟩
/-- (*kiln/pins.Table[int, kiln/pins.Pin]).place -/
def an27 : Ann := ⟨[], [], [], []⟩
/-- slices.Insert[[]kiln/pins.row[int, kiln/pins.Pin],kiln/pins.row[int, kiln/pins.Pin]] -/
def an28 : Ann := ⟨[], [(11, [(0, [], []), (1, [], []), (2, [], []), (3, [], []), (4, [], []), (5, [], []), (6, [], []), (7, [], []), (8, [], [])]), (15, [(0, [], []), (1, [], []), (2, [], []), (3, [], []), (4, [], []), (5, [], []), (6, [], []), (7, [], []), (8, [], [])])], [(5, [0, 1, 2, 7]), (8, [0, 1, 2, 7, 8]), (13, [0, 1, 2, 7, 8]), (18, [0, 1, 2, 7, 8])], []⟩
/-- slices.Delete[[]kiln/pins.row[int, kiln/pins.Pin],kiln/pins.row[int, kiln/pins.Pin]] -/
def an29 : Ann := ⟨[], [(5, [(0, [], []), (1, [], []), (2, [], []), (3, [], []), (4, [], []), (5, [], []), (6, [], []), (7, [], [])])], [(4, [0, 1, 2])], []⟩
/-- kiln/kilnlaw19.play[int] -/
def an30 : Ann := ⟨[(6, [0, 3, 9, 10, 11])], [(10, [(0, [], []), (1, [], []), (2, [], []), (3, [], []), (4, [], []), (5, [], []), (8, [], []), (9, [], []), (10, [], []), (11, [], []), (6, [11], []), (7, [11], []), (12, [], []), (13, [], []), (14, [], []), (15, [], [])])], [(4, [0, 1, 2, 3, 9]), (8, [0, 3, 9, 10, 11, 28, 29]), (10, [0, 9, 10])], []⟩
/-- kiln/kilnlaw19.ints$1 -/
def an31 : Ann := ⟨[], [], [], []⟩
/-- kiln/kilnlaw19.ints$2 -/
def an32 : Ann := ⟨[], [], [], []⟩
/-- (*kiln/pins.Table[int, kiln/pins.Pin]).All -/
def an33 : Ann := ⟨[], [], [], []⟩
/-- (*kiln/kilnref19.Pins).at -/
def an34 : Ann := ⟨[(2, [0, 1, 5])], [], [(4, [0, 1, 5]), (6, [])], []⟩
/-- slices.BinarySearchFunc[[]kiln/pins.row[int, kiln/pins.Pin],kiln/pins.row[int, kiln/pins.Pin],int] -/
def an35 : Ann := ⟨[(3, [0, 1, 2, 8, 9, 10])], [], [(4, [0, 1, 2, 8, 9, 10]), (8, [0, 1, 2, 8, 9])], []⟩
/-- (*kiln/pins.Table[int, kiln/pins.Pin]).place$1 -/
def an36 : Ann := ⟨[], [], [], []⟩
/-- cmp.Compare[int] -/
def an37 : Ann := ⟨[], [], [], []⟩
/-- slices.rotateRight[kiln/pins.row[int, kiln/pins.Pin]] -/
def an39 : Ann := ⟨[], [], [], []⟩
/-- kiln/pins.NewTable[int,int] -/
def an40 : Ann := ⟨[], [], [], []⟩
/-- (*kiln/kilnlaw19.World[int]).plays -/
def an41 : Ann := ⟨[(25, [3, 10])], [(1, [(0, [], []), (1, [], []), (2, [], []), (3, [], []), (4, [], []), (5, [3], []), (6, [], []), (7, [], [])]), (4, [(0, [], []), (1, [], []), (2, [], []), (3, [], []), (4, [], []), (5, [], []), (6, [], []), (8, [], []), (9, [], []), (10, [], []), (11, [], []), (12, [], []), (7, [11, 12], []), (13, [11], []), (14, [], []), (15, [], []), (16, [], [])]), (7, [(0, [], []), (1, [], []), (2, [], []), (3, [], []), (4, [], []), (5, [3], []), (6, [], []), (7, [], []), (8, [], []), (9, [], []), (10, [], []), (11, [], [])]), (10, [(0, [], []), (1, [], []), (2, [], []), (3, [], []), (4, [], []), (6, [], []), (7, [], []), (8, [], []), (9, [], []), (10, [], []), (5, [9, 10], []), (11, [9], []), (12, [], []), (13, [], []), (14, [], [])]), (14, [(0, [], []), (1, [], []), (2, [], []), (3, [], []), (4, [], []), (5, [], []), (6, [], []), (7, [], []), (8, [], []), (9, [], []), (10, [], []), (11, [], []), (14, [], []), (15, [], []), (16, [], []), (17, [], []), (12, [3, 6, 17], []), (13, [3, 6, 17], []), (18, [3, 6], []), (19, [], []), (20, [], [])]), (16, [(0, [], []), (1, [], []), (2, [], []), (3, [], []), (4, [], []), (5, [], []), (6, [], []), (7, [], []), (8, [], []), (9, [], []), (10, [], []), (11, [], []), (12, [], []), (15, [], []), (16, [], []), (17, [], []), (18, [], []), (19, [], []), (13, [3, 6, 18, 19], []), (14, [3, 6, 18, 19], []), (20, [3, 6, 18], []), (21, [3, 6], []), (22, [], []), (23, [], [])]), (27, [(0, [], []), (1, [], []), (2, [], []), (3, [], []), (4, [], []), (5, [], []), (6, [], []), (7, [], []), (8, [], []), (9, [], []), (10, [], [])]), (29, [(0, [], []), (1, [], []), (2, [], []), (3, [], []), (4, [], []), (5, [], []), (6, [], []), (7, [], []), (8, [], []), (9, [], []), (10, [], []), (11, [], []), (12, [], []), (13, [], []), (14, [], []), (15, [], []), (16, [], []), (17, [], []), (19, [], []), (20, [], []), (21, [], []), (22, [], []), (18, [9, 12, 22], []), (23, [9, 12], []), (24, [], []), (25, [], []), (26, [], []), (27, [], []), (28, [], []), (29, [], []), (30, [], []), (31, [], []), (32, [], []), (33, [], []), (34, [], []), (35, [], []), (36, [], []), (37, [], []), (38, [], []), (40, [], []), (41, [], []), (42, [], []), (43, [], []), (39, [30, 33, 43], []), (44, [30, 33], []), (45, [], []), (46, [], []), (47, [], []), (48, [], [])]), (33, [(0, [], []), (1, [], []), (2, [], []), (3, [], []), (4, [], []), (5, [], []), (6, [], []), (7, [], []), (8, [], []), (9, [], []), (10, [], []), (11, [], []), (12, [], []), (13, [], []), (14, [], []), (15, [], []), (16, [], []), (17, [], []), (19, [], []), (20, [], []), (21, [], []), (22, [], []), (23, [], []), (24, [], []), (25, [], []), (26, [], []), (18, [9, 12, 22, 26], []), (27, [9, 12], []), (28, [], []), (29, [], []), (30, [], []), (31, [], []), (32, [], []), (33, [], []), (34, [], []), (35, [], []), (36, [], []), (37, [], []), (38, [], []), (39, [], []), (40, [], []), (41, [], []), (42, [], []), (44, [], []), (45, [], []), (46, [], []), (47, [], []), (48, [], []), (49, [], []), (50, [], []), (51, [], []), (43, [34, 37, 47, 51], []), (52, [34, 37], []), (53, [], []), (54, [], []), (55, [], []), (56, [], [])])], [(24, [0, 3, 10, 11]), (25, [0, 10]), (31, [0]), (35, [0, 3, 5])], [66, 74]⟩
/-- (*kiln/kilnlaw19.World[int]).least -/
def an42 : Ann := ⟨[], [(6, [(0, [], []), (1, [], []), (2, [], []), (3, [], []), (5, [], []), (4, [], []), (6, [], []), (7, [], []), (8, [], []), (9, [], []), (10, [], []), (11, [], []), (12, [], []), (13, [], []), (14, [], []), (15, [], []), (16, [], []), (17, [], []), (18, [], []), (19, [], []), (20, [], []), (21, [], []), (22, [], []), (23, [], []), (26, [], []), (27, [], []), (28, [], []), (29, [], []), (30, [], []), (31, [], []), (32, [], []), (33, [], []), (24, [14, 17, 29, 32], []), (25, [14, 17, 29, 32], []), (34, [], []), (35, [], []), (36, [], [])])], [(6, [0, 3, 4, 5, 6])], []⟩
/-- kiln/kilnlaw19.same -/
def an43 : Ann := ⟨[(4, [0, 1, 2, 7])], [(6, [(0, [], []), (1, [], []), (2, [], []), (3, [], []), (4, [], []), (5, [], []), (6, [], []), (7, [], []), (8, [], []), (9, [], []), (10, [], []), (11, [], [])]), (8, [(0, [], []), (1, [], []), (2, [], []), (3, [], []), (4, [], []), (5, [], []), (6, [], []), (7, [], []), (8, [], []), (9, [], []), (10, [], []), (11, [], [])]), (10, [(0, [], []), (1, [], []), (2, [], []), (3, [], []), (4, [], []), (5, [], []), (6, [], []), (7, [], []), (8, [], []), (9, [], []), (10, [], []), (11, [], []), (12, [], []), (13, [], []), (14, [], []), (15, [], []), (16, [], []), (17, [], []), (18, [], []), (19, [], []), (20, [], []), (21, [], []), (22, [], []), (23, [], []), (24, [], []), (25, [], []), (26, [], []), (27, [], []), (28, [], []), (29, [], []), (30, [], []), (31, [], []), (32, [], []), (33, [], []), (34, [], []), (35, [], []), (36, [], []), (37, [], [])]), (11, [(0, [], []), (1, [], []), (2, [], []), (3, [], []), (4, [], []), (5, [], []), (6, [], []), (7, [], []), (8, [], []), (9, [], []), (10, [], []), (11, [], []), (12, [], []), (13, [], []), (14, [], [])])], [(3, [0, 1, 2]), (6, [0, 1, 2, 7]), (9, [0, 1, 2, 7, 8]), (11, [0, 1, 2, 7, 8]), (13, [])], []⟩
/-- (*kiln/kilnlaw19.World[int]).rows -/
def an44 : Ann := ⟨[(7, [2, 5])], [(7, [(0, [], []), (1, [], []), (2, [], []), (3, [], []), (4, [], []), (5, [], []), (6, [], []), (7, [0], []), (8, [0], []), (9, [], []), (10, [], [])])], [(7, [5])], [66, 74]⟩
/-- (*kiln/pins.Table[int, int]).All -/
def an45 : Ann := ⟨[], [], [], []⟩
/-- (*kiln/kilnref19.Table).All -/
def an46 : Ann := ⟨[], [], [], []⟩
/-- (*kiln/pins.Table[int, kiln/pins.Pin]).loop -/
def an47 : Ann := ⟨[], [], [], []⟩
/-- (*kiln/pins.Table[int, kiln/pins.Pin]).All$1 -/
def an48 : Ann := ⟨[], [], [], []⟩
/-- cmp.isNaN[int] -/
def an49 : Ann := ⟨[], [], [], []⟩
/-- slices.rotateLeft[kiln/pins.row[int, kiln/pins.Pin]] -/
def an50 : Ann := ⟨[], [], [], []⟩
/-- kiln/kilnlaw19.row -/
def an51 : Ann := ⟨[], [], [], []⟩
/-- (*kiln/pins.Table[int, int]).Put -/
def an52 : Ann := ⟨[], [], [(5, [0, 1, 2, 7])], []⟩
/-- (*kiln/kilnref19.Table).Put -/
def an53 : Ann := ⟨[], [(3, [(0, [], []), (1, [], []), (2, [], []), (3, [], []), (4, [], []), (5, [], []), (6, [], []), (7, [], []), (8, [], []), (9, [], [])])], [(5, [0, 3, 5])], []⟩
/-- (*kiln/pins.Table[int, int]).Get -/
def an54 : Ann := ⟨[], [], [(5, [0, 6])], []⟩
/-- (*kiln/kilnref19.Table).Get -/
def an55 : Ann := ⟨[], [], [(4, [0, 6])], []⟩
/-- (*kiln/pins.Table[int, int]).Delete -/
def an56 : Ann := ⟨[], [], [], []⟩
/-- (*kiln/kilnref19.Table).Delete -/
def an57 : Ann := ⟨[], [], [], []⟩
/-- (*kiln/pins.Table[int, int]).From -/
def an58 : Ann := ⟨[], [], [], []⟩
/-- (*kiln/kilnref19.Table).From -/
def an59 : Ann := ⟨[], [], [], []⟩
/-- (*kiln/pins.Table[int, int]).Least -/
def an62 : Ann := ⟨[], [(5, [(0, [], []), (1, [], []), (2, [], []), (3, [], []), (4, [], []), (5, [], []), (6, [], []), (7, [], []), (8, [], []), (9, [], []), (10, [], []), (11, [], []), (12, [], []), (13, [], []), (14, [10, 13], []), (15, [], []), (16, [], [])])], [(5, [0])], []⟩
/-- (*kiln/pins.Table[int, int]).Len -/
def an63 : Ann := ⟨[], [], [], []⟩
/-- (*kiln/pins.Table[int, int]).loop -/
def an64 : Ann := ⟨[], [], [], []⟩
/-- (*kiln/pins.Table[int, int]).All$1 -/
def an65 : Ann := ⟨[], [], [], []⟩
/-- (*kiln/pins.Table[int, kiln/pins.Pin]).loop$1 -/
def an66 : Ann := ⟨[(1, [0, 13, 14, 15])], [(0, [(0, [], []), (1, [], []), (2, [], []), (3, [], []), (4, [], []), (9, [], []), (5, [0, 3], []), (6, [], []), (7, [], []), (8, [], [])])], [(2, [0, 13, 14, 15, 16])], []⟩
/-- slices.Clone[[]kiln/pins.row[int, kiln/pins.Pin],kiln/pins.row[int, kiln/pins.Pin]] -/
def an67 : Ann := ⟨[], [], [], []⟩
/-- slices.Reverse[[]kiln/pins.row[int, kiln/pins.Pin],kiln/pins.row[int, kiln/pins.Pin]] -/
def an68 : Ann := ⟨[(1, [0, 2, 3])], [(3, [(0, [], []), (1, [], []), (2, [], []), (3, [], []), (4, [], []), (5, [], []), (6, [], []), (7, [], []), (8, [], []), (9, [], []), (10, [], []), (11, [], []), (12, [], []), (13, [], []), (14, [], []), (15, [], [])])], [(3, [0, 2, 3])], []⟩
/-- (*kiln/pins.Table[int, int]).place -/
def an69 : Ann := ⟨[], [], [], []⟩
/-- slices.Insert[[]kiln/pins.row[int, int],kiln/pins.row[int, int]] -/
def an70 : Ann := ⟨[], [(11, [(0, [], []), (1, [], []), (2, [], []), (3, [], []), (4, [], []), (5, [], []), (6, [], []), (7, [], []), (8, [], [])]), (15, [(0, [], []), (1, [], []), (2, [], []), (3, [], []), (4, [], []), (5, [], []), (6, [], []), (7, [], []), (8, [], [])])], [(5, [0, 1, 2, 7]), (8, [0, 1, 2, 7, 8]), (13, [0, 1, 2, 7, 8]), (18, [0, 1, 2, 7, 8])], []⟩
/-- (*kiln/kilnref19.Table).place -/
def an71 : Ann := ⟨[(2, [0, 3, 6])], [(2, [(0, [], []), (1, [], []), (2, [], []), (3, [], []), (4, [], []), (5, [], []), (6, [], []), (7, [], []), (8, [], []), (9, [], []), (10, [], []), (11, [], []), (12, [], []), (13, [], []), (14, [], []), (15, [], []), (16, [], []), (17, [], []), (18, [], []), (19, [], []), (20, [], []), (21, [], [])]), (4, [(0, [], []), (1, [], []), (2, [], []), (3, [], []), (4, [], []), (5, [], []), (6, [], []), (7, [], []), (8, [], []), (9, [], []), (10, [], []), (11, [], []), (12, [], []), (13, [], []), (14, [], []), (15, [], []), (16, [], []), (17, [], []), (18, [], []), (19, [], []), (20, [], []), (21, [], []), (22, [], []), (23, [], []), (24, [], []), (25, [], [])])], [(4, [0, 3, 6])], []⟩
/-- slices.Delete[[]kiln/pins.row[int, int],kiln/pins.row[int, int]] -/
def an72 : Ann := ⟨[], [(5, [(0, [], []), (1, [], []), (2, [], []), (3, [], []), (4, [], []), (5, [], []), (6, [], []), (7, [], [])])], [(4, [0, 1, 2])], []⟩
/-- (*kiln/pins.Table[int, int]).From$1 -/
def an73 : Ann := ⟨[], [], [], []⟩
/-- (*kiln/pins.Table[int, int]).loop$1 -/
def an74 : Ann := ⟨[(1, [0, 13, 14, 15])], [(0, [(0, [], []), (1, [], []), (2, [], []), (3, [], []), (4, [], []), (9, [], []), (5, [0, 3], []), (6, [], []), (7, [], []), (8, [], [])])], [(2, [0, 13, 14, 15, 16])], []⟩
/-- slices.Clone[[]kiln/pins.row[int, int],kiln/pins.row[int, int]] -/
def an75 : Ann := ⟨[], [], [], []⟩
/-- slices.BinarySearchFunc[[]kiln/pins.row[int, int],kiln/pins.row[int, int],int] -/
def an76 : Ann := ⟨[(3, [0, 1, 2, 8, 9, 10])], [], [(4, [0, 1, 2, 8, 9, 10]), (8, [0, 1, 2, 8, 9])], []⟩
/-- (*kiln/pins.Table[int, int]).place$1 -/
def an77 : Ann := ⟨[], [], [], []⟩
/-- slices.rotateRight[kiln/pins.row[int, int]] -/
def an79 : Ann := ⟨[], [], [], []⟩
/-- kiln/kilnref19.ahead -/
def an80 : Ann := ⟨[], [], [(6, [4, 5]), (8, [4, 5])], []⟩
/-- slices.rotateLeft[kiln/pins.row[int, int]] -/
def an81 : Ann := ⟨[], [], [], []⟩
/-- slices.Reverse[[]kiln/pins.row[int, int],kiln/pins.row[int, int]] -/
def an82 : Ann := ⟨[(1, [0, 2, 3])], [(3, [(0, [], []), (1, [], []), (2, [], []), (3, [], []), (4, [], []), (5, [], []), (6, [], []), (7, [], []), (8, [], []), (9, [], []), (10, [], []), (11, [], []), (12, [], []), (13, [], []), (14, [], []), (15, [], [])])], [(3, [0, 2, 3])], []⟩
noncomputable def tab : Tab := fun f => match f with
  | 3 => some (Try.f3, an3)
  | 4 => some (Try.f4, an4)
  | 5 => some (Try.f5, an5)
  | 6 => some (Try.f6, an6)
  | 7 => some (Try.f7, an7)
  | 8 => some (Try.f8, an8)
  | 9 => some (Try.f9, an9)
  | 10 => some (Try.f10, an10)
  | 11 => some (Try.f11, an11)
  | 12 => some (Try.f12, an12)
  | 13 => some (Try.f13, an13)
  | 14 => some (Try.f14, an14)
  | 15 => some (Try.f15, an15)
  | 16 => some (Try.f16, an16)
  | 17 => some (Try.f17, an17)
  | 18 => some (Try.f18, an18)
  | 19 => some (Try.f19, an19)
  | 20 => some (Try.f20, an20)
  | 21 => some (Try.f21, an21)
  | 22 => some (Try.f22, an22)
  | 23 => some (Try.f23, an23)
  | 24 => some (Try.f24, an24)
  | 25 => some (Try.f25, an25)
  | 26 => some (Try.f26, an26)
  | 27 => some (Try.f27, an27)
  | 28 => some (Try.f28, an28)
  | 29 => some (Try.f29, an29)
  | 30 => some (Try.f30, an30)
  | 31 => some (Try.f31, an31)
  | 32 => some (Try.f32, an32)
  | 33 => some (Try.f33, an33)
  | 34 => some (Try.f34, an34)
  | 35 => some (Try.f35, an35)
  | 36 => some (Try.f36, an36)
  | 37 => some (Try.f37, an37)
  | 39 => some (Try.f39, an39)
  | 40 => some (Try.f40, an40)
  | 41 => some (Try.f41, an41)
  | 42 => some (Try.f42, an42)
  | 43 => some (Try.f43, an43)
  | 44 => some (Try.f44, an44)
  | 45 => some (Try.f45, an45)
  | 46 => some (Try.f46, an46)
  | 47 => some (Try.f47, an47)
  | 48 => some (Try.f48, an48)
  | 49 => some (Try.f49, an49)
  | 50 => some (Try.f50, an50)
  | 51 => some (Try.f51, an51)
  | 52 => some (Try.f52, an52)
  | 53 => some (Try.f53, an53)
  | 54 => some (Try.f54, an54)
  | 55 => some (Try.f55, an55)
  | 56 => some (Try.f56, an56)
  | 57 => some (Try.f57, an57)
  | 58 => some (Try.f58, an58)
  | 59 => some (Try.f59, an59)
  | 62 => some (Try.f62, an62)
  | 63 => some (Try.f63, an63)
  | 64 => some (Try.f64, an64)
  | 65 => some (Try.f65, an65)
  | 66 => some (Try.f66, an66)
  | 67 => some (Try.f67, an67)
  | 68 => some (Try.f68, an68)
  | 69 => some (Try.f69, an69)
  | 70 => some (Try.f70, an70)
  | 71 => some (Try.f71, an71)
  | 72 => some (Try.f72, an72)
  | 73 => some (Try.f73, an73)
  | 74 => some (Try.f74, an74)
  | 75 => some (Try.f75, an75)
  | 76 => some (Try.f76, an76)
  | 77 => some (Try.f77, an77)
  | 79 => some (Try.f79, an79)
  | 80 => some (Try.f80, an80)
  | 81 => some (Try.f81, an81)
  | 82 => some (Try.f82, an82)
  | _ => none
theorem ok3 : fnOk Try.prog 0 an3 3 Try.f3 := ⟨Try.func3, by kernel_rfl, by kernel_rfl, by kernel_rfl, by kernel_rfl⟩
theorem ok4 : fnOk Try.prog 0 an4 4 Try.f4 := ⟨Try.func4, by kernel_rfl, by kernel_rfl, by kernel_rfl, by kernel_rfl⟩
theorem ok5 : fnOk Try.prog 0 an5 5 Try.f5 := ⟨Try.func5, by kernel_rfl, by kernel_rfl, by kernel_rfl, by kernel_rfl⟩
theorem ok6 : fnOk Try.prog 0 an6 6 Try.f6 := ⟨Try.func6, by kernel_rfl, by kernel_rfl, by kernel_rfl, by kernel_rfl⟩
theorem ok7 : fnOk Try.prog 0 an7 7 Try.f7 := ⟨Try.func7, by kernel_rfl, by kernel_rfl, by kernel_rfl, by kernel_rfl⟩
theorem ok8 : fnOk Try.prog 0 an8 8 Try.f8 := ⟨Try.func8, by kernel_rfl, by kernel_rfl, by kernel_rfl, by kernel_rfl⟩
theorem ok9 : fnOk Try.prog 0 an9 9 Try.f9 := ⟨Try.func9, by kernel_rfl, by kernel_rfl, by kernel_rfl, by kernel_rfl⟩
theorem ok10 : fnOk Try.prog 0 an10 10 Try.f10 := ⟨Try.func10, by kernel_rfl, by kernel_rfl, by kernel_rfl, by kernel_rfl⟩
theorem ok11 : fnOk Try.prog 0 an11 11 Try.f11 := ⟨Try.func11, by kernel_rfl, by kernel_rfl, by kernel_rfl, by kernel_rfl⟩
theorem ok12 : fnOk Try.prog 0 an12 12 Try.f12 := ⟨Try.func12, by kernel_rfl, by kernel_rfl, by kernel_rfl, by kernel_rfl⟩
theorem ok13 : fnOk Try.prog 0 an13 13 Try.f13 := ⟨Try.func13, by kernel_rfl, by kernel_rfl, by kernel_rfl, by kernel_rfl⟩
theorem ok14 : fnOk Try.prog 0 an14 14 Try.f14 := ⟨Try.func14, by kernel_rfl, by kernel_rfl, by kernel_rfl, by kernel_rfl⟩
theorem ok15 : fnOk Try.prog 0 an15 15 Try.f15 := ⟨Try.func15, by kernel_rfl, by kernel_rfl, by kernel_rfl, by kernel_rfl⟩
theorem ok16 : fnOk Try.prog 0 an16 16 Try.f16 := ⟨Try.func16, by kernel_rfl, by kernel_rfl, by kernel_rfl, by kernel_rfl⟩
theorem ok17 : fnOk Try.prog 0 an17 17 Try.f17 := ⟨Try.func17, by kernel_rfl, by kernel_rfl, by kernel_rfl, by kernel_rfl⟩
theorem ok18 : fnOk Try.prog 0 an18 18 Try.f18 := ⟨Try.func18, by kernel_rfl, by kernel_rfl, by kernel_rfl, by kernel_rfl⟩
theorem ok19 : fnOk Try.prog 0 an19 19 Try.f19 := ⟨Try.func19, by kernel_rfl, by kernel_rfl, by kernel_rfl, by kernel_rfl⟩
theorem ok20 : fnOk Try.prog 0 an20 20 Try.f20 := ⟨Try.func20, by kernel_rfl, by kernel_rfl, by kernel_rfl, by kernel_rfl⟩
theorem ok21 : fnOk Try.prog 0 an21 21 Try.f21 := ⟨Try.func21, by kernel_rfl, by kernel_rfl, by kernel_rfl, by kernel_rfl⟩
theorem ok22 : fnOk Try.prog 0 an22 22 Try.f22 := ⟨Try.func22, by kernel_rfl, by kernel_rfl, by kernel_rfl, by kernel_rfl⟩
theorem ok23 : fnOk Try.prog 0 an23 23 Try.f23 := ⟨Try.func23, by kernel_rfl, by kernel_rfl, by kernel_rfl, by kernel_rfl⟩
theorem ok24 : fnOk Try.prog 0 an24 24 Try.f24 := ⟨Try.func24, by kernel_rfl, by kernel_rfl, by kernel_rfl, by kernel_rfl⟩
theorem ok25 : fnOk Try.prog 0 an25 25 Try.f25 := ⟨Try.func25, by kernel_rfl, by kernel_rfl, by kernel_rfl, by kernel_rfl⟩
theorem ok26 : fnOk Try.prog 0 an26 26 Try.f26 := ⟨Try.func26, by kernel_rfl, by kernel_rfl, by kernel_rfl, by kernel_rfl⟩
theorem ok27 : fnOk Try.prog 0 an27 27 Try.f27 := ⟨Try.func27, by kernel_rfl, by kernel_rfl, by kernel_rfl, by kernel_rfl⟩
theorem ok28 : fnOk Try.prog 0 an28 28 Try.f28 := ⟨Try.func28, by kernel_rfl, by kernel_rfl, by kernel_rfl, by kernel_rfl⟩
theorem ok29 : fnOk Try.prog 0 an29 29 Try.f29 := ⟨Try.func29, by kernel_rfl, by kernel_rfl, by kernel_rfl, by kernel_rfl⟩
theorem ok30 : fnOk Try.prog 0 an30 30 Try.f30 := ⟨Try.func30, by kernel_rfl, by kernel_rfl, by kernel_rfl, by kernel_rfl⟩
theorem ok31 : fnOk Try.prog 0 an31 31 Try.f31 := ⟨Try.func31, by kernel_rfl, by kernel_rfl, by kernel_rfl, by kernel_rfl⟩
theorem ok32 : fnOk Try.prog 0 an32 32 Try.f32 := ⟨Try.func32, by kernel_rfl, by kernel_rfl, by kernel_rfl, by kernel_rfl⟩
theorem ok33 : fnOk Try.prog 0 an33 33 Try.f33 := ⟨Try.func33, by kernel_rfl, by kernel_rfl, by kernel_rfl, by kernel_rfl⟩
theorem ok34 : fnOk Try.prog 0 an34 34 Try.f34 := ⟨Try.func34, by kernel_rfl, by kernel_rfl, by kernel_rfl, by kernel_rfl⟩
theorem ok35 : fnOk Try.prog 0 an35 35 Try.f35 := ⟨Try.func35, by kernel_rfl, by kernel_rfl, by kernel_rfl, by kernel_rfl⟩
theorem ok36 : fnOk Try.prog 0 an36 36 Try.f36 := ⟨Try.func36, by kernel_rfl, by kernel_rfl, by kernel_rfl, by kernel_rfl⟩
theorem ok37 : fnOk Try.prog 0 an37 37 Try.f37 := ⟨Try.func37, by kernel_rfl, by kernel_rfl, by kernel_rfl, by kernel_rfl⟩
theorem ok39 : fnOk Try.prog 0 an39 39 Try.f39 := ⟨Try.func39, by kernel_rfl, by kernel_rfl, by kernel_rfl, by kernel_rfl⟩
theorem ok40 : fnOk Try.prog 0 an40 40 Try.f40 := ⟨Try.func40, by kernel_rfl, by kernel_rfl, by kernel_rfl, by kernel_rfl⟩
theorem ok41 : fnOk Try.prog 0 an41 41 Try.f41 := ⟨Try.func41, by kernel_rfl, by kernel_rfl, by kernel_rfl, by kernel_rfl⟩
theorem ok42 : fnOk Try.prog 0 an42 42 Try.f42 := ⟨Try.func42, by kernel_rfl, by kernel_rfl, by kernel_rfl, by kernel_rfl⟩
theorem ok43 : fnOk Try.prog 0 an43 43 Try.f43 := ⟨Try.func43, by kernel_rfl, by kernel_rfl, by kernel_rfl, by kernel_rfl⟩
theorem ok44 : fnOk Try.prog 0 an44 44 Try.f44 := ⟨Try.func44, by kernel_rfl, by kernel_rfl, by kernel_rfl, by kernel_rfl⟩
theorem ok45 : fnOk Try.prog 0 an45 45 Try.f45 := ⟨Try.func45, by kernel_rfl, by kernel_rfl, by kernel_rfl, by kernel_rfl⟩
theorem ok46 : fnOk Try.prog 0 an46 46 Try.f46 := ⟨Try.func46, by kernel_rfl, by kernel_rfl, by kernel_rfl, by kernel_rfl⟩
theorem ok47 : fnOk Try.prog 0 an47 47 Try.f47 := ⟨Try.func47, by kernel_rfl, by kernel_rfl, by kernel_rfl, by kernel_rfl⟩
theorem ok48 : fnOk Try.prog 0 an48 48 Try.f48 := ⟨Try.func48, by kernel_rfl, by kernel_rfl, by kernel_rfl, by kernel_rfl⟩
theorem ok49 : fnOk Try.prog 0 an49 49 Try.f49 := ⟨Try.func49, by kernel_rfl, by kernel_rfl, by kernel_rfl, by kernel_rfl⟩
theorem ok50 : fnOk Try.prog 0 an50 50 Try.f50 := ⟨Try.func50, by kernel_rfl, by kernel_rfl, by kernel_rfl, by kernel_rfl⟩
theorem ok51 : fnOk Try.prog 0 an51 51 Try.f51 := ⟨Try.func51, by kernel_rfl, by kernel_rfl, by kernel_rfl, by kernel_rfl⟩
theorem ok52 : fnOk Try.prog 0 an52 52 Try.f52 := ⟨Try.func52, by kernel_rfl, by kernel_rfl, by kernel_rfl, by kernel_rfl⟩
theorem ok53 : fnOk Try.prog 0 an53 53 Try.f53 := ⟨Try.func53, by kernel_rfl, by kernel_rfl, by kernel_rfl, by kernel_rfl⟩
theorem ok54 : fnOk Try.prog 0 an54 54 Try.f54 := ⟨Try.func54, by kernel_rfl, by kernel_rfl, by kernel_rfl, by kernel_rfl⟩
theorem ok55 : fnOk Try.prog 0 an55 55 Try.f55 := ⟨Try.func55, by kernel_rfl, by kernel_rfl, by kernel_rfl, by kernel_rfl⟩
theorem ok56 : fnOk Try.prog 0 an56 56 Try.f56 := ⟨Try.func56, by kernel_rfl, by kernel_rfl, by kernel_rfl, by kernel_rfl⟩
theorem ok57 : fnOk Try.prog 0 an57 57 Try.f57 := ⟨Try.func57, by kernel_rfl, by kernel_rfl, by kernel_rfl, by kernel_rfl⟩
theorem ok58 : fnOk Try.prog 0 an58 58 Try.f58 := ⟨Try.func58, by kernel_rfl, by kernel_rfl, by kernel_rfl, by kernel_rfl⟩
theorem ok59 : fnOk Try.prog 0 an59 59 Try.f59 := ⟨Try.func59, by kernel_rfl, by kernel_rfl, by kernel_rfl, by kernel_rfl⟩
theorem ok62 : fnOk Try.prog 0 an62 62 Try.f62 := ⟨Try.func62, by kernel_rfl, by kernel_rfl, by kernel_rfl, by kernel_rfl⟩
theorem ok63 : fnOk Try.prog 0 an63 63 Try.f63 := ⟨Try.func63, by kernel_rfl, by kernel_rfl, by kernel_rfl, by kernel_rfl⟩
theorem ok64 : fnOk Try.prog 0 an64 64 Try.f64 := ⟨Try.func64, by kernel_rfl, by kernel_rfl, by kernel_rfl, by kernel_rfl⟩
theorem ok65 : fnOk Try.prog 0 an65 65 Try.f65 := ⟨Try.func65, by kernel_rfl, by kernel_rfl, by kernel_rfl, by kernel_rfl⟩
theorem ok66 : fnOk Try.prog 0 an66 66 Try.f66 := ⟨Try.func66, by kernel_rfl, by kernel_rfl, by kernel_rfl, by kernel_rfl⟩
theorem ok67 : fnOk Try.prog 0 an67 67 Try.f67 := ⟨Try.func67, by kernel_rfl, by kernel_rfl, by kernel_rfl, by kernel_rfl⟩
theorem ok68 : fnOk Try.prog 0 an68 68 Try.f68 := ⟨Try.func68, by kernel_rfl, by kernel_rfl, by kernel_rfl, by kernel_rfl⟩
theorem ok69 : fnOk Try.prog 0 an69 69 Try.f69 := ⟨Try.func69, by kernel_rfl, by kernel_rfl, by kernel_rfl, by kernel_rfl⟩
theorem ok70 : fnOk Try.prog 0 an70 70 Try.f70 := ⟨Try.func70, by kernel_rfl, by kernel_rfl, by kernel_rfl, by kernel_rfl⟩
theorem ok71 : fnOk Try.prog 0 an71 71 Try.f71 := ⟨Try.func71, by kernel_rfl, by kernel_rfl, by kernel_rfl, by kernel_rfl⟩
theorem ok72 : fnOk Try.prog 0 an72 72 Try.f72 := ⟨Try.func72, by kernel_rfl, by kernel_rfl, by kernel_rfl, by kernel_rfl⟩
theorem ok73 : fnOk Try.prog 0 an73 73 Try.f73 := ⟨Try.func73, by kernel_rfl, by kernel_rfl, by kernel_rfl, by kernel_rfl⟩
theorem ok74 : fnOk Try.prog 0 an74 74 Try.f74 := ⟨Try.func74, by kernel_rfl, by kernel_rfl, by kernel_rfl, by kernel_rfl⟩
theorem ok75 : fnOk Try.prog 0 an75 75 Try.f75 := ⟨Try.func75, by kernel_rfl, by kernel_rfl, by kernel_rfl, by kernel_rfl⟩
theorem ok76 : fnOk Try.prog 0 an76 76 Try.f76 := ⟨Try.func76, by kernel_rfl, by kernel_rfl, by kernel_rfl, by kernel_rfl⟩
theorem ok77 : fnOk Try.prog 0 an77 77 Try.f77 := ⟨Try.func77, by kernel_rfl, by kernel_rfl, by kernel_rfl, by kernel_rfl⟩
theorem ok79 : fnOk Try.prog 0 an79 79 Try.f79 := ⟨Try.func79, by kernel_rfl, by kernel_rfl, by kernel_rfl, by kernel_rfl⟩
theorem ok80 : fnOk Try.prog 0 an80 80 Try.f80 := ⟨Try.func80, by kernel_rfl, by kernel_rfl, by kernel_rfl, by kernel_rfl⟩
theorem ok81 : fnOk Try.prog 0 an81 81 Try.f81 := ⟨Try.func81, by kernel_rfl, by kernel_rfl, by kernel_rfl, by kernel_rfl⟩
theorem ok82 : fnOk Try.prog 0 an82 82 Try.f82 := ⟨Try.func82, by kernel_rfl, by kernel_rfl, by kernel_rfl, by kernel_rfl⟩
theorem tab_ok : ∀ f fn an, tab f = some (fn, an) → fnOk Try.prog 0 an f fn := by
  intro f fn an h
  unfold tab at h
  split at h
  · cases h; exact ok3
  · cases h; exact ok4
  · cases h; exact ok5
  · cases h; exact ok6
  · cases h; exact ok7
  · cases h; exact ok8
  · cases h; exact ok9
  · cases h; exact ok10
  · cases h; exact ok11
  · cases h; exact ok12
  · cases h; exact ok13
  · cases h; exact ok14
  · cases h; exact ok15
  · cases h; exact ok16
  · cases h; exact ok17
  · cases h; exact ok18
  · cases h; exact ok19
  · cases h; exact ok20
  · cases h; exact ok21
  · cases h; exact ok22
  · cases h; exact ok23
  · cases h; exact ok24
  · cases h; exact ok25
  · cases h; exact ok26
  · cases h; exact ok27
  · cases h; exact ok28
  · cases h; exact ok29
  · cases h; exact ok30
  · cases h; exact ok31
  · cases h; exact ok32
  · cases h; exact ok33
  · cases h; exact ok34
  · cases h; exact ok35
  · cases h; exact ok36
  · cases h; exact ok37
  · cases h; exact ok39
  · cases h; exact ok40
  · cases h; exact ok41
  · cases h; exact ok42
  · cases h; exact ok43
  · cases h; exact ok44
  · cases h; exact ok45
  · cases h; exact ok46
  · cases h; exact ok47
  · cases h; exact ok48
  · cases h; exact ok49
  · cases h; exact ok50
  · cases h; exact ok51
  · cases h; exact ok52
  · cases h; exact ok53
  · cases h; exact ok54
  · cases h; exact ok55
  · cases h; exact ok56
  · cases h; exact ok57
  · cases h; exact ok58
  · cases h; exact ok59
  · cases h; exact ok62
  · cases h; exact ok63
  · cases h; exact ok64
  · cases h; exact ok65
  · cases h; exact ok66
  · cases h; exact ok67
  · cases h; exact ok68
  · cases h; exact ok69
  · cases h; exact ok70
  · cases h; exact ok71
  · cases h; exact ok72
  · cases h; exact ok73
  · cases h; exact ok74
  · cases h; exact ok75
  · cases h; exact ok76
  · cases h; exact ok77
  · cases h; exact ok79
  · cases h; exact ok80
  · cases h; exact ok81
  · cases h; exact ok82
  · cases h
end Go.Proofs.Ytomboannkblccaa.K
